/- How the types of the laws' parameters open (written by row.py). -/
import Derived.Test.YtiobphijbpdolaaOpen
import Derived.Test.YtiobphijbpdolaaPx0
namespace Go.Proofs.Ytiobphijbpdolaa.P
open Go.RowKit Go.Proofs.YtiobphijbpdolaaW.PrintWords Go.Proofs.YtiobphijbpdolaaW.PrintLast Go.Proofs.YtiobphijbpdolaaW.PrintMore Go.Proofs.Ytiobphijbpdolaa.Open
def F3 (x : Int) : Prop := (Lit.int .i64 x).wf = true
theorem op3 : Opn (Kd.int .i64) Try.prog 3 F3 := Opn.int Try.underlying3
def F9 (x : ByteArray) : Prop := x.size ≤ 140737488351232
theorem op9 : Opn Kd.string Try.prog 9 F9 := Opn.string Try.underlying9
def F24 (x : S24) : Prop := F3 x.f0 ∧ F9 x.f1
theorem op24 : Opn k24 Try.prog 24 F24 := Opn.struct (d := (Kd.pair (Kd.int .i64) Kd.string)) (F := fun a : Int × ByteArray => F3 a.1 ∧ F9 a.2) (fun x : S24 => (x.f0, x.f1)) (fun a => ⟨a.1, a.2⟩) (fun _ => rfl) Try.underlying24 (by kernel_rfl) (Ofs.cons (F := F3) (F2 := fun a : ByteArray => F9 a) rfl rfl (by kernel_rfl) op3 (Ofs.last rfl rfl (by kernel_rfl) op9))
def F22 (x : List S24) : Prop := x.length * 24 ≤ 140737488351232 ∧ ∀ y ∈ x, F24 y
theorem op22 : Opn (Kd.slice 24 k24) Try.prog 22 F22 := Opn.slice (B := 24) Try.underlying22 op24 (by kernel_rfl) (by kernel_rfl)
def F41 (x : List ByteArray) : Prop := x.length * 16 ≤ 140737488351232 ∧ ∀ y ∈ x, F9 y
theorem op41 : Opn (Kd.slice 9 Kd.string) Try.prog 41 F41 := Opn.slice (B := 16) Try.underlying41 op9 (by kernel_rfl) (by kernel_rfl)
structure S43 where
  f0 : List ByteArray
  f1 : List S24
  f2 : Int
  f3 : Int
  f4 : Int
  f5 : Int
  f6 : Int
  f7 : Int
  f8 : Int
  f9 : Int
  f10 : Int
  f11 : Int
def k43 : Kd S43 := Kd.iso (Kd.pair (Kd.slice 9 Kd.string) (Kd.pair (Kd.slice 24 k24) (Kd.pair (Kd.int .i64) (Kd.pair (Kd.int .i64) (Kd.pair (Kd.int .i64) (Kd.pair (Kd.int .i64) (Kd.pair (Kd.int .i64) (Kd.pair (Kd.int .i64) (Kd.pair (Kd.int .i64) (Kd.pair (Kd.int .i64) (Kd.pair (Kd.int .i64) (Kd.int .i64)))))))))))) (fun x : S43 => (x.f0, x.f1, x.f2, x.f3, x.f4, x.f5, x.f6, x.f7, x.f8, x.f9, x.f10, x.f11))
def F43 (x : S43) : Prop := F41 x.f0 ∧ F22 x.f1 ∧ F3 x.f2 ∧ F3 x.f3 ∧ F3 x.f4 ∧ F3 x.f5 ∧ F3 x.f6 ∧ F3 x.f7 ∧ F3 x.f8 ∧ F3 x.f9 ∧ F3 x.f10 ∧ F3 x.f11
theorem op43 : Opn k43 Try.prog 43 F43 := Opn.struct (d := (Kd.pair (Kd.slice 9 Kd.string) (Kd.pair (Kd.slice 24 k24) (Kd.pair (Kd.int .i64) (Kd.pair (Kd.int .i64) (Kd.pair (Kd.int .i64) (Kd.pair (Kd.int .i64) (Kd.pair (Kd.int .i64) (Kd.pair (Kd.int .i64) (Kd.pair (Kd.int .i64) (Kd.pair (Kd.int .i64) (Kd.pair (Kd.int .i64) (Kd.int .i64))))))))))))) (F := fun a : (List ByteArray) × (List S24) × Int × Int × Int × Int × Int × Int × Int × Int × Int × Int => F41 a.1 ∧ (F22 a.2.1 ∧ (F3 a.2.2.1 ∧ (F3 a.2.2.2.1 ∧ (F3 a.2.2.2.2.1 ∧ (F3 a.2.2.2.2.2.1 ∧ (F3 a.2.2.2.2.2.2.1 ∧ (F3 a.2.2.2.2.2.2.2.1 ∧ (F3 a.2.2.2.2.2.2.2.2.1 ∧ (F3 a.2.2.2.2.2.2.2.2.2.1 ∧ (F3 a.2.2.2.2.2.2.2.2.2.2.1 ∧ F3 a.2.2.2.2.2.2.2.2.2.2.2))))))))))) (fun x : S43 => (x.f0, x.f1, x.f2, x.f3, x.f4, x.f5, x.f6, x.f7, x.f8, x.f9, x.f10, x.f11)) (fun a => ⟨a.1, a.2.1, a.2.2.1, a.2.2.2.1, a.2.2.2.2.1, a.2.2.2.2.2.1, a.2.2.2.2.2.2.1, a.2.2.2.2.2.2.2.1, a.2.2.2.2.2.2.2.2.1, a.2.2.2.2.2.2.2.2.2.1, a.2.2.2.2.2.2.2.2.2.2.1, a.2.2.2.2.2.2.2.2.2.2.2⟩) (fun _ => rfl) Try.underlying43 (by kernel_rfl) (Ofs.cons (F := F41) (F2 := fun a : (List S24) × Int × Int × Int × Int × Int × Int × Int × Int × Int × Int => F22 a.1 ∧ F3 a.2.1 ∧ F3 a.2.2.1 ∧ F3 a.2.2.2.1 ∧ F3 a.2.2.2.2.1 ∧ F3 a.2.2.2.2.2.1 ∧ F3 a.2.2.2.2.2.2.1 ∧ F3 a.2.2.2.2.2.2.2.1 ∧ F3 a.2.2.2.2.2.2.2.2.1 ∧ F3 a.2.2.2.2.2.2.2.2.2.1 ∧ F3 a.2.2.2.2.2.2.2.2.2.2) rfl rfl (by kernel_rfl) op41 (Ofs.cons (F := F22) (F2 := fun a : Int × Int × Int × Int × Int × Int × Int × Int × Int × Int => F3 a.1 ∧ F3 a.2.1 ∧ F3 a.2.2.1 ∧ F3 a.2.2.2.1 ∧ F3 a.2.2.2.2.1 ∧ F3 a.2.2.2.2.2.1 ∧ F3 a.2.2.2.2.2.2.1 ∧ F3 a.2.2.2.2.2.2.2.1 ∧ F3 a.2.2.2.2.2.2.2.2.1 ∧ F3 a.2.2.2.2.2.2.2.2.2) rfl rfl (by kernel_rfl) op22 (Ofs.cons (F := F3) (F2 := fun a : Int × Int × Int × Int × Int × Int × Int × Int × Int => F3 a.1 ∧ F3 a.2.1 ∧ F3 a.2.2.1 ∧ F3 a.2.2.2.1 ∧ F3 a.2.2.2.2.1 ∧ F3 a.2.2.2.2.2.1 ∧ F3 a.2.2.2.2.2.2.1 ∧ F3 a.2.2.2.2.2.2.2.1 ∧ F3 a.2.2.2.2.2.2.2.2) rfl rfl (by kernel_rfl) op3 (Ofs.cons (F := F3) (F2 := fun a : Int × Int × Int × Int × Int × Int × Int × Int => F3 a.1 ∧ F3 a.2.1 ∧ F3 a.2.2.1 ∧ F3 a.2.2.2.1 ∧ F3 a.2.2.2.2.1 ∧ F3 a.2.2.2.2.2.1 ∧ F3 a.2.2.2.2.2.2.1 ∧ F3 a.2.2.2.2.2.2.2) rfl rfl (by kernel_rfl) op3 (Ofs.cons (F := F3) (F2 := fun a : Int × Int × Int × Int × Int × Int × Int => F3 a.1 ∧ F3 a.2.1 ∧ F3 a.2.2.1 ∧ F3 a.2.2.2.1 ∧ F3 a.2.2.2.2.1 ∧ F3 a.2.2.2.2.2.1 ∧ F3 a.2.2.2.2.2.2) rfl rfl (by kernel_rfl) op3 (Ofs.cons (F := F3) (F2 := fun a : Int × Int × Int × Int × Int × Int => F3 a.1 ∧ F3 a.2.1 ∧ F3 a.2.2.1 ∧ F3 a.2.2.2.1 ∧ F3 a.2.2.2.2.1 ∧ F3 a.2.2.2.2.2) rfl rfl (by kernel_rfl) op3 (Ofs.cons (F := F3) (F2 := fun a : Int × Int × Int × Int × Int => F3 a.1 ∧ F3 a.2.1 ∧ F3 a.2.2.1 ∧ F3 a.2.2.2.1 ∧ F3 a.2.2.2.2) rfl rfl (by kernel_rfl) op3 (Ofs.cons (F := F3) (F2 := fun a : Int × Int × Int × Int => F3 a.1 ∧ F3 a.2.1 ∧ F3 a.2.2.1 ∧ F3 a.2.2.2) rfl rfl (by kernel_rfl) op3 (Ofs.cons (F := F3) (F2 := fun a : Int × Int × Int => F3 a.1 ∧ F3 a.2.1 ∧ F3 a.2.2) rfl rfl (by kernel_rfl) op3 (Ofs.cons (F := F3) (F2 := fun a : Int × Int => F3 a.1 ∧ F3 a.2) rfl rfl (by kernel_rfl) op3 (Ofs.cons (F := F3) (F2 := fun a : Int => F3 a) rfl rfl (by kernel_rfl) op3 (Ofs.last rfl rfl (by kernel_rfl) op3))))))))))))
def F66 (x : S66) : Prop := F9 x.f0 ∧ F3 x.f1 ∧ F3 x.f2
theorem op66 : Opn k66 Try.prog 66 F66 := Opn.struct (d := (Kd.pair Kd.string (Kd.pair (Kd.int .i64) (Kd.int .i64)))) (F := fun a : ByteArray × Int × Int => F9 a.1 ∧ (F3 a.2.1 ∧ F3 a.2.2)) (fun x : S66 => (x.f0, x.f1, x.f2)) (fun a => ⟨a.1, a.2.1, a.2.2⟩) (fun _ => rfl) Try.underlying66 (by kernel_rfl) (Ofs.cons (F := F9) (F2 := fun a : Int × Int => F3 a.1 ∧ F3 a.2) rfl rfl (by kernel_rfl) op9 (Ofs.cons (F := F3) (F2 := fun a : Int => F3 a) rfl rfl (by kernel_rfl) op3 (Ofs.last rfl rfl (by kernel_rfl) op3)))
def F68 (x : S68) : Prop := F3 x.f0 ∧ F3 x.f1 ∧ F3 x.f2 ∧ F3 x.f3 ∧ F66 x.f4
theorem op68 : Opn k68 Try.prog 68 F68 := Opn.struct (d := (Kd.pair (Kd.int .i64) (Kd.pair (Kd.int .i64) (Kd.pair (Kd.int .i64) (Kd.pair (Kd.int .i64) k66))))) (F := fun a : Int × Int × Int × Int × S66 => F3 a.1 ∧ (F3 a.2.1 ∧ (F3 a.2.2.1 ∧ (F3 a.2.2.2.1 ∧ F66 a.2.2.2.2)))) (fun x : S68 => (x.f0, x.f1, x.f2, x.f3, x.f4)) (fun a => ⟨a.1, a.2.1, a.2.2.1, a.2.2.2.1, a.2.2.2.2⟩) (fun _ => rfl) Try.underlying68 (by kernel_rfl) (Ofs.cons (F := F3) (F2 := fun a : Int × Int × Int × S66 => F3 a.1 ∧ F3 a.2.1 ∧ F3 a.2.2.1 ∧ F66 a.2.2.2) rfl rfl (by kernel_rfl) op3 (Ofs.cons (F := F3) (F2 := fun a : Int × Int × S66 => F3 a.1 ∧ F3 a.2.1 ∧ F66 a.2.2) rfl rfl (by kernel_rfl) op3 (Ofs.cons (F := F3) (F2 := fun a : Int × S66 => F3 a.1 ∧ F66 a.2) rfl rfl (by kernel_rfl) op3 (Ofs.cons (F := F3) (F2 := fun a : S66 => F66 a) rfl rfl (by kernel_rfl) op3 (Ofs.last rfl rfl (by kernel_rfl) op66)))))
def F73 (x : S73) : Prop := F3 x.f0 ∧ F3 x.f1 ∧ F3 x.f2
theorem op73 : Opn k73 Try.prog 73 F73 := Opn.struct (d := (Kd.pair (Kd.int .i64) (Kd.pair (Kd.int .i64) (Kd.int .i64)))) (F := fun a : Int × Int × Int => F3 a.1 ∧ (F3 a.2.1 ∧ F3 a.2.2)) (fun x : S73 => (x.f0, x.f1, x.f2)) (fun a => ⟨a.1, a.2.1, a.2.2⟩) (fun _ => rfl) Try.underlying73 (by kernel_rfl) (Ofs.cons (F := F3) (F2 := fun a : Int × Int => F3 a.1 ∧ F3 a.2) rfl rfl (by kernel_rfl) op3 (Ofs.cons (F := F3) (F2 := fun a : Int => F3 a) rfl rfl (by kernel_rfl) op3 (Ofs.last rfl rfl (by kernel_rfl) op3)))
def F69 (x : List S73) : Prop := x.length * 24 ≤ 140737488351232 ∧ ∀ y ∈ x, F73 y
theorem op69 : Opn (Kd.slice 73 k73) Try.prog 69 F69 := Opn.slice (B := 24) Try.underlying69 op73 (by kernel_rfl) (by kernel_rfl)
def F45 (x : List Int) : Prop := x.length * 8 ≤ 140737488351232 ∧ ∀ y ∈ x, F3 y
theorem op45 : Opn (Kd.slice 3 (Kd.int .i64)) Try.prog 45 F45 := Opn.slice (B := 8) Try.underlying45 op3 (by kernel_rfl) (by kernel_rfl)
def F71 (x : S71) : Prop := F68 x.f0 ∧ F3 x.f1 ∧ F3 x.f2 ∧ F69 x.f3 ∧ F3 x.f4 ∧ F45 x.f5
theorem op71 : Opn k71 Try.prog 71 F71 := Opn.struct (d := (Kd.pair k68 (Kd.pair (Kd.int .i64) (Kd.pair (Kd.int .i64) (Kd.pair (Kd.slice 73 k73) (Kd.pair (Kd.int .i64) (Kd.slice 3 (Kd.int .i64)))))))) (F := fun a : S68 × Int × Int × (List S73) × Int × (List Int) => F68 a.1 ∧ (F3 a.2.1 ∧ (F3 a.2.2.1 ∧ (F69 a.2.2.2.1 ∧ (F3 a.2.2.2.2.1 ∧ F45 a.2.2.2.2.2))))) (fun x : S71 => (x.f0, x.f1, x.f2, x.f3, x.f4, x.f5)) (fun a => ⟨a.1, a.2.1, a.2.2.1, a.2.2.2.1, a.2.2.2.2.1, a.2.2.2.2.2⟩) (fun _ => rfl) Try.underlying71 (by kernel_rfl) (Ofs.cons (F := F68) (F2 := fun a : Int × Int × (List S73) × Int × (List Int) => F3 a.1 ∧ F3 a.2.1 ∧ F69 a.2.2.1 ∧ F3 a.2.2.2.1 ∧ F45 a.2.2.2.2) rfl rfl (by kernel_rfl) op68 (Ofs.cons (F := F3) (F2 := fun a : Int × (List S73) × Int × (List Int) => F3 a.1 ∧ F69 a.2.1 ∧ F3 a.2.2.1 ∧ F45 a.2.2.2) rfl rfl (by kernel_rfl) op3 (Ofs.cons (F := F3) (F2 := fun a : (List S73) × Int × (List Int) => F69 a.1 ∧ F3 a.2.1 ∧ F45 a.2.2) rfl rfl (by kernel_rfl) op3 (Ofs.cons (F := F69) (F2 := fun a : Int × (List Int) => F3 a.1 ∧ F45 a.2) rfl rfl (by kernel_rfl) op69 (Ofs.cons (F := F3) (F2 := fun a : (List Int) => F45 a) rfl rfl (by kernel_rfl) op3 (Ofs.last rfl rfl (by kernel_rfl) op45))))))
def F62 (x : List S71) : Prop := x.length * 136 ≤ 140737488351232 ∧ ∀ y ∈ x, F71 y
theorem op62 : Opn (Kd.slice 71 k71) Try.prog 62 F62 := Opn.slice (B := 136) Try.underlying62 op71 (by kernel_rfl) (by kernel_rfl)
theorem opn24 {w : World} {x : S24} {cs : List Value} (h : k24.K w x cs) : cs = [.int .i64 x.f0, .string x.f1] := by
  obtain ⟨_, _, rfl, rfl, rfl⟩ := h
  exact rfl
theorem opn43 {w : World} {x : S43} {cs : List Value} (h : k43.K w x cs) : ∃ A0 c0 A1 c1, cs = [.slice A0 x.f0.length c0, .slice A1 x.f1.length c1, .int .i64 x.f2, .int .i64 x.f3, .int .i64 x.f4, .int .i64 x.f5, .int .i64 x.f6, .int .i64 x.f7, .int .i64 x.f8, .int .i64 x.f9, .int .i64 x.f10, .int .i64 x.f11] ∧ x.f0.length ≤ c0 ∧ Kd.C Kd.string w A0 x.f0.length x.f0 ∧ x.f1.length ≤ c1 ∧ Kd.C k24 w A1 x.f1.length x.f1 := by
  obtain ⟨_, _, rfl, ⟨A0, c0, rfl, hc0, hr0⟩, ⟨_, _, rfl, ⟨A1, c1, rfl, hc1, hr1⟩, ⟨_, _, rfl, rfl, ⟨_, _, rfl, rfl, ⟨_, _, rfl, rfl, ⟨_, _, rfl, rfl, ⟨_, _, rfl, rfl, ⟨_, _, rfl, rfl, ⟨_, _, rfl, rfl, ⟨_, _, rfl, rfl, ⟨_, _, rfl, rfl, rfl⟩⟩⟩⟩⟩⟩⟩⟩⟩⟩⟩ := h
  exact ⟨A0, c0, A1, c1, rfl, hc0, hr0, hc1, hr1⟩
end Go.Proofs.Ytiobphijbpdolaa.P
