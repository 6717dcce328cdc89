/- How the types of the laws' parameters open (written by row.py). -/
import Derived.Test.YtffokmamcempgaaOpen
import Derived.Test.YtffokmamcempgaaWLast
import Derived.Test.YtffokmamcempgaaProg
namespace Go.Proofs.Ytffokmamcempgaa.P
open Go.RowKit Go.Proofs.YtffokmamcempgaaW.PrintWords Go.Proofs.YtffokmamcempgaaW.PrintLast Go.Proofs.Ytffokmamcempgaa.Open
def F9 (x : ByteArray) : Prop := x.size ≤ 140737488351232
theorem op9 : Opn Kd.string Try.prog 9 F9 := Opn.string Try.underlying9
def F22 (x : List ByteArray) : Prop := x.length * 16 ≤ 140737488351232 ∧ ∀ y ∈ x, F9 y
theorem op22 : Opn (Kd.slice 9 Kd.string) Try.prog 22 F22 := Opn.slice (B := 16) Try.underlying22 op9 (by kernel_rfl) (by kernel_rfl)
def F3 (x : Int) : Prop := (Lit.int .i64 x).wf = true
theorem op3 : Opn (Kd.int .i64) Try.prog 3 F3 := Opn.int Try.underlying3
structure S65 where
  f0 : Int
  f1 : ByteArray
def k65 : Kd S65 := Kd.iso (Kd.pair (Kd.int .i64) Kd.string) (fun x : S65 => (x.f0, x.f1))
def F65 (x : S65) : Prop := F3 x.f0 ∧ F9 x.f1
theorem op65 : Opn k65 Try.prog 65 F65 := Opn.struct (d := (Kd.pair (Kd.int .i64) Kd.string)) (F := fun a : Int × ByteArray => F3 a.1 ∧ F9 a.2) (fun x : S65 => (x.f0, x.f1)) (fun a => ⟨a.1, a.2⟩) (fun _ => rfl) Try.underlying65 (by kernel_rfl) (Ofs.cons (F := F3) (F2 := fun a : ByteArray => F9 a) rfl rfl (by kernel_rfl) op3 (Ofs.last rfl rfl (by kernel_rfl) op9))
def F23 (x : List S65) : Prop := x.length * 24 ≤ 140737488351232 ∧ ∀ y ∈ x, F65 y
theorem op23 : Opn (Kd.slice 65 k65) Try.prog 23 F23 := Opn.slice (B := 24) Try.underlying23 op65 (by kernel_rfl) (by kernel_rfl)
structure S25 where
  f0 : List ByteArray
  f1 : List S65
  f2 : Int
  f3 : Int
  f4 : Int
  f5 : Int
  f6 : Int
  f7 : Int
  f8 : Int
  f9 : Int
  f10 : Int
  f11 : Int
def k25 : Kd S25 := Kd.iso (Kd.pair (Kd.slice 9 Kd.string) (Kd.pair (Kd.slice 65 k65) (Kd.pair (Kd.int .i64) (Kd.pair (Kd.int .i64) (Kd.pair (Kd.int .i64) (Kd.pair (Kd.int .i64) (Kd.pair (Kd.int .i64) (Kd.pair (Kd.int .i64) (Kd.pair (Kd.int .i64) (Kd.pair (Kd.int .i64) (Kd.pair (Kd.int .i64) (Kd.int .i64)))))))))))) (fun x : S25 => (x.f0, x.f1, x.f2, x.f3, x.f4, x.f5, x.f6, x.f7, x.f8, x.f9, x.f10, x.f11))
def F25 (x : S25) : Prop := F22 x.f0 ∧ F23 x.f1 ∧ F3 x.f2 ∧ F3 x.f3 ∧ F3 x.f4 ∧ F3 x.f5 ∧ F3 x.f6 ∧ F3 x.f7 ∧ F3 x.f8 ∧ F3 x.f9 ∧ F3 x.f10 ∧ F3 x.f11
theorem op25 : Opn k25 Try.prog 25 F25 := Opn.struct (d := (Kd.pair (Kd.slice 9 Kd.string) (Kd.pair (Kd.slice 65 k65) (Kd.pair (Kd.int .i64) (Kd.pair (Kd.int .i64) (Kd.pair (Kd.int .i64) (Kd.pair (Kd.int .i64) (Kd.pair (Kd.int .i64) (Kd.pair (Kd.int .i64) (Kd.pair (Kd.int .i64) (Kd.pair (Kd.int .i64) (Kd.pair (Kd.int .i64) (Kd.int .i64))))))))))))) (F := fun a : (List ByteArray) × (List S65) × Int × Int × Int × Int × Int × Int × Int × Int × Int × Int => F22 a.1 ∧ (F23 a.2.1 ∧ (F3 a.2.2.1 ∧ (F3 a.2.2.2.1 ∧ (F3 a.2.2.2.2.1 ∧ (F3 a.2.2.2.2.2.1 ∧ (F3 a.2.2.2.2.2.2.1 ∧ (F3 a.2.2.2.2.2.2.2.1 ∧ (F3 a.2.2.2.2.2.2.2.2.1 ∧ (F3 a.2.2.2.2.2.2.2.2.2.1 ∧ (F3 a.2.2.2.2.2.2.2.2.2.2.1 ∧ F3 a.2.2.2.2.2.2.2.2.2.2.2))))))))))) (fun x : S25 => (x.f0, x.f1, x.f2, x.f3, x.f4, x.f5, x.f6, x.f7, x.f8, x.f9, x.f10, x.f11)) (fun a => ⟨a.1, a.2.1, a.2.2.1, a.2.2.2.1, a.2.2.2.2.1, a.2.2.2.2.2.1, a.2.2.2.2.2.2.1, a.2.2.2.2.2.2.2.1, a.2.2.2.2.2.2.2.2.1, a.2.2.2.2.2.2.2.2.2.1, a.2.2.2.2.2.2.2.2.2.2.1, a.2.2.2.2.2.2.2.2.2.2.2⟩) (fun _ => rfl) Try.underlying25 (by kernel_rfl) (Ofs.cons (F := F22) (F2 := fun a : (List S65) × Int × Int × Int × Int × Int × Int × Int × Int × Int × Int => F23 a.1 ∧ F3 a.2.1 ∧ F3 a.2.2.1 ∧ F3 a.2.2.2.1 ∧ F3 a.2.2.2.2.1 ∧ F3 a.2.2.2.2.2.1 ∧ F3 a.2.2.2.2.2.2.1 ∧ F3 a.2.2.2.2.2.2.2.1 ∧ F3 a.2.2.2.2.2.2.2.2.1 ∧ F3 a.2.2.2.2.2.2.2.2.2.1 ∧ F3 a.2.2.2.2.2.2.2.2.2.2) rfl rfl (by kernel_rfl) op22 (Ofs.cons (F := F23) (F2 := fun a : Int × Int × Int × Int × Int × Int × Int × Int × Int × Int => F3 a.1 ∧ F3 a.2.1 ∧ F3 a.2.2.1 ∧ F3 a.2.2.2.1 ∧ F3 a.2.2.2.2.1 ∧ F3 a.2.2.2.2.2.1 ∧ F3 a.2.2.2.2.2.2.1 ∧ F3 a.2.2.2.2.2.2.2.1 ∧ F3 a.2.2.2.2.2.2.2.2.1 ∧ F3 a.2.2.2.2.2.2.2.2.2) rfl rfl (by kernel_rfl) op23 (Ofs.cons (F := F3) (F2 := fun a : Int × Int × Int × Int × Int × Int × Int × Int × Int => F3 a.1 ∧ F3 a.2.1 ∧ F3 a.2.2.1 ∧ F3 a.2.2.2.1 ∧ F3 a.2.2.2.2.1 ∧ F3 a.2.2.2.2.2.1 ∧ F3 a.2.2.2.2.2.2.1 ∧ F3 a.2.2.2.2.2.2.2.1 ∧ F3 a.2.2.2.2.2.2.2.2) rfl rfl (by kernel_rfl) op3 (Ofs.cons (F := F3) (F2 := fun a : Int × Int × Int × Int × Int × Int × Int × Int => F3 a.1 ∧ F3 a.2.1 ∧ F3 a.2.2.1 ∧ F3 a.2.2.2.1 ∧ F3 a.2.2.2.2.1 ∧ F3 a.2.2.2.2.2.1 ∧ F3 a.2.2.2.2.2.2.1 ∧ F3 a.2.2.2.2.2.2.2) rfl rfl (by kernel_rfl) op3 (Ofs.cons (F := F3) (F2 := fun a : Int × Int × Int × Int × Int × Int × Int => F3 a.1 ∧ F3 a.2.1 ∧ F3 a.2.2.1 ∧ F3 a.2.2.2.1 ∧ F3 a.2.2.2.2.1 ∧ F3 a.2.2.2.2.2.1 ∧ F3 a.2.2.2.2.2.2) rfl rfl (by kernel_rfl) op3 (Ofs.cons (F := F3) (F2 := fun a : Int × Int × Int × Int × Int × Int => F3 a.1 ∧ F3 a.2.1 ∧ F3 a.2.2.1 ∧ F3 a.2.2.2.1 ∧ F3 a.2.2.2.2.1 ∧ F3 a.2.2.2.2.2) rfl rfl (by kernel_rfl) op3 (Ofs.cons (F := F3) (F2 := fun a : Int × Int × Int × Int × Int => F3 a.1 ∧ F3 a.2.1 ∧ F3 a.2.2.1 ∧ F3 a.2.2.2.1 ∧ F3 a.2.2.2.2) rfl rfl (by kernel_rfl) op3 (Ofs.cons (F := F3) (F2 := fun a : Int × Int × Int × Int => F3 a.1 ∧ F3 a.2.1 ∧ F3 a.2.2.1 ∧ F3 a.2.2.2) rfl rfl (by kernel_rfl) op3 (Ofs.cons (F := F3) (F2 := fun a : Int × Int × Int => F3 a.1 ∧ F3 a.2.1 ∧ F3 a.2.2) rfl rfl (by kernel_rfl) op3 (Ofs.cons (F := F3) (F2 := fun a : Int × Int => F3 a.1 ∧ F3 a.2) rfl rfl (by kernel_rfl) op3 (Ofs.cons (F := F3) (F2 := fun a : Int => F3 a) rfl rfl (by kernel_rfl) op3 (Ofs.last rfl rfl (by kernel_rfl) op3))))))))))))
def F28 (x : List Int) : Prop := x.length * 8 ≤ 140737488351232 ∧ ∀ y ∈ x, F3 y
theorem op28 : Opn (Kd.slice 3 (Kd.int .i64)) Try.prog 28 F28 := Opn.slice (B := 8) Try.underlying28 op3 (by kernel_rfl) (by kernel_rfl)
theorem opn25 {w : World} {x : S25} {cs : List Value} (h : k25.K w x cs) : ∃ A0 c0 A1 c1, cs = [.slice A0 x.f0.length c0, .slice A1 x.f1.length c1, .int .i64 x.f2, .int .i64 x.f3, .int .i64 x.f4, .int .i64 x.f5, .int .i64 x.f6, .int .i64 x.f7, .int .i64 x.f8, .int .i64 x.f9, .int .i64 x.f10, .int .i64 x.f11] ∧ x.f0.length ≤ c0 ∧ Kd.C Kd.string w A0 x.f0.length x.f0 ∧ x.f1.length ≤ c1 ∧ Kd.C k65 w A1 x.f1.length x.f1 := by
  obtain ⟨_, _, rfl, ⟨A0, c0, rfl, hc0, hr0⟩, ⟨_, _, rfl, ⟨A1, c1, rfl, hc1, hr1⟩, ⟨_, _, rfl, rfl, ⟨_, _, rfl, rfl, ⟨_, _, rfl, rfl, ⟨_, _, rfl, rfl, ⟨_, _, rfl, rfl, ⟨_, _, rfl, rfl, ⟨_, _, rfl, rfl, ⟨_, _, rfl, rfl, ⟨_, _, rfl, rfl, rfl⟩⟩⟩⟩⟩⟩⟩⟩⟩⟩⟩ := h
  exact ⟨A0, c0, A1, c1, rfl, hc0, hr0, hc1, hr1⟩
end Go.Proofs.Ytffokmamcempgaa.P
