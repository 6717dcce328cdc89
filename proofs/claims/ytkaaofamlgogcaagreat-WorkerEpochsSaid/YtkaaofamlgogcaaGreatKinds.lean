/- How the types of the laws' parameters open (written by row.py). -/
import Derived.Test.YtkaaofamlgogcaaGreatOpen
import Derived.Test.YtkaaofamlgogcaaGreatWLast
import Derived.Test.YtkaaofamlgogcaaGreatWMore
import Derived.Test.YtkaaofamlgogcaaGreatProg
namespace Go.Proofs.YtkaaofamlgogcaaGreat.P
open Go.RowKit Go.Proofs.YtkaaofamlgogcaaGreatW.PrintWords Go.Proofs.YtkaaofamlgogcaaGreatW.PrintLast Go.Proofs.YtkaaofamlgogcaaGreatW.PrintMore Go.Proofs.YtkaaofamlgogcaaGreat.Open
def F3 (x : Int) : Prop := (Lit.int .i64 x).wf = true
theorem op3 : Opn (Kd.int .i64) Tryz.prog 3 F3 := Opn.int Tryz.underlying3
def F9 (x : ByteArray) : Prop := x.size ≤ 140737488351232
theorem op9 : Opn Kd.string Tryz.prog 9 F9 := Opn.string Tryz.underlying9
def F4 (_x : Bool) : Prop := True
theorem op4 : Opn Kd.bool Tryz.prog 4 F4 := Opn.bool Tryz.underlying4
structure S33 where
  f0 : Int
  f1 : ByteArray
def k33 : Kd S33 := Kd.iso (Kd.pair (Kd.int .i64) Kd.string) (fun x : S33 => (x.f0, x.f1))
def F33 (x : S33) : Prop := F3 x.f0 ∧ F9 x.f1
theorem op33 : Opn k33 Tryz.prog 33 F33 := Opn.struct (d := (Kd.pair (Kd.int .i64) Kd.string)) (F := fun a : Int × ByteArray => F3 a.1 ∧ F9 a.2) (fun x : S33 => (x.f0, x.f1)) (fun a => ⟨a.1, a.2⟩) (fun _ => rfl) Tryz.underlying33 (by kernel_rfl) (Ofs.cons (F := F3) (F2 := fun a : ByteArray => F9 a) rfl rfl (by kernel_rfl) op3 (Ofs.last rfl rfl (by kernel_rfl) op9))
structure S35 where
  f0 : Int
  f1 : Int
  f2 : Int
  f3 : Int
  f4 : Int
  f5 : ByteArray
  f6 : Int
  f7 : Int
  f8 : Bool
  f9 : S33
def k35 : Kd S35 := Kd.iso (Kd.pair (Kd.int .i64) (Kd.pair (Kd.int .i64) (Kd.pair (Kd.int .i64) (Kd.pair (Kd.int .i64) (Kd.pair (Kd.int .i64) (Kd.pair Kd.string (Kd.pair (Kd.int .i64) (Kd.pair (Kd.int .i64) (Kd.pair Kd.bool k33))))))))) (fun x : S35 => (x.f0, x.f1, x.f2, x.f3, x.f4, x.f5, x.f6, x.f7, x.f8, x.f9))
def F35 (x : S35) : Prop := F3 x.f0 ∧ F3 x.f1 ∧ F3 x.f2 ∧ F3 x.f3 ∧ F3 x.f4 ∧ F9 x.f5 ∧ F3 x.f6 ∧ F3 x.f7 ∧ F4 x.f8 ∧ F33 x.f9
theorem op35 : Opn k35 Tryz.prog 35 F35 := Opn.struct (d := (Kd.pair (Kd.int .i64) (Kd.pair (Kd.int .i64) (Kd.pair (Kd.int .i64) (Kd.pair (Kd.int .i64) (Kd.pair (Kd.int .i64) (Kd.pair Kd.string (Kd.pair (Kd.int .i64) (Kd.pair (Kd.int .i64) (Kd.pair Kd.bool k33)))))))))) (F := fun a : Int × Int × Int × Int × Int × ByteArray × Int × Int × Bool × S33 => F3 a.1 ∧ (F3 a.2.1 ∧ (F3 a.2.2.1 ∧ (F3 a.2.2.2.1 ∧ (F3 a.2.2.2.2.1 ∧ (F9 a.2.2.2.2.2.1 ∧ (F3 a.2.2.2.2.2.2.1 ∧ (F3 a.2.2.2.2.2.2.2.1 ∧ (F4 a.2.2.2.2.2.2.2.2.1 ∧ F33 a.2.2.2.2.2.2.2.2.2))))))))) (fun x : S35 => (x.f0, x.f1, x.f2, x.f3, x.f4, x.f5, x.f6, x.f7, x.f8, x.f9)) (fun a => ⟨a.1, a.2.1, a.2.2.1, a.2.2.2.1, a.2.2.2.2.1, a.2.2.2.2.2.1, a.2.2.2.2.2.2.1, a.2.2.2.2.2.2.2.1, a.2.2.2.2.2.2.2.2.1, a.2.2.2.2.2.2.2.2.2⟩) (fun _ => rfl) Tryz.underlying35 (by kernel_rfl) (Ofs.cons (F := F3) (F2 := fun a : Int × Int × Int × Int × ByteArray × Int × Int × Bool × S33 => F3 a.1 ∧ F3 a.2.1 ∧ F3 a.2.2.1 ∧ F3 a.2.2.2.1 ∧ F9 a.2.2.2.2.1 ∧ F3 a.2.2.2.2.2.1 ∧ F3 a.2.2.2.2.2.2.1 ∧ F4 a.2.2.2.2.2.2.2.1 ∧ F33 a.2.2.2.2.2.2.2.2) rfl rfl (by kernel_rfl) op3 (Ofs.cons (F := F3) (F2 := fun a : Int × Int × Int × ByteArray × Int × Int × Bool × S33 => F3 a.1 ∧ F3 a.2.1 ∧ F3 a.2.2.1 ∧ F9 a.2.2.2.1 ∧ F3 a.2.2.2.2.1 ∧ F3 a.2.2.2.2.2.1 ∧ F4 a.2.2.2.2.2.2.1 ∧ F33 a.2.2.2.2.2.2.2) rfl rfl (by kernel_rfl) op3 (Ofs.cons (F := F3) (F2 := fun a : Int × Int × ByteArray × Int × Int × Bool × S33 => F3 a.1 ∧ F3 a.2.1 ∧ F9 a.2.2.1 ∧ F3 a.2.2.2.1 ∧ F3 a.2.2.2.2.1 ∧ F4 a.2.2.2.2.2.1 ∧ F33 a.2.2.2.2.2.2) rfl rfl (by kernel_rfl) op3 (Ofs.cons (F := F3) (F2 := fun a : Int × ByteArray × Int × Int × Bool × S33 => F3 a.1 ∧ F9 a.2.1 ∧ F3 a.2.2.1 ∧ F3 a.2.2.2.1 ∧ F4 a.2.2.2.2.1 ∧ F33 a.2.2.2.2.2) rfl rfl (by kernel_rfl) op3 (Ofs.cons (F := F3) (F2 := fun a : ByteArray × Int × Int × Bool × S33 => F9 a.1 ∧ F3 a.2.1 ∧ F3 a.2.2.1 ∧ F4 a.2.2.2.1 ∧ F33 a.2.2.2.2) rfl rfl (by kernel_rfl) op3 (Ofs.cons (F := F9) (F2 := fun a : Int × Int × Bool × S33 => F3 a.1 ∧ F3 a.2.1 ∧ F4 a.2.2.1 ∧ F33 a.2.2.2) rfl rfl (by kernel_rfl) op9 (Ofs.cons (F := F3) (F2 := fun a : Int × Bool × S33 => F3 a.1 ∧ F4 a.2.1 ∧ F33 a.2.2) rfl rfl (by kernel_rfl) op3 (Ofs.cons (F := F3) (F2 := fun a : Bool × S33 => F4 a.1 ∧ F33 a.2) rfl rfl (by kernel_rfl) op3 (Ofs.cons (F := F4) (F2 := fun a : S33 => F33 a) rfl rfl (by kernel_rfl) op4 (Ofs.last rfl rfl (by kernel_rfl) op33))))))))))
structure S71 where
  f0 : Int
  f1 : Int
  f2 : Int
  f3 : Int
  f4 : S35
def k71 : Kd S71 := Kd.iso (Kd.pair (Kd.int .i64) (Kd.pair (Kd.int .i64) (Kd.pair (Kd.int .i64) (Kd.pair (Kd.int .i64) k35)))) (fun x : S71 => (x.f0, x.f1, x.f2, x.f3, x.f4))
def F71 (x : S71) : Prop := F3 x.f0 ∧ F3 x.f1 ∧ F3 x.f2 ∧ F3 x.f3 ∧ F35 x.f4
theorem op71 : Opn k71 Tryz.prog 71 F71 := Opn.struct (d := (Kd.pair (Kd.int .i64) (Kd.pair (Kd.int .i64) (Kd.pair (Kd.int .i64) (Kd.pair (Kd.int .i64) k35))))) (F := fun a : Int × Int × Int × Int × S35 => F3 a.1 ∧ (F3 a.2.1 ∧ (F3 a.2.2.1 ∧ (F3 a.2.2.2.1 ∧ F35 a.2.2.2.2)))) (fun x : S71 => (x.f0, x.f1, x.f2, x.f3, x.f4)) (fun a => ⟨a.1, a.2.1, a.2.2.1, a.2.2.2.1, a.2.2.2.2⟩) (fun _ => rfl) Tryz.underlying71 (by kernel_rfl) (Ofs.cons (F := F3) (F2 := fun a : Int × Int × Int × S35 => F3 a.1 ∧ F3 a.2.1 ∧ F3 a.2.2.1 ∧ F35 a.2.2.2) rfl rfl (by kernel_rfl) op3 (Ofs.cons (F := F3) (F2 := fun a : Int × Int × S35 => F3 a.1 ∧ F3 a.2.1 ∧ F35 a.2.2) rfl rfl (by kernel_rfl) op3 (Ofs.cons (F := F3) (F2 := fun a : Int × S35 => F3 a.1 ∧ F35 a.2) rfl rfl (by kernel_rfl) op3 (Ofs.cons (F := F3) (F2 := fun a : S35 => F35 a) rfl rfl (by kernel_rfl) op3 (Ofs.last rfl rfl (by kernel_rfl) op35)))))
structure S38 where
  f0 : Int
  f1 : Int
  f2 : Int
def k38 : Kd S38 := Kd.iso (Kd.pair (Kd.int .i64) (Kd.pair (Kd.int .i64) (Kd.int .i64))) (fun x : S38 => (x.f0, x.f1, x.f2))
def F38 (x : S38) : Prop := F3 x.f0 ∧ F3 x.f1 ∧ F3 x.f2
theorem op38 : Opn k38 Tryz.prog 38 F38 := Opn.struct (d := (Kd.pair (Kd.int .i64) (Kd.pair (Kd.int .i64) (Kd.int .i64)))) (F := fun a : Int × Int × Int => F3 a.1 ∧ (F3 a.2.1 ∧ F3 a.2.2)) (fun x : S38 => (x.f0, x.f1, x.f2)) (fun a => ⟨a.1, a.2.1, a.2.2⟩) (fun _ => rfl) Tryz.underlying38 (by kernel_rfl) (Ofs.cons (F := F3) (F2 := fun a : Int × Int => F3 a.1 ∧ F3 a.2) rfl rfl (by kernel_rfl) op3 (Ofs.cons (F := F3) (F2 := fun a : Int => F3 a) rfl rfl (by kernel_rfl) op3 (Ofs.last rfl rfl (by kernel_rfl) op3)))
def F52 (x : List S38) : Prop := x.length * 24 ≤ 140737488351232 ∧ ∀ y ∈ x, F38 y
theorem op52 : Opn (Kd.slice 38 k38) Tryz.prog 52 F52 := Opn.slice (B := 24) Tryz.underlying52 op38 (by kernel_rfl) (by kernel_rfl)
theorem opn71 {w : World} {x : S71} {cs : List Value} (h : k71.K w x cs) : cs = [.int .i64 x.f0, .int .i64 x.f1, .int .i64 x.f2, .int .i64 x.f3, .int .i64 x.f4.f0, .int .i64 x.f4.f1, .int .i64 x.f4.f2, .int .i64 x.f4.f3, .int .i64 x.f4.f4, .string x.f4.f5, .int .i64 x.f4.f6, .int .i64 x.f4.f7, .bool x.f4.f8, .int .i64 x.f4.f9.f0, .string x.f4.f9.f1] := by
  obtain ⟨_, _, rfl, rfl, ⟨_, _, rfl, rfl, ⟨_, _, rfl, rfl, ⟨_, _, rfl, rfl, ⟨_, _, rfl, rfl, ⟨_, _, rfl, rfl, ⟨_, _, rfl, rfl, ⟨_, _, rfl, rfl, ⟨_, _, rfl, rfl, ⟨_, _, rfl, rfl, ⟨_, _, rfl, rfl, ⟨_, _, rfl, rfl, ⟨_, _, rfl, rfl, ⟨_, _, rfl, rfl, rfl⟩⟩⟩⟩⟩⟩⟩⟩⟩⟩⟩⟩⟩⟩ := h
  exact rfl
end Go.Proofs.YtkaaofamlgogcaaGreat.P
