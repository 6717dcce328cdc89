/- How the types of the laws' parameters open (written by row.py). -/
import Derived.Test.YtffokmamcempgaaOpen
import Derived.Test.YtffokmamcempgaaWLast
import Derived.Test.YtffokmamcempgaaWMore
import Derived.Test.YtffokmamcempgaaProg
namespace Go.Proofs.Ytffokmamcempgaa.P
open Go.RowKit Go.Proofs.YtffokmamcempgaaW.PrintWords Go.Proofs.YtffokmamcempgaaW.PrintLast Go.Proofs.YtffokmamcempgaaW.PrintMore Go.Proofs.Ytffokmamcempgaa.Open
def F3 (x : Int) : Prop := (Lit.int .i64 x).wf = true
theorem op3 : Opn (Kd.int .i64) Try.prog 3 F3 := Opn.int Try.underlying3
structure S47 where
  f0 : Int
  f1 : Int
  f2 : Int
  f3 : Int
def k47 : Kd S47 := Kd.iso (Kd.pair (Kd.int .i64) (Kd.pair (Kd.int .i64) (Kd.pair (Kd.int .i64) (Kd.int .i64)))) (fun x : S47 => (x.f0, x.f1, x.f2, x.f3))
def F47 (x : S47) : Prop := F3 x.f0 ∧ F3 x.f1 ∧ F3 x.f2 ∧ F3 x.f3
theorem op47 : Opn k47 Try.prog 47 F47 := Opn.struct (d := (Kd.pair (Kd.int .i64) (Kd.pair (Kd.int .i64) (Kd.pair (Kd.int .i64) (Kd.int .i64))))) (F := fun a : Int × Int × Int × Int => F3 a.1 ∧ (F3 a.2.1 ∧ (F3 a.2.2.1 ∧ F3 a.2.2.2))) (fun x : S47 => (x.f0, x.f1, x.f2, x.f3)) (fun a => ⟨a.1, a.2.1, a.2.2.1, a.2.2.2⟩) (fun _ => rfl) Try.underlying47 (by kernel_rfl) (Ofs.cons (F := F3) (F2 := fun a : Int × Int × Int => F3 a.1 ∧ F3 a.2.1 ∧ F3 a.2.2) rfl rfl (by kernel_rfl) op3 (Ofs.cons (F := F3) (F2 := fun a : Int × Int => F3 a.1 ∧ F3 a.2) rfl rfl (by kernel_rfl) op3 (Ofs.cons (F := F3) (F2 := fun a : Int => F3 a) rfl rfl (by kernel_rfl) op3 (Ofs.last rfl rfl (by kernel_rfl) op3))))
def F28 (x : List Int) : Prop := x.length * 8 ≤ 140737488351232 ∧ ∀ y ∈ x, F3 y
theorem op28 : Opn (Kd.slice 3 (Kd.int .i64)) Try.prog 28 F28 := Opn.slice (B := 8) Try.underlying28 op3 (by kernel_rfl) (by kernel_rfl)
theorem opn47 {w : World} {x : S47} {cs : List Value} (h : k47.K w x cs) : cs = [.int .i64 x.f0, .int .i64 x.f1, .int .i64 x.f2, .int .i64 x.f3] := by
  obtain ⟨_, _, rfl, rfl, ⟨_, _, rfl, rfl, ⟨_, _, rfl, rfl, rfl⟩⟩⟩ := h
  exact rfl
end Go.Proofs.Ytffokmamcempgaa.P
