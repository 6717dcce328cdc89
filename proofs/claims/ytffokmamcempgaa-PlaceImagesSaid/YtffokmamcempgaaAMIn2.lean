/- A machine of our own: rows of the caller's, and small numbers, without marks. -/
import Derived.Test.YtffokmamcempgaaAMIn
import Derived.Test.YtffokmamcempgaaAMV
namespace Go.Proofs.Ytffokmamcempgaa.AM
open Go Go.RowKit Go.Proofs.YtffokmamcempgaaW.PrintWords
set_option linter.unusedVariables false
theorem Rw.abs {W : World} {C : HC} {r : InRow} {i : Nat} (hs : InSl W r.A r.n r.c) (hl : r.vs.length = r.n * r.sz) (hg : C.get i = some (.cells false r.e r.vs)) : Rw C r.e r.sz (absV r i) r.n r.vs := by
  rcases hs with ⟨h1, h2, h3⟩ | ⟨b, off, arr, e, fr, h1, h2, h3⟩
  · refine .inl ⟨by simp only [absV, h1], h2, ?_⟩
    rw [h2, Nat.zero_mul] at hl
    exact List.length_eq_zero_iff.1 hl
  · exact .inr ⟨i, 0, r.c, false, r.vs, by simp only [absV, h1], h3, hg, by rw [← hl]; exact lcutA _⟩
end Go.Proofs.Ytffokmamcempgaa.AM
