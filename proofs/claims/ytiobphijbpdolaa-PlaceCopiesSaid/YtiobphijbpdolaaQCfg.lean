/- A configuration as a law is handed it. -/
import Derived.Test.YtiobphijbpdolaaQ13
import Derived.Test.YtiobphijbpdolaaKinds
namespace Go.Proofs.Ytiobphijbpdolaa.P
open Go.RowKit Go.Proofs.YtiobphijbpdolaaW.PrintWords Go.Proofs.YtiobphijbpdolaaW.PrintLast Go.Proofs.YtiobphijbpdolaaW.PrintMore
set_option linter.unusedVariables false
def cfgOf (x : S43) : Cfg := ⟨x.f0, x.f1, x.f2, x.f3, x.f4, x.f5, x.f6, x.f7, x.f8, x.f9, x.f10, x.f11⟩
theorem cfg_sized {x : S43} (h : F43 x) : x.f0.length ≤ 140737488355328 ∧ x.f1.length ≤ 140737488355328 ∧ Sized (cfgOf x) := by
  have h0 := h.1.1
  have h1 := h.2.1.1
  refine ⟨by omega, by omega, fun s hs => ?_, fun k hk => ?_⟩
  · have := h.1.2 s hs
    unfold F9 at this
    omega
  · have := (h.2.1.2 k hk).2
    unfold F9 at this
    omega
end Go.Proofs.Ytiobphijbpdolaa.P
