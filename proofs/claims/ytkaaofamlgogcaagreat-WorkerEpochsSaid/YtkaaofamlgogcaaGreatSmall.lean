/- Small functions that all statements use. -/
import Derived.Test.YtkaaofamlgogcaaGreatEnvW
import Derived.Test.YtkaaofamlgogcaaGreatAMZ
namespace Go.Proofs.YtkaaofamlgogcaaGreat.P
open Go Go.RowKit Go.Proofs.YtkaaofamlgogcaaGreat.AM
set_option linter.unusedVariables false
set_option linter.unusedSimpArgs false
set_option maxRecDepth 100000
theorem low_pu {n : Nat} {C : HC} (x : Int) {k : Nat} (h0 : 0 < k) (h1 : k < 9223372036854775808) : Pu (cf (n + 1)) 13 [.int .i64 x, .int .i64 k] C (.int .i64 (lowN x k)) := by
  have hl := low_lt x h0
  refine Pu.enter rfl rfl rfl fun H0 hH => ?_
  subst hH
  refine XC.then_ops ?_
  refine XO.op (o_move rfl) <| XO.nil <| ?_
  refine XC.then_ops ?_
  refine XO.op (o_move rfl) <| XO.op (o_convI rfl rfl) <| XO.op (o_move rfl) <| XO.op (o_convI rfl (wu64 (by omega) (by omega))) <| XO.op (o_rem rfl rfl (by omega) (low_tmod x k)) <| XO.op (o_convI rfl (w64 (by omega) (by omega))) <| XO.op (o_move rfl) <| XO.nil <| ?_
  refine XC.ret ?_
  refine ⟨_, rfl, ?_⟩
  exact ⟨rfl, rfl⟩
end Go.Proofs.YtkaaofamlgogcaaGreat.P
