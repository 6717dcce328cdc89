/- The statements of chapter 21: what each answers at its end (awake), run once; the machine with that known. -/
import Derived.Test.YtkaaofamlgogcaaGreatAir1
import Derived.Test.YtkaaofamlgogcaaGreatAMV
namespace Go.Proofs.YtkaaofamlgogcaaGreat.P
open Go Go.RowKit Go.Proofs.YtkaaofamlgogcaaGreat.AM
set_option linter.unusedVariables false
set_option maxRecDepth 100000
theorem awake21_run : (callN Tryz.prog env 200 11 [] noHeap).map (·.1) = some (.bool true) := by kernel_rfl
theorem awake21_calls (w : World) : Calls Tryz.prog 11 ⟨[]⟩ w fun e w' => e = .returned (.bool true) ∧ Below w.heap.size w w' := run_calls env_ok awake21_run rfl rfl w
def env2 : Env := mkEnv fns ((11, extTrue) :: exts) 9223372036854775808
theorem env2_ok : EnvOk Tryz.prog env2 := mkEnv_ok (by kernel_rfl) fns_ok (AllT.cons (true_ok ⟨_, Tryz.func11, by kernel_rfl, by kernel_rfl⟩ awake21_calls) exts_ok)
/-- The machine's calls, so deep. -/
noncomputable abbrev cf (n : Nat) : CallF := callN Tryz.prog env2 n
theorem awake21_pu (n : Nat) (C : HC) : Pu (cf (n + 1)) 11 [] C (.bool true) := fun _ _ => rfl
end Go.Proofs.YtkaaofamlgogcaaGreat.P
