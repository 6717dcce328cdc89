/- The statements of chapter 14: what each answers at its end (awake), run once; the machine with that known. -/
import Derived.Test.YtffokmamcempgaaAir1
import Derived.Test.YtffokmamcempgaaAMZ
namespace Go.Proofs.Ytffokmamcempgaa.P
open Go Go.RowKit Go.Proofs.Ytffokmamcempgaa.AM
set_option linter.unusedVariables false
set_option maxRecDepth 100000
theorem awake14_run : (callN Try.prog env 200 35 [] noHeap).map (·.1) = some (.bool true) := by kernel_rfl
theorem awake14_calls (w : World) : Calls Try.prog 35 ⟨[]⟩ w fun e w' => e = .returned (.bool true) ∧ Below w.heap.size w w' := run_calls env_ok awake14_run rfl rfl w
theorem awake13_run : (callN Try.prog env 200 9 [] noHeap).map (·.1) = some (.bool true) := by kernel_rfl
theorem awake13_calls (w : World) : Calls Try.prog 9 ⟨[]⟩ w fun e w' => e = .returned (.bool true) ∧ Below w.heap.size w w' := run_calls env_ok awake13_run rfl rfl w
def env2 : Env := mkEnv fns ((35, extTrue) :: (9, extTrue) :: exts) 9223372036854775808
theorem env2_ok : EnvOk Try.prog env2 := mkEnv_ok (by kernel_rfl) fns_ok (AllT.cons (true_ok ⟨_, Try.func35, by kernel_rfl, by kernel_rfl⟩ awake14_calls) (AllT.cons (true_ok ⟨_, Try.func9, by kernel_rfl, by kernel_rfl⟩ awake13_calls) exts_ok))
/-- The machine's calls, so deep. -/
noncomputable abbrev cf (n : Nat) : CallF := callN Try.prog env2 n
theorem awake14_cf (n : Nat) (H : Heap) : cf (n + 1) 35 [] H = some (.bool true, H) := rfl
theorem awake13_cf (n : Nat) (H : Heap) : cf (n + 1) 9 [] H = some (.bool true, H) := rfl
end Go.Proofs.Ytffokmamcempgaa.P
