/- Of no disk each call says so: what the law answers, run by our machine. No condition. -/
import Derived.Test.YtffokmamcempgaaAir1
import Derived.Test.YtffokmamcempgaaKinds
namespace Go.Proofs.Ytffokmamcempgaa.P
open Go Go.RowKit Go.Proofs.Ytffokmamcempgaa.AM
set_option linter.unusedVariables false
set_option maxRecDepth 100000
theorem diskNone_run (a b c d : Int) : (callN Try.prog env 200 4 [.agg #[.int .i64 a, .int .i64 b, .int .i64 c, .int .i64 d]] noHeap).map (·.1) = some (.bool true) := by kernel_rfl
theorem DiskNone_walk (x : S47) (w : World) (_ : F47 x) : Calls Try.prog 4 #[.agg #[.int .i64 x.f0, .int .i64 x.f1, .int .i64 x.f2, .int .i64 x.f3]] w fun e w' => e = .returned (.bool true) ∧ Below w.heap.size w w' :=
  run_calls env_ok (diskNone_run x.f0 x.f1 x.f2 x.f3) rfl rfl w
end Go.Proofs.Ytffokmamcempgaa.P
