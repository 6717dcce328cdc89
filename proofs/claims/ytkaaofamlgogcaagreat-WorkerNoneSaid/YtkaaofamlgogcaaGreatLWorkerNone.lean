/- Of no worker each call says so: what the law answers, by our machine's rules. No condition. -/
import Derived.Test.YtkaaofamlgogcaaGreatAir1
import Derived.Test.YtkaaofamlgogcaaGreatAMY
import Derived.Test.YtkaaofamlgogcaaGreatKinds
namespace Go.Proofs.YtkaaofamlgogcaaGreat.P
open Go Go.RowKit Go.Proofs.YtkaaofamlgogcaaGreat.AM
set_option linter.unusedVariables false
set_option linter.unusedSimpArgs false
set_option maxRecDepth 100000
theorem awake_run : (callN Tryz.prog env 200 11 [] noHeap).map (·.1) = some (.bool true) := by kernel_rfl
theorem awake_calls (w : World) : Calls Tryz.prog 11 ⟨[]⟩ w fun e w' => e = .returned (.bool true) ∧ Below w.heap.size w w' := run_calls env_ok awake_run rfl rfl w
def env2 : Env := mkEnv fns ((11, extTrue) :: exts) 100000
theorem env2_ok : EnvOk Tryz.prog env2 := mkEnv_ok (by kernel_rfl) fns_ok (AllT.cons (true_ok ⟨_, Tryz.func11, by kernel_rfl, by kernel_rfl⟩ awake_calls) exts_ok)
section
variable (H : Heap) (v : Value)
theorem c11 : callN Tryz.prog env2 100 11 [] H = some (.bool true, H) := by kernel_rfl
theorem c14 : callN Tryz.prog env2 100 14 [.pointer none, v] H = some (.tuple #[], H) := by kernel_rfl
theorem c28 : callN Tryz.prog env2 100 28 [.pointer none, v] H = some (.tuple #[.slice none 0 0, .int .i64 1], H) := by kernel_rfl
theorem c18 : callN Tryz.prog env2 100 18 [.pointer none] H = some (.int .i64 1, H) := by kernel_rfl
theorem c19 : callN Tryz.prog env2 100 19 [.pointer none] H = some (.int .i64 1, H) := by kernel_rfl
theorem c32 : callN Tryz.prog env2 100 32 [.pointer none] H = some (.bool false, H) := by kernel_rfl
theorem c20 : callN Tryz.prog env2 100 20 [.pointer none] H = some (.int .i64 0, H) := by kernel_rfl
theorem c21 : callN Tryz.prog env2 100 21 [.pointer none] H = some (.int .i64 0, H) := by kernel_rfl
theorem c26 : callN Tryz.prog env2 100 26 [.pointer none] H = some (.pointer none, H) := by kernel_rfl
theorem c15 : callN Tryz.prog env2 100 15 [.pointer none] H = some (.slice none 0 0, H) := by kernel_rfl
theorem c16 : callN Tryz.prog env2 100 16 [.pointer none] H = some (.slice none 0 0, H) := by kernel_rfl
end
def actCells (x : S71) : List Value := [.int .i64 x.f0, .int .i64 x.f1, .int .i64 x.f2, .int .i64 x.f3, .int .i64 x.f4.f0, .int .i64 x.f4.f1, .int .i64 x.f4.f2, .int .i64 x.f4.f3, .int .i64 x.f4.f4, .string x.f4.f5, .int .i64 x.f4.f6, .int .i64 x.f4.f7, .bool x.f4.f8, .int .i64 x.f4.f9.f0, .string x.f4.f9.f1]
theorem message_runs (x : S71) (H : Heap) : Runs (callN Tryz.prog env2 100) 31 [.agg ⟨actCells x⟩] H fun _ H' => ∃ B, H' = H.new B := by
  refine Runs.enter rfl rfl rfl ?_
  refine XC.then_ops ?_
  refine XO.op (o_box rfl) ?_
  refine XO.op (o_move rfl) ?_
  refine XO.nil ?_
  refine XC.assoc ?_
  refine XC.then_ops ?_
  refine XO.op (o_fieldAddr rfl) ?_
  refine XO.op (o_load rfl (by first | exact gn_self | assumption) rfl) ?_
  refine XO.nil ?_
  refine XC.then_block ?_
  refine XC.then_ops ?_
  refine XO.op (o_eql rfl rfl rfl) ?_
  refine XO.op (o_move rfl) ?_
  refine XO.nil ?_
  refine XC.cond rfl (fun hb => ?_) (fun hb => ?_)
  · skip
    refine XC.then_ops ?_
    refine XO.op (o_fieldAddr rfl) ?_
    refine XO.op (o_load rfl (by first | exact gn_self | assumption) rfl) ?_
    refine XO.op (o_fieldAddr rfl) ?_
    refine XO.op (o_load rfl (by first | exact gn_self | assumption) rfl) ?_
    refine XO.op (o_fieldAddr rfl) ?_
    refine XO.op (o_load rfl (by first | exact gn_self | assumption) rfl) ?_
    refine XO.op (o_build rfl rfl) ?_
    refine XO.op (o_iface rfl) ?_
    refine XO.op (o_move rfl) ?_
    refine XO.nil ?_
    refine XC.ret ?_
    refine blk_r ?_
    refine then_r ?_
    refine ⟨_, rfl, ?_⟩
    exact ⟨_, rfl⟩
  · skip
    refine XC.then_ops ?_
    refine XO.op (o_eql rfl rfl rfl) ?_
    refine XO.op (o_move rfl) ?_
    refine XO.nil ?_
    refine XC.cond rfl (fun hb => ?_) (fun hb => ?_)
    · skip
      refine XC.then_ops ?_
      refine XO.op (o_fieldAddr rfl) ?_
      refine XO.op (o_load rfl (by first | exact gn_self | assumption) rfl) ?_
      refine XO.op (o_iface rfl) ?_
      refine XO.op (o_move rfl) ?_
      refine XO.nil ?_
      refine XC.ret ?_
      refine blk_r ?_
      refine then_r ?_
      refine ⟨_, rfl, ?_⟩
      exact ⟨_, rfl⟩
    · skip
      refine XC.then_ops ?_
      refine XO.op (o_eql rfl rfl rfl) ?_
      refine XO.op (o_move rfl) ?_
      refine XO.nil ?_
      refine XC.cond rfl (fun hb => ?_) (fun hb => ?_)
      · skip
        refine XC.then_ops ?_
        refine XO.op (o_fieldAddr rfl) ?_
        refine XO.op (o_load rfl (by first | exact gn_self | assumption) rfl) ?_
        refine XO.op (o_fieldAddr rfl) ?_
        refine XO.op (o_load rfl (by first | exact gn_self | assumption) rfl) ?_
        refine XO.op (o_build rfl rfl) ?_
        refine XO.op (o_iface rfl) ?_
        refine XO.op (o_move rfl) ?_
        refine XO.nil ?_
        refine XC.ret ?_
        refine blk_r ?_
        refine then_r ?_
        refine ⟨_, rfl, ?_⟩
        exact ⟨_, rfl⟩
      · skip
        refine XC.skip ?_
        refine blk_n ?_
        refine then_n ?_
        refine XC.then_ops ?_
        refine XO.op (o_fieldAddr rfl) ?_
        refine XO.op (o_load rfl (by first | exact gn_self | assumption) rfl) ?_
        refine XO.op (o_fieldAddr rfl) ?_
        refine XO.op (o_load rfl (by first | exact gn_self | assumption) rfl) ?_
        refine XO.op (o_build rfl rfl) ?_
        refine XO.op (o_iface rfl) ?_
        refine XO.op (o_move rfl) ?_
        refine XO.nil ?_
        refine XC.ret ?_
        refine ⟨_, rfl, ?_⟩
        exact ⟨_, rfl⟩

theorem none_runs (x : S71) (H : Heap) : Runs (callN Tryz.prog env2 101) 6 [.agg ⟨actCells x⟩] H fun v _ => v = .bool true := by
  refine Runs.enter rfl rfl rfl ?_
  refine XC.then_ops ?_
  refine XO.op (o_box rfl) ?_
  refine XO.op (o_move rfl) ?_
  refine XO.nil ?_
  refine XC.assoc ?_
  refine XC.then_ops ?_
  refine XO.op (o_fieldAddr rfl) ?_
  refine XO.op (o_fieldAddr rfl) ?_
  refine XO.op (o_load rfl (by first | exact gn_self | exact gn_old (Nat.lt_succ_self _) gn_self) rfl) ?_
  refine XO.op (o_lenStr rfl) ?_
  refine XO.op (o_gtr rfl rfl rfl) ?_
  refine XO.nil ?_
  refine XC.push rfl (fun hb => ?_) (fun hb => ?_)
  · skip
    refine XC.assoc ?_
    refine XC.then_ops ?_
    refine XO.op (o_call rfl (c11 _)) ?_
    refine XO.op (o_move rfl) ?_
    refine XO.nil ?_
    refine XC.then_ret ?_
    refine ⟨_, rfl, ?_⟩
    rfl
  · skip
    refine XC.then_skip ?_
    refine XC.then_ops ?_
    refine XO.op (o_move rfl) ?_
    refine XO.nil ?_
    refine XC.then_ops ?_
    refine XO.op (o_move rfl) ?_
    refine XO.op (o_load rfl (by first | exact gn_self | exact gn_old (Nat.lt_succ_self _) gn_self) rfl) ?_
    obtain ⟨v31, H31, h31, B2, rfl⟩ := message_runs x (Heap.new H _)
    refine XO.op (o_call rfl h31) ?_
    refine XO.op (o_call rfl (c14 _ _)) ?_
    refine XO.nil ?_
    refine XC.then_ops ?_
    refine XO.op (o_move rfl) ?_
    refine XO.op (o_fieldAddr rfl) ?_
    refine XO.op (o_load rfl (by first | exact gn_self | exact gn_old (Nat.lt_succ_self _) gn_self) rfl) ?_
    refine XO.op (o_call rfl (c28 _ _)) ?_
    refine XO.op (o_move rfl) ?_
    refine XO.op (o_extract rfl rfl) ?_
    refine XO.op (o_extract rfl rfl) ?_
    refine XO.op (o_move rfl) ?_
    refine XO.op (o_move rfl) ?_
    refine XO.nil ?_
    refine XC.then_ops ?_
    refine XO.op (o_move rfl) ?_
    refine XO.op (o_lenRow rfl) ?_
    refine XO.op (o_eql rfl rfl rfl) ?_
    refine XO.op (o_move rfl) ?_
    first | refine XO.run rfl (o_move rfl) ?_ | refine XO.pass rfl rfl ?_
    first | refine XO.run rfl (o_eql rfl rfl rfl) ?_ | refine XO.pass rfl rfl ?_
    refine XO.op (by first | exact o_pick_t rfl rfl | exact o_pick_f rfl rfl) ?_
    refine XO.op (o_move rfl) ?_
    first | refine XO.run rfl (o_move rfl) ?_ | refine XO.pass rfl rfl ?_
    first | refine XO.run rfl (o_call rfl (c18 _)) ?_ | refine XO.pass rfl rfl ?_
    first | refine XO.run rfl (o_eql rfl rfl rfl) ?_ | refine XO.pass rfl rfl ?_
    refine XO.op (by first | exact o_pick_t rfl rfl | exact o_pick_f rfl rfl) ?_
    refine XO.op (o_move rfl) ?_
    first | refine XO.run rfl (o_move rfl) ?_ | refine XO.pass rfl rfl ?_
    first | refine XO.run rfl (o_call rfl (c19 _)) ?_ | refine XO.pass rfl rfl ?_
    first | refine XO.run rfl (o_eql rfl rfl rfl) ?_ | refine XO.pass rfl rfl ?_
    refine XO.op (by first | exact o_pick_t rfl rfl | exact o_pick_f rfl rfl) ?_
    refine XO.op (o_move rfl) ?_
    first | refine XO.run rfl (o_move rfl) ?_ | refine XO.pass rfl rfl ?_
    first | refine XO.run rfl (o_call rfl (c32 _)) ?_ | refine XO.pass rfl rfl ?_
    first | refine XO.run rfl (o_not rfl) ?_ | refine XO.pass rfl rfl ?_
    refine XO.op (by first | exact o_pick_t rfl rfl | exact o_pick_f rfl rfl) ?_
    refine XO.op (o_move rfl) ?_
    first | refine XO.run rfl (o_move rfl) ?_ | refine XO.pass rfl rfl ?_
    first | refine XO.run rfl (o_call rfl (c20 _)) ?_ | refine XO.pass rfl rfl ?_
    first | refine XO.run rfl (o_eql rfl rfl rfl) ?_ | refine XO.pass rfl rfl ?_
    refine XO.op (by first | exact o_pick_t rfl rfl | exact o_pick_f rfl rfl) ?_
    refine XO.op (o_move rfl) ?_
    first | refine XO.run rfl (o_move rfl) ?_ | refine XO.pass rfl rfl ?_
    first | refine XO.run rfl (o_call rfl (c21 _)) ?_ | refine XO.pass rfl rfl ?_
    first | refine XO.run rfl (o_eql rfl rfl rfl) ?_ | refine XO.pass rfl rfl ?_
    refine XO.op (by first | exact o_pick_t rfl rfl | exact o_pick_f rfl rfl) ?_
    refine XO.op (o_move rfl) ?_
    first | refine XO.run rfl (o_move rfl) ?_ | refine XO.pass rfl rfl ?_
    first | refine XO.run rfl (o_call rfl (c26 _)) ?_ | refine XO.pass rfl rfl ?_
    first | refine XO.run rfl (o_eqNil rfl rfl rfl) ?_ | refine XO.pass rfl rfl ?_
    refine XO.op (by first | exact o_pick_t rfl rfl | exact o_pick_f rfl rfl) ?_
    refine XO.op (o_move rfl) ?_
    first | refine XO.run rfl (o_move rfl) ?_ | refine XO.pass rfl rfl ?_
    first | refine XO.run rfl (o_call rfl (c15 _)) ?_ | refine XO.pass rfl rfl ?_
    first | refine XO.run rfl (o_lenRow rfl) ?_ | refine XO.pass rfl rfl ?_
    first | refine XO.run rfl (o_eql rfl rfl rfl) ?_ | refine XO.pass rfl rfl ?_
    refine XO.op (by first | exact o_pick_t rfl rfl | exact o_pick_f rfl rfl) ?_
    refine XO.op (o_move rfl) ?_
    first | refine XO.run rfl (o_move rfl) ?_ | refine XO.pass rfl rfl ?_
    first | refine XO.run rfl (o_call rfl (c16 _)) ?_ | refine XO.pass rfl rfl ?_
    first | refine XO.run rfl (o_lenRow rfl) ?_ | refine XO.pass rfl rfl ?_
    first | refine XO.run rfl (o_eql rfl rfl rfl) ?_ | refine XO.pass rfl rfl ?_
    refine XO.op (by first | exact o_pick_t rfl rfl | exact o_pick_f rfl rfl) ?_
    refine XO.op (o_move rfl) ?_
    first | refine XO.run rfl (o_call rfl (c11 _)) ?_ | refine XO.pass rfl rfl ?_
    refine XO.op (by first | exact o_pick_t rfl rfl | exact o_pick_f rfl rfl) ?_
    refine XO.op (o_move rfl) ?_
    refine XO.nil ?_
    refine XC.ret ?_
    refine ⟨_, rfl, ?_⟩
    rfl

theorem WorkerNone_walk (x : S71) (w : World) (_ : F71 x) : Calls Tryz.prog 6 #[.agg #[.int .i64 x.f0, .int .i64 x.f1, .int .i64 x.f2, .int .i64 x.f3, .int .i64 x.f4.f0, .int .i64 x.f4.f1, .int .i64 x.f4.f2, .int .i64 x.f4.f3, .int .i64 x.f4.f4, .string x.f4.f5, .int .i64 x.f4.f6, .int .i64 x.f4.f7, .bool x.f4.f8, .int .i64 x.f4.f9.f0, .string x.f4.f9.f1]] w fun e w' => e = .returned (.bool true) ∧ Below w.heap.size w w' :=
  Runs.calls env2_ok (none_runs x noHeap) rfl rfl w
end Go.Proofs.YtkaaofamlgogcaaGreat.P
