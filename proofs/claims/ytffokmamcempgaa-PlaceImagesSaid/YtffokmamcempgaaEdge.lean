/- Two edges compared. -/
import Derived.Test.YtffokmamcempgaaEnvD
namespace Go.Proofs.Ytffokmamcempgaa.P
open Go Go.RowKit Go.Proofs.Ytffokmamcempgaa.AM
set_option linter.unusedVariables false
set_option linter.unusedSimpArgs false
set_option maxRecDepth 100000
theorem pr_bind {α β : Type} {P : Program} : ∀ (x : Sem α) (f : α → Sem β), pr P (x >>= f) = (pr P x).bind fun a => pr P (f a)
  | .pure a, f => rfl
  | .program k, f => pr_bind (k P) f
  | .load .., f => rfl
  | .store .., f => rfl
  | .new .., f => rfl
  | .shape .., f => rfl
  | .freeze .., f => rfl
  | .frozen .., f => rfl
  | .getObj .., f => rfl
  | .setObj .., f => rfl
  | .choose .., f => rfl
  | .sys .., f => rfl
  | .mark .., f => rfl
  | .halt .., f => rfl
theorem pr_pure {α : Type} {P : Program} (a : α) : pr P (pure a) = some a := rfl
theorem pr_program {P : Program} : pr P program = some P := rfl
theorem pr_und {P : Program} {t : TypeId} {d : TypeDesc} (h : P.underlying t = some d) : pr P (underlying t) = some d := by
  rw [underlying, pr_bind, pr_program, Option.bind_some, h]
  rfl
theorem edge_guard (x y z w : Value) : eqGuardB Try.prog 116 false (.agg #[x, y]) (.agg #[z, w]) = true := by kernel_rfl
theorem pr_info {P : Program} {t : TypeId} {i : TypeInfo} (h : P.info? t = some i) : pr P (typeInfo t) = some i := by
  rw [typeInfo, pr_bind, pr_program, Option.bind_some, h]
  rfl
theorem pr_int {P : Program} {t : TypeId} {k0 k : IntKind} (h : P.underlying t = some (.int k0)) (d : Nat) (a : Int) : pr P (Op.equalIn (d + 1) t (.int k a) (.int k a)) = some true := by
  simp only [Op.equalIn, pr_bind, pr_und h, Option.bind_some, if_true, beq_self_eq_true, pr_pure]
noncomputable def ef (i : Nat) : Field := ((Try.prog.fieldsOf 116).toList[i]?).getD default
theorem ef_un : Try.prog.underlying 116 = some (.struct #[ef 0, ef 1]) := by kernel_rfl
theorem ef_held : Try.prog.stoodInHeld 116 = false := by kernel_rfl
theorem ef_n0 : ((ef 0).name == "_") = false := by kernel_rfl
theorem ef_n1 : ((ef 1).name == "_") = false := by kernel_rfl
theorem ef_u0 : Try.prog.underlying (ef 0).type = some (.int .i32) := by kernel_rfl
theorem ef_u1 : Try.prog.underlying (ef 1).type = some (.int .i64) := by kernel_rfl
theorem ef_p0 (x y : Value) : pr Try.prog (part (ef 0).type #[x, y] (ef 0).offset) = some x := by kernel_rfl
theorem ef_p1 (x y : Value) : pr Try.prog (part (ef 1).type #[x, y] (ef 1).offset) = some y := by kernel_rfl
theorem edge_eqd (d : Nat) (a b : Int) : pr Try.prog (Op.equalIn (d + 1 + 1) 116 (.agg #[.int .i32 a, .int .i64 b]) (.agg #[.int .i32 a, .int .i64 b])) = some true := by
  have h0 : ¬ ((ef 0).name = "_") := by simpa using ef_n0
  have h1 : ¬ ((ef 1).name = "_") := by simpa using ef_n1
  rw [Op.equalIn]
  simp only [pr_bind, pr_und ef_un, Option.bind_some, pr_program, ef_held, Bool.false_eq_true, if_false]
  rw [← Array.forIn_toList]
  simp only [List.forIn_cons, List.forIn_nil, ne_eq, h0, h1, not_false_eq_true, if_true, pr_bind, ef_p0, ef_p1, Option.bind_some, pr_int ef_u0 d, pr_int ef_u1 d, Bool.not_true, Bool.false_eq_true, if_false, pr_pure]
theorem edge_eq (a b : Int) : pr Try.prog (Op.equal 116 (.agg #[.int .i32 a, .int .i64 b]) (.agg #[.int .i32 a, .int .i64 b])) = some true := edge_eqd 9998 a b
theorem edge_ne (a b : Int) : oBin Try.prog .neq 116 false (.agg #[.int .i32 a, .int .i64 b]) (.agg #[.int .i32 a, .int .i64 b]) = some (.bool false) := by
  show (match eqGuardB Try.prog 116 false (.agg #[.int .i32 a, .int .i64 b]) (.agg #[.int .i32 a, .int .i64 b]) with | true => slow Try.prog .neq 116 (.agg #[.int .i32 a, .int .i64 b]) (.agg #[.int .i32 a, .int .i64 b]) | false => none) = _
  rw [edge_guard]
  show ((pr Try.prog (binOp .neq 116 (.agg #[.int .i32 a, .int .i64 b]) (.agg #[.int .i32 a, .int .i64 b]))).bind fun v => match plainV 1 v with | true => some v | false => none) = _
  have : binOp .neq 116 (.agg #[.int .i32 a, .int .i64 b]) (.agg #[.int .i32 a, .int .i64 b]) = (do pure (.bool (!(← Op.equal 116 (.agg #[.int .i32 a, .int .i64 b]) (.agg #[.int .i32 a, .int .i64 b])))) : Sem Value) := rfl
  rw [this, pr_bind, edge_eq]
  rfl
end Go.Proofs.Ytffokmamcempgaa.P
