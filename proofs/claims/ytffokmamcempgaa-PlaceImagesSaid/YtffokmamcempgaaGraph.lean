/- The builder of graphs (package graph), by our machine's rules. -/
import Derived.Test.YtffokmamcempgaaCode
import Derived.Test.YtffokmamcempgaaQG
namespace Go.Proofs.Ytffokmamcempgaa.P
open Go Go.RowKit Go.Proofs.Ytffokmamcempgaa.AM
set_option linter.unusedVariables false
set_option linter.unusedSimpArgs false
set_option maxRecDepth 100000
section
variable {n : Nat} {C : HC}
theorem ext_bs (l : Str) (a b : Nat) : (bs l).extract a b = bs ((l.drop a).take (b - a)) := by
  apply ByteArray.ext
  apply Array.ext'
  simp [bs, ByteArray.data_extract]
theorem bs_inj {a b : Str} (h : bs a = bs b) : a = b := by
  unfold bs at h
  injection h with h
  injection h
theorem first_qu (w0 : C.wf) {l : Str} (hl : l ≠ []) (hv : Val l) (hs : l.length < 1000000) : Qu (cf (n + 1)) 100 [sv l] C (.tuple #[.int .i32 ((dec l).1 : Int), .int .i64 ((dec l).2 : Int)]) := by
  obtain ⟨ho, -, -⟩ := hv.step hl
  have hp := List.length_pos_iff.2 hl
  have h0 := decode_dec (bs l) 0
  rw [List.drop_zero, show (bs l).data.toList = l from rfl] at h0
  have hn0 : nextP (bs l) 0 = (dec l).2 := by unfold nextP; rw [if_pos (by rw [bs_size]; exact hp), h0, Nat.zero_add]
  refine Rn.enter rfl rfl rfl fun H0 hH => ?_
  subst hH
  have g := Chg.refl (S := fun _ => False) H0.c
  refine XC.then_ops ?_
  refine XO.op (o_move rfl) <| XO.op (o_move rfl) <| XO.nil <| ?_
  refine XC.then_ops ?_
  refine XO.op (o_move rfl) <| XO.nil <| ?_
  refine XC.assoc ?_
  refine XC.then_ops ?_
  refine XO.op (o_move rfl) <| ?_
  refine XO.nwp (o_rangeS rfl) (g.wf w0) ?_
  intro b8 H1 n8 g1 a8
  have m8 := n8
  replace n8 := Nat.le_trans g.next n8
  replace g := g.tr g1
  refine XO.nil <| ?_
  refine XC.then_block ?_
  refine XC.lp (σ := Bool) (fun x => [(4, .int .i32 (if x then ((dec l).1 : Int) else 0))]) [(0, sv l), (8, .pointer (some ⟨b8, 0, none⟩))] (fun x G => G.c.get b8 = some (.iter (bs l) (if x then (dec l).2 else 0)) ∧ Gr H0.c G.c) (fun x => if x then 0 else 1) false (Sb.cons rfl (Sb.cons rfl (Sb.cons rfl (Sb.nil _)))) ⟨a8, g⟩ (by show 1 < 9223372036854775808; omega) ?_
  clear a8 g g1
  rintro x G ⟨a8, g⟩
  generalize hpos : (if x then (dec l).2 else 0) = pos at a8
  refine XC.then_ops ?_
  refine XO.nx rfl (a8) ?_
  intro H2 g1 u9
  replace g := Chg.th g w0 g1 (fun q hq => .inr (hq ▸ n8))
  replace a8 := u9
  clear u9
  refine XO.op (o_extract rfl (next0 _ _)) <| XO.nil <| ?_
  refine XC.pushIf rfl (fun hc10 => ?_) (fun hc10 => ?_)
  · skip
    refine XC.then_skip ?_
    refine XC.block ?_
    refine XC.then_ops ?_
    refine XO.op (o_extract rfl (next1 hc10)) <| XO.op (o_extract rfl (next2 hc10)) <| XO.op (o_move rfl) <| XO.op (o_move rfl) <| XO.nil <| ?_
    refine XC.assoc ?_
    refine XC.then_ops ?_
    refine XO.op (o_move rfl) <| XO.op (o_gtr rfl rfl rfl) <| XO.nil <| ?_
    refine XC.pushIf rfl (fun hc14 => ?_) (fun hc14 => ?_)
    · skip
      have hx : x = true := by
        cases x with
        | true => rfl
        | false => simp at hpos; omega
      subst hx
      simp only [if_true] at hpos
      subst hpos
      refine XC.assoc ?_
      refine XC.then_ops ?_
      refine XO.op (o_move rfl) <| XO.op (o_move rfl) <| XO.op (o_move rfl) <| XO.op (o_move rfl) <| XO.nil <| ?_
      refine XC.then_ret ?_
      refine blk_r ?_
      refine blk_r ?_
      refine then_r ?_
      refine ⟨_, rfl, ?_⟩
      exact ⟨rfl, g⟩
    · skip
      have hx : x = false := by
        cases x with
        | false => rfl
        | true => simp at hpos; have := ho.pos; omega
      subst hx
      simp only [Bool.false_eq_true, if_false] at hpos
      subst hpos
      rw [hn0] at a8
      refine XC.then_skip ?_
      refine XC.ops ?_
      refine XO.op (o_move rfl) <| XO.op (o_move rfl) <| XO.nil <| ?_
      refine blk_n ?_
      exact ⟨true, by decide, Sb.cons (by rw [if_pos rfl]; exact congrArg (fun z : Nat × Nat => some (Value.int .i32 (z.1 : Int))) h0) (Sb.cons rfl (Sb.cons rfl (Sb.nil _))), a8, g⟩
  · skip
    have hx : x = true := by
      cases x with
      | true => rfl
      | false => simp at hpos; rw [bs_size] at hc10; omega
    subst hx
    simp only [if_true] at hpos
    subst hpos
    have hle := ho.len
    rw [bs_size] at hc10
    refine XC.then_exit ?_
    refine blk_x rfl ?_
    refine then_n ?_
    refine XC.then_ops ?_
    refine XO.op (o_move rfl) <| XO.op (o_move rfl) <| XO.op (o_lenStr rfl) <| XO.op (o_move rfl) <| XO.op (o_move rfl) <| XO.nil <| ?_
    refine XC.ret ?_
    refine ⟨_, rfl, ?_⟩
    refine ⟨?_, g⟩
    show (Value.tuple #[.int .i32 ((dec l).1 : Int), .int .i64 ((bs l).size : Int)]) = _
    rw [bs_size, show l.length = (dec l).2 by omega]
theorem isP_take (p l : Str) : isP p l = (decide (p.length ≤ l.length) && decide (l.take p.length = p)) := by
  rw [Bool.eq_iff_iff]
  unfold isP
  rw [List.isPrefixOf_iff_prefix, List.prefix_iff_eq_take]
  simp only [Bool.and_eq_true, decide_eq_true_eq]
  constructor
  · intro h
    refine ⟨?_, h.symm⟩
    have := congrArg List.length h
    rw [List.length_take] at this
    omega
  · intro h
    exact h.2.symm
theorem pre_pu (l p : Str) : Pu (cf (n + 2)) 101 [sv l, sv p] C (.bool (isP p l)) := by
  have hq : Pu (cf (n + 1)) 114 [sv l, sv p] C (.bool (isP p l)) := by
    refine Pu.enter rfl rfl rfl fun H0 hH => ?_
    subst hH
    refine XC.then_ops ?_
    refine XO.op (o_move rfl) <| XO.nil <| ?_
    refine XC.then_ops ?_
    refine XO.op (o_move rfl) <| XO.op (o_lenStr rfl) <| XO.op (o_move rfl) <| XO.op (o_lenStr rfl) <| XO.op (o_geq rfl rfl rfl) <| XO.op (o_move rfl) <| ?_
    apply XO.sca (j := 7) (g := 10) (d := 17) (hg := rfl)
    · intro hg10
      have hle : p.length ≤ l.length := by simpa [bs_size] using hg10
      refine XO.gt rfl <| XO.op (o_move rfl) <| XO.gt rfl <| XO.op (o_move rfl) <| XO.gt rfl <| XO.op (o_lenStr rfl) <| XO.gt rfl <| XO.op (o_cutS (lo := none) (hi := some (bs p).size) rfl rfl rfl (by simp) (by simpa [bs_size] using hle)) <| XO.gt rfl <| XO.op (o_move rfl) <| XO.gt rfl <| XO.op (o_eqS rfl rfl) <| XO.op (o_pick_t rfl rfl) <| XO.nil <| ?_
      exact ⟨rfl, rfl, by repeat (first | exact Sb.refl _ | refine Sb.pt ?_ rfl)⟩
    · intro hg10
      refine XO.pass rfl rfl <| XO.pass rfl rfl <| XO.pass rfl rfl <| XO.pass rfl rfl <| XO.pass rfl rfl <| XO.pass rfl rfl <| XO.op (o_pick_f rfl rfl) <| XO.nil <| ?_
      exact ⟨rfl, rfl, by repeat (first | exact Sb.refl _ | refine Sb.pt ?_ rfl)⟩
    refine XO.op (o_move rfl) <| XO.nil <| ?_
    refine XC.ret ?_
    refine ⟨_, rfl, ?_⟩
    refine ⟨?_, rfl⟩
    have e1 : decide (((bs p).size : Int) ≤ ((bs l).size : Int)) = decide (p.length ≤ l.length) := decide_eq_decide.2 (by rw [bs_size, bs_size]; omega)
    have e2 : decide ((bs l).extract 0 (bs p).size = bs p) = decide (l.take p.length = p) := by
      rw [ext_bs, bs_size, List.drop_zero, Nat.sub_zero]
      exact decide_eq_decide.2 ⟨bs_inj, fun h => by rw [h]⟩
    show Value.bool (decide (((bs p).size : Int) ≤ ((bs l).size : Int)) && decide ((bs l).extract 0 (bs p).size = bs p)) = _
    rw [e1, e2, isP_take]
  refine Pu.enter rfl rfl rfl fun H0 hH => ?_
  subst hH
  refine XC.then_ops ?_
  refine XO.op (o_move rfl) <| XO.nil <| ?_
  refine XC.then_ops ?_
  refine XO.op (o_move rfl) <| XO.op (o_move rfl) <| XO.pu (hq) rfl <| XO.op (o_move rfl) <| XO.nil <| ?_
  refine XC.ret ?_
  refine ⟨_, rfl, ?_⟩
  exact ⟨rfl, rfl⟩
end
end Go.Proofs.Ytffokmamcempgaa.P
