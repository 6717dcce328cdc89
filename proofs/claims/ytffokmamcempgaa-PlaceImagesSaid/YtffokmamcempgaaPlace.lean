/- Who keeps which shards (package place), by our machine's rules. -/
import Derived.Test.YtffokmamcempgaaPart
namespace Go.Proofs.Ytffokmamcempgaa.P
open Go Go.RowKit Go.Proofs.Ytffokmamcempgaa.AM
set_option linter.unusedVariables false
set_option linter.unusedSimpArgs false
set_option maxRecDepth 100000
def keyOk (c : Ky) : Bool := decide (1 ≤ c.len) && decide (c.len ≤ 12) && decide (0 ≤ lenL c.txt.data.toList) && decide (lenL c.txt.data.toList ≤ 12)
def risingK : List Ky → Bool
  | a :: b :: l => keyLt a b && risingK (b :: l)
  | _ => true
def cutsOk (l : List Ky) : Int := if 5 < l.length then 3 else if l.all keyOk then (if risingK l then 0 else 7) else 2
section
variable {n : Nat} {C : HC}
theorem lenL_rng (s : ByteArray) : -1 ≤ lenL s.data.toList ∧ lenL s.data.toList ≤ (s.size : Int) := by
  have h := runes_len s.data.toList
  have e : s.data.toList.length = s.size := rfl
  unfold lenL
  split <;> omega
theorem wgood_qu (w0 : C.wf) {v : Value} {l : List ByteArray} (hr : strRow C v l) (hl : l.length < 1000000) (hsm : ∀ w ∈ l, sm w) : Qu (cf (n + 3)) 47 [v] C (.int .i64 (wordsOk l)) := by
  refine Rn.enter rfl rfl rfl fun H0 hH => ?_
  subst hH
  have g := Chg.refl (S := fun _ => False) H0.c
  refine XC.then_ops ?_
  refine XO.op (o_move rfl) <| XO.nil <| ?_
  refine XC.assoc ?_
  refine XC.then_ops ?_
  refine XO.op (o_move rfl) <| XO.op (o_len (hr.gr g) rfl) <| XO.op (o_gtr rfl rfl rfl) <| XO.nil <| ?_
  refine XC.pushIf rfl (fun hc8 => ?_) (fun hc8 => ?_)
  · skip
    refine XC.assoc ?_
    refine XC.then_ops ?_
    refine XO.op (o_move rfl) <| XO.nil <| ?_
    refine XC.then_ret ?_
    refine ⟨_, rfl, ?_⟩
    exact ⟨by unfold wordsOk; rw [if_pos (by omega)]; rfl, g⟩
  · skip
    refine XC.then_skip ?_
    refine XC.assoc ?_
    refine XC.then_ops ?_
    refine XO.op (o_move rfl) <| XO.op (o_len (hr.gr g) rfl) <| XO.op (o_move rfl) <| XO.nil <| ?_
    refine XC.then_block ?_
    refine XC.lp (σ := Nat) (fun j => [(11, .int .i64 (j : Int))]) [(9, v), (10, .int .i64 (l.length : Int)), (0, v)] (fun j G => Gr H0.c G.c ∧ j ≤ l.length ∧ (l.take j).all (fun w => isWordL w.data.toList) = true) (fun j => l.length - j) 0 (Sb.cons rfl (Sb.cons rfl (Sb.cons rfl (Sb.cons rfl (Sb.nil _))))) ⟨g, Nat.zero_le _, rfl⟩ (by show l.length - 0 < 9223372036854775808; omega) ?_
    clear g
    rintro j G ⟨g, hj, ha⟩
    refine XC.then_ops ?_
    refine XO.op (o_lss rfl rfl rfl) <| XO.nil <| ?_
    refine XC.pushIf rfl (fun hc12 => ?_) (fun hc12 => ?_)
    · skip
      have hj2 : j < l.length := by omega
      have hst : (l.take (j + 1)).all (fun w => isWordL w.data.toList) = isWordL l[j].data.toList := by rw [List.take_succ_eq_append_getElem hj2, List.all_append, ha]; simp
      refine XC.then_skip ?_
      refine XC.then_block ?_
      refine XC.then_ops ?_
      refine XO.op (o_ix (hr.gr g) rfl rfl hj2) <| XO.op (o_ld (hr.gr g) rfl (by simp only [Option.getD_none]; omega) (by omega) (one_cell hj2)) <| XO.op (o_move rfl) <| XO.nil <| ?_
      refine XC.then_ops ?_
      refine XO.op (o_move rfl) <| ?_
      refine XO.ca (word_qu (g.wf w0) l[j] (hsm _ (List.getElem_mem _))) rfl ?_
      rintro v16 H1 ⟨rfl, g1⟩
      replace g := g.tr g1
      refine XO.op (o_not rfl) <| XO.nil <| ?_
      refine XC.cond rfl (fun hc17 => ?_) (fun hc17 => ?_)
      · skip
        refine XC.then_ops ?_
        refine XO.op (o_move rfl) <| XO.nil <| ?_
        refine XC.ret ?_
        refine blk_r ?_
        refine then_r ?_
        refine blk_r ?_
        refine then_r ?_
        refine ⟨_, rfl, ?_⟩
        refine ⟨?_, g⟩
        have hk : isWordL l[j].data.toList = false := by simpa using hc17
        unfold wordsOk
        rw [if_neg (by omega), if_neg]
        · rfl
        · intro h
          rw [List.all_eq_true.1 h l[j] (List.getElem_mem _)] at hk
          cases hk
      · skip
        refine XC.skip ?_
        refine blk_n ?_
        refine then_n ?_
        refine XC.ops ?_
        refine XO.op (o_add rfl rfl (w64 (by omega) (by omega))) <| XO.op (o_move rfl) <| XO.nil <| ?_
        exact ⟨j + 1, by show l.length - (j + 1) < l.length - j; omega, Sb.cons rfl (Sb.cons rfl (Sb.cons rfl (Sb.cons rfl (Sb.nil _)))), g, hj2, by rw [hst]; simpa using hc17⟩
    · skip
      have hall : l.all (fun w => isWordL w.data.toList) = true := by rw [List.take_of_length_le (by omega)] at ha; exact ha
      refine XC.then_exit ?_
      refine blk_x rfl ?_
      refine then_n ?_
      refine XC.assoc ?_
      refine XC.then_ops ?_
      refine XO.op (o_move rfl) <| XO.nil <| ?_
      refine XC.then_block ?_
      refine XC.lp (σ := Nat) (fun j => [(5, .int .i64 ((j + 1 : Nat) : Int))]) [(0, v)] (fun j G => Gr H0.c G.c ∧ j ≤ l.length ∧ risingW l = risingW (l.drop j)) (fun j => l.length - j) 0 (Sb.cons rfl (Sb.cons rfl (Sb.nil _))) ⟨g, Nat.zero_le _, by rw [List.drop_zero]⟩ (by show l.length - 0 < 9223372036854775808; omega) ?_
      clear g
      rintro i G ⟨g, hi, hris⟩
      refine XC.assoc ?_
      refine XC.then_ops ?_
      refine XO.op (o_move rfl) <| XO.op (o_move rfl) <| XO.op (o_len (hr.gr g) rfl) <| XO.op (o_lss rfl rfl rfl) <| XO.nil <| ?_
      refine XC.pushIf rfl (fun hc22 => ?_) (fun hc22 => ?_)
      · skip
        have hi2 : i + 1 < l.length := by omega
        rw [List.drop_eq_getElem_cons (show i < l.length by omega), List.drop_eq_getElem_cons hi2, risingW, ← List.drop_eq_getElem_cons hi2] at hris
        refine XC.then_skip ?_
        refine XC.then_block ?_
        refine XC.then_draw ?_
        refine XD.pure (o_move rfl) <| XD.pure (o_move rfl) <| XD.pure (o_sub (r := (i : Int)) rfl rfl (by rw [w64 (by omega) (by omega)]; omega)) <| XD.pure (o_ix (hr.gr g) rfl rfl (show i < l.length by omega)) <| XD.pure (o_ld (hr.gr g) rfl (by simp only [Option.getD_none]; omega) (by omega) (one_cell (show i < l.length by omega))) <| ?_
        refine XD.pure (o_move rfl) <| XD.pure (o_move rfl) <| XD.pure (o_ix (hr.gr g) rfl rfl hi2) <| XD.pure (o_ld (hr.gr g) rfl (by simp only [Option.getD_none]; omega) (by omega) (one_cell hi2)) <| XD.pu (cmp_pu _ _) rfl <| XD.pure (o_geq rfl rfl rfl) <| XD.nil <| ?_
        refine XC.ite rfl (fun hc35 => ?_) (fun hc35 => ?_)
        · skip
          refine XC.then_ops ?_
          refine XO.op (o_move rfl) <| XO.nil <| ?_
          refine XC.ret ?_
          refine blk_r ?_
          refine then_r ?_
          refine blk_r ?_
          refine then_r ?_
          refine ⟨_, rfl, ?_⟩
          refine ⟨?_, g⟩
          unfold wordsOk
          have hlt : wordLt l[i] l[i + 1] = false := decide_eq_false (by unfold cmpB at hc35; omega)
          rw [if_neg (by omega), if_pos hall, hris, hlt]
          rfl
        · skip
          refine XC.skip ?_
          refine blk_n ?_
          refine then_n ?_
          refine XC.ops ?_
          refine XO.op (o_move rfl) <| XO.op (o_add rfl rfl (w64 (by omega) (by omega))) <| XO.op (o_move rfl) <| XO.nil <| ?_
          have hlt : wordLt l[i] l[i + 1] = true := decide_eq_true (by unfold cmpB at hc35; omega)
          exact ⟨i + 1, by show l.length - (i + 1) < l.length - i; omega, Sb.cons rfl (Sb.cons rfl (Sb.nil _)), g, by show i + 1 ≤ _; omega, by rw [hris, hlt, Bool.true_and]⟩
      · skip
        refine XC.then_exit ?_
        refine blk_x rfl ?_
        refine then_n ?_
        refine XC.then_ops ?_
        refine XO.op (o_move rfl) <| XO.nil <| ?_
        refine XC.ret ?_
        refine ⟨_, rfl, ?_⟩
        refine ⟨?_, g⟩
        have hnil : risingW (l.drop i) = true := by
          have : (l.drop i).length ≤ 1 := by rw [List.length_drop]; omega
          match h : l.drop i, this with
          | [], _ => rfl
          | [_], _ => rfl
        unfold wordsOk
        rw [if_neg (by omega), if_pos hall, hris, hnil]
        rfl
theorem kgood_qu (w0 : C.wf) {v : Value} {l : List Ky} (hr : keyRow C v l) (hl : l.length < 1000000) (hsm : ∀ k ∈ l, sm k.txt) : Qu (cf (n + 5)) 48 [v] C (.int .i64 (cutsOk l)) := by
  refine Rn.enter rfl rfl rfl fun H0 hH => ?_
  subst hH
  have g := Chg.refl (S := fun _ => False) H0.c
  refine XC.then_ops ?_
  refine XO.op (o_move rfl) <| XO.nil <| ?_
  refine XC.assoc ?_
  refine XC.then_ops ?_
  refine XO.op (o_move rfl) <| XO.op (o_len (hr.gr g) rfl) <| XO.op (o_gtr rfl rfl rfl) <| XO.nil <| ?_
  refine XC.pushIf rfl (fun hc9 => ?_) (fun hc9 => ?_)
  · skip
    refine XC.assoc ?_
    refine XC.then_ops ?_
    refine XO.op (o_move rfl) <| XO.nil <| ?_
    refine XC.then_ret ?_
    refine ⟨_, rfl, ?_⟩
    exact ⟨by unfold cutsOk; rw [if_pos (by omega)]; rfl, g⟩
  · skip
    refine XC.then_skip ?_
    refine XC.assoc ?_
    refine XC.then_ops ?_
    refine XO.op (o_move rfl) <| XO.op (o_len (hr.gr g) rfl) <| XO.op (o_move rfl) <| XO.nil <| ?_
    refine XC.then_block ?_
    refine XC.lp (σ := Nat) (fun j => [(12, .int .i64 (j : Int))]) [(10, v), (11, .int .i64 (l.length : Int)), (0, v)] (fun j G => Gr H0.c G.c ∧ j ≤ l.length ∧ (l.take j).all keyOk = true) (fun j => l.length - j) 0 (Sb.cons rfl (Sb.cons rfl (Sb.cons rfl (Sb.cons rfl (Sb.nil _))))) ⟨g, Nat.zero_le _, rfl⟩ (by show l.length - 0 < 9223372036854775808; omega) ?_
    clear g
    rintro j G ⟨g, hj, ha⟩
    refine XC.then_ops ?_
    refine XO.op (o_lss rfl rfl rfl) <| XO.nil <| ?_
    refine XC.pushIf rfl (fun hc13 => ?_) (fun hc13 => ?_)
    · skip
      have hj2 : j < l.length := by omega
      have hst : (l.take (j + 1)).all keyOk = keyOk l[j] := by rw [List.take_succ_eq_append_getElem hj2, List.all_append, ha]; simp
      have hrg := lenL_rng l[j].txt
      have hsz := hsm _ (List.getElem_mem hj2)
      refine XC.then_skip ?_
      refine XC.then_block ?_
      refine XC.then_ops ?_
      refine XO.op (o_ix (hr.gr g) rfl rfl hj2) <| XO.op (o_ld (hr.gr g) rfl (by show j * 2 + 2 ≤ _; omega) (by omega) (flat_part Ky.cs_len hj2)) <| ?_
      refine XO.nwp (o_new) (g.wf w0) ?_
      intro b4 H1 n4 g1 a4
      have m4 := n4
      replace n4 := Nat.le_trans g.next n4
      replace g := g.tr g1
      refine XO.up (o_set rfl rfl a4 rfl rfl rfl) (a4) ?_
      intro H2 g1 us1
      replace g := Chg.th g w0 g1 (fun q hq => .inr (hq ▸ n4))
      replace a4 := us1
      clear us1
      refine XO.nil <| ?_
      refine XC.then_ops ?_
      refine XO.op (o_fieldAddr rfl) <| XO.op (o_get rfl a4 rfl) <| ?_
      refine XO.ca (len_qu (g.wf w0) l[j].txt hsz) rfl ?_
      rintro v18 H3 ⟨rfl, g1⟩
      replace a4 := Gr.at g1 a4
      replace g := g.tr g1
      refine XO.op (o_move rfl) <| XO.nil <| ?_
      refine XC.then_ops ?_
      refine XO.op (o_fieldAddr rfl) <| XO.op (o_get rfl a4 rfl) <| XO.op (o_lss rfl rfl rfl) <| XO.op (o_move rfl) <| ?_
      apply XO.sco (j := 4) (g := 22) (d := 26) (hg := rfl)
      · intro hg22
        refine XO.gt rfl <| XO.op (o_fieldAddr rfl) <| XO.gt rfl <| XO.op (o_get rfl a4 rfl) <| XO.gt rfl <| XO.op (o_gtr rfl rfl rfl) <| XO.op (o_pick_f rfl rfl) <| XO.nil <| ?_
        exact ⟨rfl, rfl, by repeat (first | exact Sb.refl _ | refine Sb.pt ?_ rfl)⟩
      · intro hg22
        refine XO.pass rfl rfl <| XO.pass rfl rfl <| XO.pass rfl rfl <| XO.op (o_pick_t rfl rfl) <| XO.nil <| ?_
        exact ⟨rfl, rfl, by repeat (first | exact Sb.refl _ | refine Sb.pt ?_ rfl)⟩
      refine XO.op (o_move rfl) <| ?_
      apply XO.sco (j := 3) (g := 27) (d := 30) (hg := rfl)
      · intro hg27
        refine XO.gt rfl <| XO.op (o_move rfl) <| XO.gt rfl <| XO.op (o_lss rfl rfl rfl) <| XO.op (o_pick_f rfl rfl) <| XO.nil <| ?_
        exact ⟨rfl, rfl, by repeat (first | exact Sb.refl _ | refine Sb.pt ?_ rfl)⟩
      · intro hg27
        refine XO.pass rfl rfl <| XO.pass rfl rfl <| XO.op (o_pick_t rfl rfl) <| XO.nil <| ?_
        exact ⟨rfl, rfl, by repeat (first | exact Sb.refl _ | refine Sb.pt ?_ rfl)⟩
      refine XO.op (o_move rfl) <| ?_
      apply XO.sco (j := 3) (g := 31) (d := 34) (hg := rfl)
      · intro hg31
        refine XO.gt rfl <| XO.op (o_move rfl) <| XO.gt rfl <| XO.op (o_gtr rfl rfl rfl) <| XO.op (o_pick_f rfl rfl) <| XO.nil <| ?_
        exact ⟨rfl, rfl, by repeat (first | exact Sb.refl _ | refine Sb.pt ?_ rfl)⟩
      · intro hg31
        refine XO.pass rfl rfl <| XO.pass rfl rfl <| XO.op (o_pick_t rfl rfl) <| XO.nil <| ?_
        exact ⟨rfl, rfl, by repeat (first | exact Sb.refl _ | refine Sb.pt ?_ rfl)⟩
      refine XO.nil <| ?_
      refine XC.cond rfl (fun hc34 => ?_) (fun hc34 => ?_)
      · skip
        have hk : keyOk l[j] = false := by
          simp only [Bool.or_eq_true, decide_eq_true_eq] at hc34
          unfold keyOk
          simp only [Bool.and_eq_false_iff, decide_eq_false_iff_not]
          omega
        refine XC.then_ops ?_
        refine XO.op (o_move rfl) <| XO.nil <| ?_
        refine XC.ret ?_
        refine blk_r ?_
        refine then_r ?_
        refine blk_r ?_
        refine then_r ?_
        refine ⟨_, rfl, ?_⟩
        refine ⟨?_, g⟩
        unfold cutsOk
        rw [if_neg (by omega), if_neg]
        · rfl
        · intro h
          rw [List.all_eq_true.1 h l[j] (List.getElem_mem _)] at hk
          cases hk
      · skip
        have hk : keyOk l[j] = true := by
          simp only [Bool.or_eq_false_iff, decide_eq_false_iff_not] at hc34
          unfold keyOk
          simp only [Bool.and_eq_true, decide_eq_true_eq]
          omega
        refine XC.skip ?_
        refine blk_n ?_
        refine then_n ?_
        refine XC.ops ?_
        refine XO.op (o_add rfl rfl (w64 (by omega) (by omega))) <| XO.op (o_move rfl) <| XO.nil <| ?_
        exact ⟨j + 1, by show l.length - (j + 1) < l.length - j; omega, Sb.cons rfl (Sb.cons rfl (Sb.cons rfl (Sb.cons rfl (Sb.nil _)))), g, hj2, by rw [hst]; exact hk⟩
    · skip
      have hall : l.all keyOk = true := by rw [List.take_of_length_le (by omega)] at ha; exact ha
      refine XC.then_exit ?_
      refine blk_x rfl ?_
      refine then_n ?_
      refine XC.assoc ?_
      refine XC.then_ops ?_
      refine XO.op (o_move rfl) <| XO.nil <| ?_
      refine XC.then_block ?_
      refine XC.lp (σ := Nat) (fun j => [(6, .int .i64 ((j + 1 : Nat) : Int))]) [(0, v)] (fun j G => Gr H0.c G.c ∧ j ≤ l.length ∧ risingK l = risingK (l.drop j)) (fun j => l.length - j) 0 (Sb.cons rfl (Sb.cons rfl (Sb.nil _))) ⟨g, Nat.zero_le _, by rw [List.drop_zero]⟩ (by show l.length - 0 < 9223372036854775808; omega) ?_
      clear g
      rintro i G ⟨g, hi, hris⟩
      refine XC.assoc ?_
      refine XC.then_ops ?_
      refine XO.op (o_move rfl) <| XO.op (o_move rfl) <| XO.op (o_len (hr.gr g) rfl) <| XO.op (o_lss rfl rfl rfl) <| XO.nil <| ?_
      refine XC.pushIf rfl (fun hc39 => ?_) (fun hc39 => ?_)
      · skip
        have hi2 : i + 1 < l.length := by omega
        rw [List.drop_eq_getElem_cons (show i < l.length by omega), List.drop_eq_getElem_cons hi2, risingK, ← List.drop_eq_getElem_cons hi2] at hris
        refine XC.then_skip ?_
        refine XC.then_block ?_
        refine XC.then_draw ?_
        refine XD.pure (o_move rfl) <| XD.pure (o_move rfl) <| XD.pure (o_sub (r := (i : Int)) rfl rfl (by rw [w64 (by omega) (by omega)]; omega)) <| XD.pure (o_ix (hr.gr g) rfl rfl (show i < l.length by omega)) <| XD.pure (o_ld (hr.gr g) rfl (by show i * 2 + 2 ≤ _; omega) (by omega) (flat_part Ky.cs_len (show i < l.length by omega))) <| ?_
        refine XD.pure (o_move rfl) <| XD.pure (o_move rfl) <| XD.pure (o_ix (hr.gr g) rfl rfl hi2) <| XD.pure (o_ld (hr.gr g) rfl (by show (i + 1) * 2 + 2 ≤ _; omega) (by omega) (flat_part Ky.cs_len hi2)) <| ?_
        refine XD.ca (kless_qu (g.wf w0) _ _) rfl ?_
        rintro v51 H4 ⟨rfl, g1⟩
        replace g := g.tr g1
        refine XD.pure (o_not rfl) <| XD.nil <| ?_
        refine XC.cond rfl (fun hc52 => ?_) (fun hc52 => ?_)
        · skip
          refine XC.then_ops ?_
          refine XO.op (o_move rfl) <| XO.nil <| ?_
          refine XC.ret ?_
          refine blk_r ?_
          refine then_r ?_
          refine blk_r ?_
          refine then_r ?_
          refine ⟨_, rfl, ?_⟩
          refine ⟨?_, g⟩
          have hlt : keyLt l[i] l[i + 1] = false := by simpa using hc52
          unfold cutsOk
          rw [if_neg (by omega), if_pos hall, hris, hlt]
          rfl
        · skip
          refine XC.skip ?_
          refine blk_n ?_
          refine then_n ?_
          refine XC.ops ?_
          refine XO.op (o_move rfl) <| XO.op (o_add rfl rfl (w64 (by omega) (by omega))) <| XO.op (o_move rfl) <| XO.nil <| ?_
          have hlt : keyLt l[i] l[i + 1] = true := by simpa using hc52
          exact ⟨i + 1, by show l.length - (i + 1) < l.length - i; omega, Sb.cons rfl (Sb.cons rfl (Sb.nil _)), g, by show i + 1 ≤ _; omega, by rw [hris, hlt, Bool.true_and]⟩
      · skip
        refine XC.then_exit ?_
        refine blk_x rfl ?_
        refine then_n ?_
        refine XC.then_ops ?_
        refine XO.op (o_move rfl) <| XO.nil <| ?_
        refine XC.ret ?_
        refine ⟨_, rfl, ?_⟩
        refine ⟨?_, g⟩
        have hnil : risingK (l.drop i) = true := by
          have : (l.drop i).length ≤ 1 := by rw [List.length_drop]; omega
          match h : l.drop i, this with
          | [], _ => rfl
          | [_], _ => rfl
        unfold cutsOk
        rw [if_neg (by omega), if_pos hall, hris, hnil]
        rfl
def inB (x lo hi : Int) : Bool := decide (lo ≤ x) && decide (x ≤ hi)
theorem within_pu (x lo hi : Int) : Pu (cf (n + 1)) 42 [.int .i64 x, .int .i64 lo, .int .i64 hi] C (.bool (inB x lo hi)) := by
  refine Pu.enter rfl rfl rfl fun H0 hH => ?_
  subst hH
  refine XC.then_ops ?_
  refine XO.op (o_move rfl) <| XO.nil <| ?_
  refine XC.then_ops ?_
  refine XO.op (o_move rfl) <| XO.op (o_move rfl) <| XO.op (o_geq rfl rfl rfl) <| XO.op (o_move rfl) <| ?_
  apply XO.sca (j := 4) (g := 10) (d := 14) (hg := rfl)
  · intro hg10
    refine XO.gt rfl <| XO.op (o_move rfl) <| XO.gt rfl <| XO.op (o_move rfl) <| XO.gt rfl <| XO.op (o_leq rfl rfl rfl) <| XO.op (o_pick_t rfl rfl) <| XO.nil <| ?_
    exact ⟨rfl, rfl, by repeat (first | exact Sb.refl _ | refine Sb.pt ?_ rfl)⟩
  · intro hg10
    refine XO.pass rfl rfl <| XO.pass rfl rfl <| XO.pass rfl rfl <| XO.op (o_pick_f rfl rfl) <| XO.nil <| ?_
    exact ⟨rfl, rfl, by repeat (first | exact Sb.refl _ | refine Sb.pt ?_ rfl)⟩
  refine XO.op (o_move rfl) <| XO.nil <| ?_
  refine XC.ret ?_
  refine ⟨_, rfl, ?_⟩
  exact ⟨rfl, rfl⟩
end
/-! configurations -/
structure Cf where
  w : Value
  k : Value
  ws : List ByteArray
  ks : List Ky
  workers : Int
  copies : Int
  slots : Int
  batch : Int
  lease : Int
  hedge : Int
  first : Int
  cap : Int
  jitter : Int
  net : Int
def Cf.cs (c : Cf) : List Value := [c.w, c.k, .int .i64 c.workers, .int .i64 c.copies, .int .i64 c.slots, .int .i64 c.batch, .int .i64 c.lease, .int .i64 c.hedge, .int .i64 c.first, .int .i64 c.cap, .int .i64 c.jitter, .int .i64 c.net]
abbrev Cf.v (c : Cf) : Value := .agg ⟨c.cs⟩
structure CfAt (C : HC) (c : Cf) : Prop where
  w : strRow C c.w c.ws
  k : keyRow C c.k c.ks
  wl : c.ws.length < 1000000
  kl : c.ks.length < 1000000
  wsm : ∀ w ∈ c.ws, sm w
  ksm : ∀ k ∈ c.ks, sm k.txt
theorem CfAt.gr {C D : HC} {c : Cf} (h : CfAt C c) (g : Gr C D) : CfAt D c := ⟨h.w.gr g, h.k.gr g, h.wl, h.kl, h.wsm, h.ksm⟩
def numsOk (c : Cf) : Bool := inB c.workers 1 5 && inB c.copies 1 (min 3 c.workers) && (inB c.slots 1 4 && inB c.batch 1 5 && inB c.net 8 64) && (inB c.lease 1 1000 && inB c.hedge 1 1000 && inB c.first 1 10 && inB c.cap c.first 50 && inB c.jitter 0 10)
def mayB (c : Cf) : Bool := decide (wordsOk c.ws = 0) && decide (cutsOk c.ks = 0) && numsOk c
section
variable {n : Nat} {C : HC}
theorem may_qu (w0 : C.wf) {c : Cf} (hc : CfAt C c) : Qu (cf (n + 6)) 15 [c.v] C (.bool (mayB c)) := by
  refine Rn.enter rfl rfl rfl fun H0 hH => ?_
  subst hH
  have g := Chg.refl (S := fun _ => False) H0.c
  refine XC.then_ops ?_
  refine XO.nwp (o_box rfl) (g.wf w0) ?_
  intro b1 H1 n1 g1 a1
  have m1 := n1
  replace n1 := Nat.le_trans g.next n1
  replace g := g.tr g1
  refine XO.op (o_move rfl) <| XO.nil <| ?_
  refine XC.assoc ?_
  refine XC.then_ops ?_
  refine XO.op (o_fieldAddr rfl) <| XO.op (o_get rfl a1 rfl) <| ?_
  refine XO.ca (wgood_qu (g.wf w0) (hc.w.gr g) hc.wl hc.wsm) rfl ?_
  rintro v8 H2 ⟨rfl, g1⟩
  replace a1 := Gr.at g1 a1
  replace g := g.tr g1
  refine XO.op (o_ne rfl rfl) <| XO.op (o_move rfl) <| ?_
  refine XO.splitd (g := 10) rfl (fun hg10 => ?_) (fun hg10 => ?_)
  · skip
    have hm : mayB c = false := by unfold mayB; rw [decide_eq_false hg10]; rfl
    refine XO.pass rfl rfl <| XO.pass rfl rfl <| XO.pass rfl rfl <| XO.pass rfl rfl <| XO.op (o_pick_t rfl rfl) <| XO.nil <| ?_
    refine XC.push_t (rfl) ?_
    refine XC.assoc ?_
    refine XC.then_ops ?_
    refine XO.op (o_move rfl) <| XO.nil <| ?_
    refine XC.then_ret ?_
    refine ⟨_, rfl, ?_⟩
    exact ⟨by rw [hm]; rfl, g⟩
  · skip
    refine XO.gt rfl <| XO.op (o_fieldAddr rfl) <| XO.gt rfl <| XO.op (o_get rfl a1 rfl) <| XO.gt rfl <| ?_
    refine XO.ca (kgood_qu (g.wf w0) (hc.k.gr g) hc.kl hc.ksm) rfl ?_
    rintro v13 H3 ⟨rfl, g1⟩
    replace a1 := Gr.at g1 a1
    replace g := g.tr g1
    refine XO.gt rfl <| XO.op (o_ne rfl rfl) <| XO.op (o_pick_f rfl rfl) <| XO.nil <| ?_
    refine XC.pushIf rfl (fun hc15 => ?_) (fun hc15 => ?_)
    · skip
      have hm : mayB c = false := by unfold mayB; rw [decide_eq_false hc15, Bool.and_false]; rfl
      refine XC.assoc ?_
      refine XC.then_ops ?_
      refine XO.op (o_move rfl) <| XO.nil <| ?_
      refine XC.then_ret ?_
      refine ⟨_, rfl, ?_⟩
      exact ⟨by rw [hm]; rfl, g⟩
    · skip
      refine XC.then_skip ?_
      refine XC.then_ops ?_
      refine XO.op (o_fieldAddr rfl) <| XO.op (o_get rfl a1 rfl) <| XO.pu (within_pu _ _ _) rfl <| XO.op (o_move rfl) <| ?_
      apply XO.sca (j := 7) (g := 19) (d := 26) (hg := rfl)
      · intro hg19
        refine XO.gt rfl <| XO.op (o_fieldAddr rfl) <| XO.gt rfl <| XO.op (o_get rfl a1 rfl) <| XO.gt rfl <| XO.op (o_fieldAddr rfl) <| XO.gt rfl <| XO.op (o_get rfl a1 rfl) <| XO.gt rfl <| XO.op (o_min2 rfl) <| XO.gt rfl <| XO.pu (within_pu _ _ _) rfl <| XO.op (o_pick_t rfl rfl) <| XO.nil <| ?_
        exact ⟨rfl, rfl, by repeat (first | exact Sb.refl _ | refine Sb.pt ?_ rfl)⟩
      · intro hg19
        refine XO.pass rfl rfl <| XO.pass rfl rfl <| XO.pass rfl rfl <| XO.pass rfl rfl <| XO.pass rfl rfl <| XO.pass rfl rfl <| XO.op (o_pick_f rfl rfl) <| XO.nil <| ?_
        exact ⟨rfl, rfl, by repeat (first | exact Sb.refl _ | refine Sb.pt ?_ rfl)⟩
      refine XO.op (o_move rfl) <| XO.nil <| ?_
      refine XC.then_ops ?_
      refine XO.op (o_fieldAddr rfl) <| XO.op (o_get rfl a1 rfl) <| XO.pu (within_pu _ _ _) rfl <| XO.op (o_move rfl) <| ?_
      apply XO.sca (j := 4) (g := 30) (d := 34) (hg := rfl)
      · intro hg30
        refine XO.gt rfl <| XO.op (o_fieldAddr rfl) <| XO.gt rfl <| XO.op (o_get rfl a1 rfl) <| XO.gt rfl <| XO.pu (within_pu _ _ _) rfl <| XO.op (o_pick_t rfl rfl) <| XO.nil <| ?_
        exact ⟨rfl, rfl, by repeat (first | exact Sb.refl _ | refine Sb.pt ?_ rfl)⟩
      · intro hg30
        refine XO.pass rfl rfl <| XO.pass rfl rfl <| XO.pass rfl rfl <| XO.op (o_pick_f rfl rfl) <| XO.nil <| ?_
        exact ⟨rfl, rfl, by repeat (first | exact Sb.refl _ | refine Sb.pt ?_ rfl)⟩
      refine XO.op (o_move rfl) <| ?_
      apply XO.sca (j := 4) (g := 35) (d := 39) (hg := rfl)
      · intro hg35
        refine XO.gt rfl <| XO.op (o_fieldAddr rfl) <| XO.gt rfl <| XO.op (o_get rfl a1 rfl) <| XO.gt rfl <| XO.pu (within_pu _ _ _) rfl <| XO.op (o_pick_t rfl rfl) <| XO.nil <| ?_
        exact ⟨rfl, rfl, by repeat (first | exact Sb.refl _ | refine Sb.pt ?_ rfl)⟩
      · intro hg35
        refine XO.pass rfl rfl <| XO.pass rfl rfl <| XO.pass rfl rfl <| XO.op (o_pick_f rfl rfl) <| XO.nil <| ?_
        exact ⟨rfl, rfl, by repeat (first | exact Sb.refl _ | refine Sb.pt ?_ rfl)⟩
      refine XO.op (o_move rfl) <| XO.nil <| ?_
      refine XC.then_ops ?_
      refine XO.op (o_fieldAddr rfl) <| XO.op (o_get rfl a1 rfl) <| XO.pu (within_pu _ _ _) rfl <| XO.op (o_move rfl) <| ?_
      apply XO.sca (j := 4) (g := 43) (d := 47) (hg := rfl)
      · intro hg43
        refine XO.gt rfl <| XO.op (o_fieldAddr rfl) <| XO.gt rfl <| XO.op (o_get rfl a1 rfl) <| XO.gt rfl <| XO.pu (within_pu _ _ _) rfl <| XO.op (o_pick_t rfl rfl) <| XO.nil <| ?_
        exact ⟨rfl, rfl, by repeat (first | exact Sb.refl _ | refine Sb.pt ?_ rfl)⟩
      · intro hg43
        refine XO.pass rfl rfl <| XO.pass rfl rfl <| XO.pass rfl rfl <| XO.op (o_pick_f rfl rfl) <| XO.nil <| ?_
        exact ⟨rfl, rfl, by repeat (first | exact Sb.refl _ | refine Sb.pt ?_ rfl)⟩
      refine XO.op (o_move rfl) <| ?_
      apply XO.sca (j := 4) (g := 48) (d := 52) (hg := rfl)
      · intro hg48
        refine XO.gt rfl <| XO.op (o_fieldAddr rfl) <| XO.gt rfl <| XO.op (o_get rfl a1 rfl) <| XO.gt rfl <| XO.pu (within_pu _ _ _) rfl <| XO.op (o_pick_t rfl rfl) <| XO.nil <| ?_
        exact ⟨rfl, rfl, by repeat (first | exact Sb.refl _ | refine Sb.pt ?_ rfl)⟩
      · intro hg48
        refine XO.pass rfl rfl <| XO.pass rfl rfl <| XO.pass rfl rfl <| XO.op (o_pick_f rfl rfl) <| XO.nil <| ?_
        exact ⟨rfl, rfl, by repeat (first | exact Sb.refl _ | refine Sb.pt ?_ rfl)⟩
      refine XO.op (o_move rfl) <| ?_
      apply XO.sca (j := 6) (g := 53) (d := 59) (hg := rfl)
      · intro hg53
        refine XO.gt rfl <| XO.op (o_fieldAddr rfl) <| XO.gt rfl <| XO.op (o_get rfl a1 rfl) <| XO.gt rfl <| XO.op (o_fieldAddr rfl) <| XO.gt rfl <| XO.op (o_get rfl a1 rfl) <| XO.gt rfl <| XO.pu (within_pu _ _ _) rfl <| XO.op (o_pick_t rfl rfl) <| XO.nil <| ?_
        exact ⟨rfl, rfl, by repeat (first | exact Sb.refl _ | refine Sb.pt ?_ rfl)⟩
      · intro hg53
        refine XO.pass rfl rfl <| XO.pass rfl rfl <| XO.pass rfl rfl <| XO.pass rfl rfl <| XO.pass rfl rfl <| XO.op (o_pick_f rfl rfl) <| XO.nil <| ?_
        exact ⟨rfl, rfl, by repeat (first | exact Sb.refl _ | refine Sb.pt ?_ rfl)⟩
      refine XO.op (o_move rfl) <| ?_
      apply XO.sca (j := 4) (g := 60) (d := 64) (hg := rfl)
      · intro hg60
        refine XO.gt rfl <| XO.op (o_fieldAddr rfl) <| XO.gt rfl <| XO.op (o_get rfl a1 rfl) <| XO.gt rfl <| XO.pu (within_pu _ _ _) rfl <| XO.op (o_pick_t rfl rfl) <| XO.nil <| ?_
        exact ⟨rfl, rfl, by repeat (first | exact Sb.refl _ | refine Sb.pt ?_ rfl)⟩
      · intro hg60
        refine XO.pass rfl rfl <| XO.pass rfl rfl <| XO.pass rfl rfl <| XO.op (o_pick_f rfl rfl) <| XO.nil <| ?_
        exact ⟨rfl, rfl, by repeat (first | exact Sb.refl _ | refine Sb.pt ?_ rfl)⟩
      refine XO.op (o_move rfl) <| XO.nil <| ?_
      refine XC.then_ops ?_
      refine XO.op (o_move rfl) <| XO.op (o_move rfl) <| ?_
      apply XO.sca (j := 2) (g := 66) (d := 68) (hg := rfl)
      · intro hg66
        refine XO.gt rfl <| XO.op (o_move rfl) <| XO.op (o_pick_t rfl rfl) <| XO.nil <| ?_
        exact ⟨rfl, rfl, by repeat (first | exact Sb.refl _ | refine Sb.pt ?_ rfl)⟩
      · intro hg66
        refine XO.pass rfl rfl <| XO.op (o_pick_f rfl rfl) <| XO.nil <| ?_
        exact ⟨rfl, rfl, by repeat (first | exact Sb.refl _ | refine Sb.pt ?_ rfl)⟩
      refine XO.op (o_move rfl) <| ?_
      apply XO.sca (j := 2) (g := 69) (d := 71) (hg := rfl)
      · intro hg69
        refine XO.gt rfl <| XO.op (o_move rfl) <| XO.op (o_pick_t rfl rfl) <| XO.nil <| ?_
        exact ⟨rfl, rfl, by repeat (first | exact Sb.refl _ | refine Sb.pt ?_ rfl)⟩
      · intro hg69
        refine XO.pass rfl rfl <| XO.op (o_pick_f rfl rfl) <| XO.nil <| ?_
        exact ⟨rfl, rfl, by repeat (first | exact Sb.refl _ | refine Sb.pt ?_ rfl)⟩
      refine XO.op (o_move rfl) <| XO.nil <| ?_
      refine XC.ret ?_
      refine ⟨_, rfl, ?_⟩
      refine ⟨?_, g⟩
      unfold mayB
      rw [decide_eq_true (Classical.not_not.1 hg10), decide_eq_true (Classical.not_not.1 hc15)]
      rfl
end
end Go.Proofs.Ytffokmamcempgaa.P
