/- What the laws ask of texts and configurations (inkhornlaw0), by our machine's rules. -/
import Derived.Test.YtffokmamcempgaaPlace2
namespace Go.Proofs.Ytffokmamcempgaa.P
open Go Go.RowKit Go.Proofs.Ytffokmamcempgaa.AM
set_option linter.unusedVariables false
set_option linter.unusedSimpArgs false
set_option maxRecDepth 100000
section
variable {n : Nat} {C : HC}
theorem sne (s : ByteArray) : oBin Try.prog .neq 9 false (.string s) (.string s) = some (.bool false) := by
  have e : oBin Try.prog .neq 9 false (.string s) (.string s) = slow Try.prog .neq 9 (.string s) (.string s) := rfl
  rw [e]
  simp [slow, plainV, binOp, Op.stringOp, pr]
  rfl
theorem sameTexts_pu {u v : Value} {l : List ByteArray} (hu : strRow C u l) (hv : strRow C v l) (hl : l.length < 1000000) : Pu (cf (n + 1)) 22 [u, v] C (.bool true) := by
  have hml : (l.map Value.string).length = l.length := List.length_map ..
  refine Pu.enter rfl rfl rfl fun H0 hH => ?_
  subst hH
  refine XC.then_ops ?_
  refine XO.op (o_move rfl) <| XO.nil <| ?_
  refine XC.assoc ?_
  refine XC.then_ops ?_
  refine XO.op (o_move rfl) <| XO.op (o_len hu rfl) <| XO.op (o_move rfl) <| XO.op (o_len hv rfl) <| XO.op (o_neq (q := false) rfl rfl (by simp)) <| XO.nil <| ?_
  refine XC.push_f (rfl) ?_
  refine XC.then_skip ?_
  refine XC.assoc ?_
  refine XC.then_ops ?_
  refine XO.op (o_move rfl) <| XO.nil <| ?_
  refine XC.then_block ?_
  refine XC.lp (σ := Nat) (fun i => [(5, .int .i64 (i : Int))]) [(0, u), (1, v)] (fun i G => G = H0 ∧ i ≤ l.length) (fun i => l.length - i) 0 (Sb.cons rfl (Sb.cons rfl (Sb.cons rfl (Sb.nil _)))) ⟨rfl, Nat.zero_le _⟩ (by show l.length - 0 < 9223372036854775808; omega) ?_
  rintro i G ⟨rfl, hi⟩
  refine XC.assoc ?_
  refine XC.then_ops ?_
  refine XO.op (o_move rfl) <| XO.op (o_move rfl) <| XO.op (o_len hu rfl) <| XO.op (o_lss rfl rfl rfl) <| XO.nil <| ?_
  refine XC.pushIf rfl (fun hc14 => ?_) (fun hc14 => ?_)
  · skip
    have hi2 : i < l.length := by omega
    refine XC.then_skip ?_
    refine XC.then_block ?_
    refine XC.then_draw ?_
    refine XD.pure (o_move rfl) <| XD.pure (o_move rfl) <| XD.pure (o_ix hu rfl rfl hi2) <| XD.pure (o_ld (u := .string l[i]) hu rfl (by simp only [Option.getD_none]; omega) (by omega) (one_cell hi2)) <| XD.pure (o_move rfl) <| XD.pure (o_move rfl) <| XD.pure (o_ix hv rfl rfl hi2) <| XD.pure (o_ld (u := .string l[i]) hv rfl (by simp only [Option.getD_none]; omega) (by omega) (one_cell hi2)) <| ?_
    refine XD.pure (o_bin rfl rfl (sne _)) <| XD.nil <| ?_
    refine XC.cond_f (rfl) ?_
    refine XC.skip ?_
    refine blk_n ?_
    refine then_n ?_
    refine XC.ops ?_
    refine XO.op (o_move rfl) <| XO.op (o_add rfl rfl (w64 (by omega) (by omega))) <| XO.op (o_move rfl) <| XO.nil <| ?_
    exact ⟨i + 1, by show l.length - (i + 1) < l.length - i; omega, Sb.cons rfl (Sb.cons rfl (Sb.cons rfl (Sb.nil _))), rfl, hi2⟩
  · skip
    refine XC.then_exit ?_
    refine blk_x rfl ?_
    refine then_n ?_
    refine XC.then_ops ?_
    refine XO.op (o_move rfl) <| XO.nil <| ?_
    refine XC.ret ?_
    refine ⟨_, rfl, ?_⟩
    exact ⟨rfl, rfl⟩
def greatT (l : List ByteArray) : Bool := decide (80 < l.length) || l.any fun s => decide (100 < s.size)
def greatK (l : List Ky) : Bool := decide (10 < l.length) || l.any fun k => decide (100 < k.txt.size)
theorem greatTexts_pu {u : Value} {l : List ByteArray} (hu : strRow C u l) : Pu (cf (n + 1)) 41 [u] C (.bool (greatT l)) := by
  have hml : (l.map Value.string).length = l.length := List.length_map ..
  have key : ¬ 80 < l.length → ∀ i, i ≤ l.length → (∀ k (h : k < l.length), k < i → ¬ 100 < l[k].size) → i = l.length → greatT l = false := fun h i hi hk e => by
    unfold greatT
    rw [decide_eq_false h, Bool.false_or, List.any_eq_false]
    intro x hx
    obtain ⟨k, hk', rfl⟩ := List.getElem_of_mem hx
    simpa using hk k hk' (by omega)
  refine Pu.enter rfl rfl rfl fun H0 hH => ?_
  subst hH
  refine XC.then_ops ?_
  refine XO.op (o_move rfl) <| XO.nil <| ?_
  refine XC.assoc ?_
  refine XC.then_ops ?_
  refine XO.op (o_move rfl) <| XO.nil <| ?_
  refine XC.then_block ?_
  refine XC.lp (σ := Nat) (fun i => [(3, .int .i64 (i : Int))]) [(0, u)] (fun i G => G = H0 ∧ i ≤ 80 ∧ (0 < i → i ≤ l.length ∧ l.length ≤ 80) ∧ ∀ k (h : k < l.length), k < i → ¬ 100 < l[k].size) (fun i => 80 - i) 0 (Sb.cons rfl (Sb.cons rfl (Sb.nil _))) ⟨rfl, Nat.zero_le _, fun h => absurd h (Nat.lt_irrefl _), fun k h h2 => absurd h2 (Nat.not_lt_zero _)⟩ (by show 80 - 0 < 9223372036854775808; omega) ?_
  rintro i G ⟨rfl, hi, hi1, hk⟩
  refine XC.assoc ?_
  refine XC.then_ops ?_
  refine XO.op (o_move rfl) <| XO.op (o_move rfl) <| XO.op (o_len hu rfl) <| XO.op (o_lss rfl rfl rfl) <| XO.op (o_move rfl) <| ?_
  apply XO.sca (j := 4) (g := 8) (d := 12) (b := decide (l.length ≤ 80)) (hg := rfl)
  · intro hg8
    refine XO.gt rfl <| XO.op (o_move rfl) <| XO.gt rfl <| XO.op (o_len hu rfl) <| XO.gt rfl <| XO.op (o_leq (q := decide (l.length ≤ 80)) rfl rfl (by rw [decide_eq_decide]; omega)) <| XO.op (o_pick_t rfl rfl) <| XO.nil <| ?_
    exact ⟨rfl, rfl, by repeat (first | exact Sb.refl _ | refine Sb.pt ?_ rfl)⟩
  · intro hg8
    refine XO.pass rfl rfl <| XO.pass rfl rfl <| XO.pass rfl rfl <| XO.op (o_pick_f rfl rfl) <| XO.nil <| ?_
    exact ⟨rfl, rfl, by repeat (first | exact Sb.refl _ | refine Sb.pt ?_ rfl)⟩
  refine XO.nil <| ?_
  refine XC.push rfl (fun hc12 => ?_) (fun hc12 => ?_)
  · skip
    have hb := Bool.and_eq_true_iff.1 hc12
    have hi2 : i < l.length := by have := of_decide_eq_true hb.1; omega
    have hl8 : l.length ≤ 80 := of_decide_eq_true hb.2
    refine XC.then_skip ?_
    refine XC.then_block ?_
    refine XC.then_ops ?_
    refine XO.op (o_move rfl) <| XO.op (o_move rfl) <| XO.op (o_ix hu rfl rfl hi2) <| XO.op (o_ld (u := .string l[i]) hu rfl (by simp only [Option.getD_none]; omega) (by omega) (one_cell hi2)) <| XO.op (o_lenStr rfl) <| XO.op (o_gtr rfl rfl rfl) <| XO.nil <| ?_
    refine XC.ite rfl (fun hc20 => ?_) (fun hc20 => ?_)
    · skip
      have h100 : 100 < l[i].size := by omega
      refine XC.then_ops ?_
      refine XO.op (o_move rfl) <| XO.nil <| ?_
      refine XC.ret ?_
      refine blk_r ?_
      refine then_r ?_
      refine blk_r ?_
      refine then_r ?_
      refine ⟨_, rfl, ?_⟩
      refine ⟨?_, rfl⟩
      unfold greatT
      rw [show (l.any fun s => decide (100 < s.size)) = true from List.any_eq_true.2 ⟨l[i], List.getElem_mem hi2, decide_eq_true h100⟩, Bool.or_true]
      rfl
    · skip
      refine XC.skip ?_
      refine blk_n ?_
      refine then_n ?_
      refine XC.ops ?_
      refine XO.op (o_move rfl) <| XO.op (o_add rfl rfl (w64 (by omega) (by omega))) <| XO.op (o_move rfl) <| XO.nil <| ?_
      exact ⟨i + 1, by show 80 - (i + 1) < 80 - i; omega, Sb.cons rfl (Sb.cons rfl (Sb.nil _)), rfl, by omega, fun _ => ⟨hi2, hl8⟩, fun k h h2 => by
        by_cases hki : k = i
        · subst hki; omega
        · exact hk k h (by omega)⟩
  · skip
    refine XC.then_exit ?_
    refine blk_x rfl ?_
    refine then_n ?_
    refine XC.then_ops ?_
    refine XO.op (o_move rfl) <| XO.op (o_len hu rfl) <| XO.op (o_gtr rfl rfl rfl) <| XO.op (o_move rfl) <| XO.nil <| ?_
    refine XC.ret ?_
    refine ⟨_, rfl, ?_⟩
    refine ⟨?_, rfl⟩
    show Value.bool (decide ((80 : Int) < (l.length : Int))) = _
    by_cases h80 : 80 < l.length
    · rw [decide_eq_true (by omega)]
      unfold greatT
      rw [decide_eq_true h80, Bool.true_or]
      try rfl
    · rw [decide_eq_true (show l.length ≤ 80 by omega), Bool.and_true] at hc12
      have hii := of_decide_eq_false hc12
      have hie : i = l.length := by
        rcases Nat.eq_zero_or_pos i with h0 | h0
        · omega
        · have := hi1 h0; omega
      rw [decide_eq_false (by omega), key h80 i (by omega) hk hie]
theorem greatConfig_qu (w0 : C.wf) {c : Cf} (hw : strRow C c.w c.ws) (hkr : keyRow C c.k c.ks) : Qu (cf (n + 2)) 8 [c.v] C (.bool (greatK c.ks || greatT c.ws)) := by
  have key : ¬ 10 < c.ks.length → ∀ i, i ≤ c.ks.length → (∀ k (h : k < c.ks.length), k < i → ¬ 100 < c.ks[k].txt.size) → i = c.ks.length → greatK c.ks = false := fun h i hi hk e => by
    unfold greatK
    rw [decide_eq_false h, Bool.false_or, List.any_eq_false]
    intro x hx
    obtain ⟨k, hk', rfl⟩ := List.getElem_of_mem hx
    simpa using hk k hk' (by omega)
  refine Rn.enter rfl rfl rfl fun H0 hH => ?_
  subst hH
  have g := Chg.refl (S := fun _ => False) H0.c
  refine XC.then_ops ?_
  refine XO.nwp (o_box rfl) (g.wf w0) ?_
  intro b1 H1 n1 g1 a1
  have m1 := n1
  replace n1 := Nat.le_trans g.next n1
  replace g := g.tr g1
  refine XO.op (o_move rfl) <| XO.nil <| ?_
  refine XC.assoc ?_
  refine XC.then_ops ?_
  refine XO.op (o_move rfl) <| XO.nil <| ?_
  refine XC.then_block ?_
  refine XC.lp (σ := Nat) (fun i => [(3, .int .i64 (i : Int))]) [(1, .pointer (some ⟨b1, 0, none⟩))] (fun i G => G.c.get b1 = some (.cells true 25 c.cs) ∧ Gr H0.c G.c ∧ i ≤ 10 ∧ (0 < i → i ≤ c.ks.length ∧ c.ks.length ≤ 10) ∧ ∀ k (h : k < c.ks.length), k < i → ¬ 100 < c.ks[k].txt.size) (fun i => 10 - i) 0 (Sb.cons rfl (Sb.cons rfl (Sb.nil _))) ⟨a1, g, Nat.zero_le _, fun h => absurd h (Nat.lt_irrefl _), fun k h h2 => absurd h2 (Nat.not_lt_zero _)⟩ (by show 10 - 0 < 9223372036854775808; omega) ?_
  clear a1 g
  rintro i G ⟨a1, g, hi, hi1, hk⟩
  refine XC.assoc ?_
  refine XC.then_ops ?_
  refine XO.op (o_move rfl) <| XO.op (o_fieldAddr rfl) <| XO.op (o_get (v := c.k) rfl a1 rfl) <| XO.op (o_len (hkr.gr g) rfl) <| XO.op (o_lss rfl rfl rfl) <| XO.op (o_move rfl) <| ?_
  apply XO.sca (j := 5) (g := 9) (d := 14) (b := decide (c.ks.length ≤ 10)) (hg := rfl)
  · intro hg9
    refine XO.gt rfl <| XO.op (o_fieldAddr rfl) <| XO.gt rfl <| XO.op (o_get (v := c.k) rfl a1 rfl) <| XO.gt rfl <| XO.op (o_len (hkr.gr g) rfl) <| XO.gt rfl <| XO.op (o_leq (q := decide (c.ks.length ≤ 10)) rfl rfl (by rw [decide_eq_decide]; omega)) <| XO.op (o_pick_t rfl rfl) <| XO.nil <| ?_
    exact ⟨rfl, rfl, by repeat (first | exact Sb.refl _ | refine Sb.pt ?_ rfl)⟩
  · intro hg9
    refine XO.pass rfl rfl <| XO.pass rfl rfl <| XO.pass rfl rfl <| XO.pass rfl rfl <| XO.op (o_pick_f rfl rfl) <| XO.nil <| ?_
    exact ⟨rfl, rfl, by repeat (first | exact Sb.refl _ | refine Sb.pt ?_ rfl)⟩
  refine XO.nil <| ?_
  refine XC.push rfl (fun hc14 => ?_) (fun hc14 => ?_)
  · skip
    have hb := Bool.and_eq_true_iff.1 hc14
    have hi2 : i < c.ks.length := by have := of_decide_eq_true hb.1; omega
    have hl8 : c.ks.length ≤ 10 := of_decide_eq_true hb.2
    refine XC.then_skip ?_
    refine XC.then_block ?_
    refine XC.then_ops ?_
    refine XO.op (o_fieldAddr rfl) <| XO.op (o_get (v := c.k) rfl a1 rfl) <| XO.op (o_move rfl) <| XO.op (o_ix (hkr.gr g) rfl rfl hi2) <| XO.op (o_ixf (hkr.gr g) (by omega) rfl) <| XO.op (o_ld (u := .string c.ks[i].txt) (hkr.gr g) rfl (by simp only [Option.getD_none]; omega) (by omega) (by rw [flat_cell (enc := Ky.cs) Ky.cs_len hi2 (by decide)]; rfl)) <| ?_
    refine XO.op (o_lenStr rfl) <| XO.op (o_gtr rfl rfl rfl) <| XO.nil <| ?_
    refine XC.ite rfl (fun hc24 => ?_) (fun hc24 => ?_)
    · skip
      have h100 : 100 < c.ks[i].txt.size := by omega
      refine XC.then_ops ?_
      refine XO.op (o_move rfl) <| XO.nil <| ?_
      refine XC.ret ?_
      refine blk_r ?_
      refine then_r ?_
      refine blk_r ?_
      refine then_r ?_
      refine ⟨_, rfl, ?_⟩
      refine ⟨?_, g⟩
      unfold greatK
      rw [show (c.ks.any fun s => decide (100 < s.txt.size)) = true from List.any_eq_true.2 ⟨c.ks[i], List.getElem_mem hi2, decide_eq_true h100⟩, Bool.or_true, Bool.true_or]
      rfl
    · skip
      refine XC.skip ?_
      refine blk_n ?_
      refine then_n ?_
      refine XC.ops ?_
      refine XO.op (o_move rfl) <| XO.op (o_add rfl rfl (w64 (by omega) (by omega))) <| XO.op (o_move rfl) <| XO.nil <| ?_
      exact ⟨i + 1, by show 10 - (i + 1) < 10 - i; omega, Sb.cons rfl (Sb.cons rfl (Sb.nil _)), a1, g, by omega, fun _ => ⟨hi2, hl8⟩, fun k h h2 => by
        by_cases hki : k = i
        · subst hki; omega
        · exact hk k h (by omega)⟩
  · skip
    refine XC.then_exit ?_
    refine blk_x rfl ?_
    refine then_n ?_
    refine XC.then_ops ?_
    refine XO.op (o_fieldAddr rfl) <| XO.op (o_get (v := c.w) rfl a1 rfl) <| XO.pu (greatTexts_pu (hw.gr g)) rfl <| XO.op (o_move rfl) <| ?_
    apply XO.sco (j := 5) (g := 28) (d := 33) (b := decide (10 < c.ks.length)) (hg := rfl)
    · intro hg28
      refine XO.gt rfl <| XO.op (o_fieldAddr rfl) <| XO.gt rfl <| XO.op (o_get (v := c.k) rfl a1 rfl) <| XO.gt rfl <| XO.op (o_len (hkr.gr g) rfl) <| XO.gt rfl <| XO.op (o_gtr (q := decide (10 < c.ks.length)) rfl rfl (by rw [decide_eq_decide]; omega)) <| XO.op (o_pick_f rfl rfl) <| XO.nil <| ?_
      exact ⟨rfl, rfl, by repeat (first | exact Sb.refl _ | refine Sb.pt ?_ rfl)⟩
    · intro hg28
      refine XO.pass rfl rfl <| XO.pass rfl rfl <| XO.pass rfl rfl <| XO.pass rfl rfl <| XO.op (o_pick_t rfl rfl) <| XO.nil <| ?_
      exact ⟨rfl, rfl, by repeat (first | exact Sb.refl _ | refine Sb.pt ?_ rfl)⟩
    refine XO.op (o_move rfl) <| XO.nil <| ?_
    refine XC.ret ?_
    refine ⟨_, rfl, ?_⟩
    refine ⟨?_, g⟩
    show Value.bool (greatT c.ws || decide (10 < c.ks.length)) = _
    rw [Bool.or_comm]
    by_cases h80 : 10 < c.ks.length
    · unfold greatK
      rw [decide_eq_true h80, Bool.true_or]
      try rfl
    · rw [decide_eq_true (show c.ks.length ≤ 10 by omega), Bool.and_true] at hc14
      have hii := of_decide_eq_false hc14
      have hie : i = c.ks.length := by
        rcases Nat.eq_zero_or_pos i with h0 | h0
        · omega
        · have := hi1 h0; omega
      rw [decide_eq_false h80, key h80 i (by omega) hk hie]
end
end Go.Proofs.Ytffokmamcempgaa.P
