/- Shards, copies and what a worker keeps (package place), by our machine's rules. -/
import Derived.Test.YtffokmamcempgaaPlace
namespace Go.Proofs.Ytffokmamcempgaa.P
open Go Go.RowKit Go.Proofs.Ytffokmamcempgaa.AM
set_option linter.unusedVariables false
set_option linter.unusedSimpArgs false
set_option maxRecDepth 100000
def shardsN (c : Cf) : Nat := if mayB c then c.ks.length + 1 else 0
theorem inB_iff {x lo hi : Int} : inB x lo hi = true ↔ lo ≤ x ∧ x ≤ hi := by unfold inB; simp
structure MayIs (c : Cf) : Prop where
  words : wordsOk c.ws = 0
  cuts : cutsOk c.ks = 0
  kl : c.ks.length ≤ 5
  w1 : 1 ≤ c.workers
  w2 : c.workers ≤ 5
  c1 : 1 ≤ c.copies
  c2 : c.copies ≤ 3
  c3 : c.copies ≤ c.workers
  b1 : 1 ≤ c.batch
  b2 : c.batch ≤ 5
theorem mayB_is {c : Cf} (h : mayB c = true) : MayIs c := by
  unfold mayB numsOk at h
  simp only [Bool.and_eq_true, decide_eq_true_eq, inB_iff] at h
  have hk : c.ks.length ≤ 5 := by
    have := h.1.2
    unfold cutsOk at this
    split at this
    · cases this
    · omega
  exact ⟨h.1.1, h.1.2, hk, by omega, by omega, by omega, by omega, by omega, by omega, by omega⟩
theorem shardsN_le (c : Cf) : shardsN c ≤ 6 := by
  unfold shardsN
  split
  · rename_i h; have := (mayB_is h).kl; omega
  · omega
def copiesL (W K s : Nat) : List Int := (List.range K).map fun j => ((1 + (s + j) % W : Nat) : Int)
def copiesOf (c : Cf) (s : Int) : List Int := if 0 ≤ s ∧ s < shardsN c then copiesL c.workers.toNat c.copies.toNat s.toNat else []
def keepsOf (c : Cf) (w : Int) : List Int := ((List.range (shardsN c)).filter fun (s : Nat) => (copiesOf c (s : Int)).contains w).map fun (s : Nat) => (s : Int)
section
variable {n : Nat} {C : HC}
theorem shards_qu (w0 : C.wf) {c : Cf} (hc : CfAt C c) : Qu (cf (n + 7)) 17 [c.v] C (.int .i64 (shardsN c)) := by
  have hl := hc.kl
  refine Rn.enter rfl rfl rfl fun H0 hH => ?_
  subst hH
  have g := Chg.refl (S := fun _ => False) H0.c
  refine XC.then_ops ?_
  refine XO.nwp (o_box rfl) (g.wf w0) ?_
  intro b1 H1 n1 g1 a1
  have m1 := n1
  replace n1 := Nat.le_trans g.next n1
  replace g := g.tr g1
  refine XO.op (o_move rfl) <| XO.nil <| ?_
  refine XC.assoc ?_
  refine XC.then_ops ?_
  refine XO.op (o_get rfl a1 rfl) <| ?_
  refine XO.ca (may_qu (g.wf w0) (hc.gr g)) rfl ?_
  rintro v4 H2 ⟨rfl, g1⟩
  replace a1 := Gr.at g1 a1
  replace g := g.tr g1
  refine XO.op (o_not rfl) <| XO.nil <| ?_
  refine XC.push rfl (fun hc5 => ?_) (fun hc5 => ?_)
  · skip
    refine XC.assoc ?_
    refine XC.then_ops ?_
    refine XO.op (o_move rfl) <| XO.nil <| ?_
    refine XC.then_ret ?_
    refine ⟨_, rfl, ?_⟩
    exact ⟨by unfold shardsN; rw [show mayB c = false by simpa using hc5]; rfl, g⟩
  · skip
    refine XC.then_skip ?_
    refine XC.then_ops ?_
    refine XO.op (o_fieldAddr rfl) <| XO.op (o_get rfl a1 rfl) <| XO.op (o_len ((hc.gr g).k) rfl) <| XO.op (o_add rfl rfl (w64 (by omega) (by omega))) <| XO.op (o_move rfl) <| XO.nil <| ?_
    refine XC.ret ?_
    refine ⟨_, rfl, ?_⟩
    exact ⟨by unfold shardsN; rw [show mayB c = true by simpa using hc5]; rfl, g⟩
theorem copies_rn (w0 : C.wf) {c : Cf} (hc : CfAt C c) (s : Int) : Rn (cf (n + 8)) 10 [c.v, .int .i64 s] C fun v D => intOw D v (copiesOf c s) ∧ newIn C v ∧ Gr C D := by
  have hsl := shardsN_le c
  refine Rn.enter rfl rfl rfl fun H0 hH => ?_
  subst hH
  have g := Chg.refl (S := fun _ => False) H0.c
  have hroom : room = 70368744177664 := rfl
  refine XC.then_ops ?_
  refine XO.nwp (o_box rfl) (g.wf w0) ?_
  intro b2 H1 n2 g1 a2
  have m2 := n2
  replace n2 := Nat.le_trans g.next n2
  replace g := g.tr g1
  refine XO.op (o_move rfl) <| XO.nil <| ?_
  refine XC.assoc ?_
  refine XC.then_ops ?_
  refine XO.op (o_move rfl) <| XO.op (o_get rfl a2 rfl) <| ?_
  refine XO.ca (shards_qu (g.wf w0) (hc.gr g)) rfl ?_
  rintro v9 H2 ⟨rfl, g1⟩
  replace a2 := Gr.at g1 a2
  replace g := g.tr g1
  refine XO.op (o_sub rfl rfl (w64 (by omega) (by omega))) <| XO.pu (within_pu _ _ _) rfl <| XO.op (o_not rfl) <| XO.nil <| ?_
  refine XC.push rfl (fun hc12 => ?_) (fun hc12 => ?_)
  · skip
    have hb : inB s 0 ((shardsN c : Int) - 1) = false := by simpa using hc12
    have hno : ¬ (0 ≤ s ∧ s < shardsN c) := fun q => by rw [inB_iff.2 ⟨q.1, by omega⟩] at hb; cases hb
    refine XC.assoc ?_
    refine XC.then_ops ?_
    refine XO.op (o_move rfl) <| XO.nil <| ?_
    refine XC.then_ret ?_
    refine ⟨_, rfl, ?_⟩
    exact ⟨by unfold copiesOf; rw [if_neg hno]; exact Ow.nil, newIn_nil, g⟩
  · skip
    have hb : inB s 0 ((shardsN c : Int) - 1) = true := by simpa using hc12
    have hb := inB_iff.1 hb
    have hm : mayB c = true := by
      cases h : mayB c with
      | true => rfl
      | false => unfold shardsN at hb; rw [h] at hb; simp at hb; omega
    have hi := mayB_is hm
    obtain ⟨W, hW⟩ := Int.eq_ofNat_of_zero_le (show 0 ≤ c.workers by have := hi.w1; omega)
    obtain ⟨K, hK⟩ := Int.eq_ofNat_of_zero_le (show 0 ≤ c.copies by have := hi.c1; omega)
    obtain ⟨S, rfl⟩ := Int.eq_ofNat_of_zero_le hb.1
    have hco : copiesOf c (S : Int) = copiesL W K S := by unfold copiesOf; rw [if_pos ⟨hb.1, by omega⟩, hW, hK]; rfl
    have h1 := hi.w1
    have h2 := hi.w2
    have h3 := hi.c2
    refine XC.then_skip ?_
    refine XC.then_ops ?_
    refine XO.op (o_move rfl) <| XO.nil <| ?_
    refine XC.assoc ?_
    refine XC.then_ops ?_
    refine XO.op (o_fieldAddr rfl) <| XO.op (o_get (v := .int .i64 (K : Int)) rfl a2 (by rw [← hK]; rfl)) <| XO.op (o_move rfl) <| XO.nil <| ?_
    refine XC.then_block ?_
    refine XC.lp (σ := Nat × Value) (fun x => [(15, .int .i64 (x.1 : Int)), (5, x.2)]) [(14, .int .i64 (K : Int)), (1, .int .i64 (S : Int)), (2, .pointer (some ⟨b2, 0, none⟩))] (fun x G => Gr H0.c G.c ∧ G.c.get b2 = some (.cells true 25 c.cs) ∧ intOw G.c x.2 (copiesL W x.1 S) ∧ newIn H0.c x.2 ∧ inS (fun b => ¬ b = b2) x.2 ∧ x.1 ≤ K) (fun x => K - x.1) (0, .slice none 0 0) (Sb.cons rfl (Sb.cons rfl (Sb.cons rfl (Sb.cons rfl (Sb.cons rfl (Sb.nil _)))))) ⟨g, a2, Ow.nil, newIn_nil, inS_nil, Nat.zero_le _⟩ (by show K - 0 < 9223372036854775808; omega) ?_
    clear g a2 g1
    rintro ⟨j, a⟩ G ⟨g, a2, ha, hn, hne, hj⟩
    simp only at ha hn hj hne
    refine XC.then_ops ?_
    refine XO.op (o_lss rfl rfl rfl) <| XO.nil <| ?_
    refine XC.pushIf rfl (fun hc16 => ?_) (fun hc16 => ?_)
    · skip
      have hj2 : j < K := by omega
      have hst : copiesL W (j + 1) S = copiesL W j S ++ [((1 + (S + j) % W : Nat) : Int)] := by unfold copiesL; rw [List.range_succ, List.map_append]; rfl
      have hle : (copiesL W j S).length = j := by unfold copiesL; simp
      have hlt : (S + j) % W < W := Nat.mod_lt _ (by omega)
      refine XC.then_skip ?_
      refine XC.then_block ?_
      refine XC.then_ops ?_
      refine XO.op (o_move rfl) <| XO.op (o_move rfl) <| XO.nil <| ?_
      refine XC.ops ?_
      refine XO.op (o_move rfl) <| XO.op (o_move rfl) <| XO.op (o_move rfl) <| XO.op (o_add (r := ((S + j : Nat) : Int)) rfl rfl (by rw [w64 (by omega) (by omega)]; omega)) <| XO.op (o_fieldAddr rfl) <| XO.op (o_get (v := .int .i64 (W : Int)) rfl a2 (by rw [← hW]; rfl)) <| XO.op (o_rem (r := (((S + j) % W : Nat) : Int)) rfl rfl (by omega) rfl) <| ?_
      refine XO.op (o_add (r := ((1 + (S + j) % W : Nat) : Int)) rfl rfl (by rw [w64 (by omega) (by omega)]; omega)) <| ?_
      have lt_a2 := HC.wf.lt (g.wf w0) a2
      have lt_ha := ha.rw.lt (g.wf w0)
      refine XO.nws (o_buildSlice rfl rfl) (g.wf w0) ?_
      intro b26 H3 n26 g1 a26
      have m26 := n26
      replace n26 := Nat.le_trans g.next n26
      replace a2 := Gr.at g1 a2
      replace ha := ha.gr g1
      replace g := g.tr g1
      have lt_a2 := HC.wf.lt (g.wf w0) a2
      have lt_ha := ha.rw.lt (g.wf w0)
      have lt_a26 := HC.wf.lt (g.wf w0) a26
      refine XO.app (ha) (Rw.fresh (n := 1) rfl (by decide) a26) rfl rfl (by omega) rfl (by omega) (by omega) (g.wf w0) ?_
      intro b27 H4 n27 g1 a27 o27
      have m27 := n27
      replace n27 := Nat.le_trans g.next n27
      replace g := Chg.th g w0 g1 (fun q hq => .inr (hn q hq))
      replace a2 := Chg.at g1 a2 (fun q => hne _ q rfl)
      refine XO.op (o_move rfl) <| XO.nil <| ?_
      refine blk_n ?_
      refine then_n ?_
      refine XC.ops ?_
      refine XO.op (o_add rfl rfl (w64 (by omega) (by omega))) <| XO.op (o_move rfl) <| XO.nil <| ?_
      exact ⟨(j + 1, _), by show K - (j + 1) < K - j; omega, Sb.cons rfl (Sb.cons rfl (Sb.cons rfl (Sb.cons rfl (Sb.cons rfl (Sb.nil _))))), g, a2, by show intOw _ _ (copiesL W (j + 1) S); rw [hst]; simp only [intOw, List.length_append, List.map_append]; exact o27, inS_at n27, inS_at (by show ¬ _ = _; omega), hj2⟩
    · skip
      refine XC.then_exit ?_
      refine blk_x rfl ?_
      refine then_n ?_
      refine XC.then_ops ?_
      refine XO.op (o_move rfl) <| XO.op (o_move rfl) <| XO.nil <| ?_
      refine XC.ret ?_
      refine ⟨_, rfl, ?_⟩
      refine ⟨?_, hn, g⟩
      rw [hco, show K = j by omega]
      exact ha
def indexL (l : List Int) (x : Int) : Int := match l.findIdx? (x = ·) with | some i => (i : Int) | none => -1
theorem index_pu {v : Value} {l : List Int} (hr : intRow C v l) (hl : l.length < 1000000) (x : Int) : Pu (cf (n + 1)) 63 [v, .int .i64 x] C (.int .i64 (indexL l x)) := by
  refine Pu.enter rfl rfl rfl fun H0 hH => ?_
  subst hH
  refine XC.then_ops ?_
  refine XO.op (o_move rfl) <| XO.nil <| ?_
  refine XC.assoc ?_
  refine XC.then_ops ?_
  refine XO.op (o_move rfl) <| XO.op (o_len hr rfl) <| XO.op (o_move rfl) <| XO.nil <| ?_
  refine XC.then_block ?_
  refine XC.lp (σ := Nat) (fun j => [(8, .int .i64 (j : Int))]) [(7, .int .i64 (l.length : Int)), (0, v), (1, .int .i64 x)] (fun j G => G = H0 ∧ j ≤ l.length ∧ ∀ k (hk : k < l.length), k < j → ¬ x = l[k]) (fun j => l.length - j) 0 (Sb.cons rfl (Sb.cons rfl (Sb.cons rfl (Sb.cons rfl (Sb.nil _))))) ⟨rfl, Nat.zero_le _, fun k hk h => absurd h (by omega)⟩ (by show l.length - 0 < 9223372036854775808; omega) ?_
  rintro j G ⟨rfl, hj, he⟩
  refine XC.then_ops ?_
  refine XO.op (o_lss rfl rfl rfl) <| XO.nil <| ?_
  refine XC.pushIf rfl (fun hc9 => ?_) (fun hc9 => ?_)
  · skip
    have hj2 : j < l.length := by omega
    refine XC.then_skip ?_
    refine XC.then_block ?_
    refine XC.then_ops ?_
    refine XO.op (o_move rfl) <| XO.op (o_move rfl) <| XO.nil <| ?_
    refine XC.then_ops ?_
    refine XO.op (o_move rfl) <| XO.op (o_move rfl) <| XO.op (o_move rfl) <| XO.op (o_ix hr rfl rfl hj2) <| XO.op (o_ld hr rfl (by simp only [Option.getD_none]; omega) (by omega) (one_cell hj2)) <| XO.op (o_eq rfl rfl) <| XO.nil <| ?_
    refine XC.ite rfl (fun hc16 => ?_) (fun hc16 => ?_)
    · skip
      refine XC.then_ops ?_
      refine XO.op (o_move rfl) <| XO.op (o_move rfl) <| XO.nil <| ?_
      refine XC.ret ?_
      refine blk_r ?_
      refine then_r ?_
      refine blk_r ?_
      refine then_r ?_
      refine ⟨_, rfl, ?_⟩
      refine ⟨?_, rfl⟩
      unfold indexL
      rw [(List.findIdx?_eq_some_iff_getElem (p := (decide <| x = ·)) (i := j)).2 ⟨hj2, decide_eq_true hc16, fun k hk => by simpa using he k (by omega) hk⟩]
      rfl
    · skip
      refine XC.skip ?_
      refine blk_n ?_
      refine then_n ?_
      refine XC.ops ?_
      refine XO.op (o_add rfl rfl (w64 (by omega) (by omega))) <| XO.op (o_move rfl) <| XO.nil <| ?_
      exact ⟨j + 1, by show l.length - (j + 1) < l.length - j; omega, Sb.cons rfl (Sb.cons rfl (Sb.cons rfl (Sb.cons rfl (Sb.nil _)))), rfl, hj2, fun k hk h => if q : k = j then by subst q; exact hc16 else he k hk (by omega)⟩
  · skip
    refine XC.then_exit ?_
    refine blk_x rfl ?_
    refine then_n ?_
    refine XC.then_ops ?_
    refine XO.op (o_move rfl) <| XO.nil <| ?_
    refine XC.ret ?_
    refine ⟨_, rfl, ?_⟩
    refine ⟨?_, rfl⟩
    unfold indexL
    rw [List.findIdx?_eq_none_iff.2 fun y hy => by obtain ⟨k, hk, rfl⟩ := List.mem_iff_getElem.1 hy; exact decide_eq_false (he k hk (by omega))]
    rfl
theorem contains_pu {v : Value} {l : List Int} (hr : intRow C v l) (hl : l.length < 1000000) (x : Int) : Pu (cf (n + 2)) 43 [v, .int .i64 x] C (.bool (l.contains x)) := by
  have hx : decide (0 ≤ indexL l x) = l.contains x := by
    unfold indexL
    cases h : l.findIdx? (fun y => decide (x = y)) with
    | none =>
      have := List.findIdx?_eq_none_iff.1 h
      have hc : l.contains x = false := by
        cases hq : l.contains x with
        | false => rfl
        | true => have := this x (List.contains_iff_mem.1 hq); simp at this
      rw [hc]; rfl
    | some i =>
      obtain ⟨h1, h2, _⟩ := List.findIdx?_eq_some_iff_getElem.1 h
      have hc : l.contains x = true := List.contains_iff_mem.2 (by rw [of_decide_eq_true h2]; exact List.getElem_mem _)
      rw [hc]
      exact decide_eq_true (Int.natCast_nonneg i)
  refine Pu.enter rfl rfl rfl fun H0 hH => ?_
  subst hH
  refine XC.then_ops ?_
  refine XO.op (o_move rfl) <| XO.nil <| ?_
  refine XC.then_ops ?_
  refine XO.op (o_move rfl) <| XO.op (o_move rfl) <| XO.pu (index_pu hr hl x) rfl <| XO.op (o_geq rfl rfl hx) <| XO.op (o_move rfl) <| XO.nil <| ?_
  refine XC.ret ?_
  refine ⟨_, rfl, ?_⟩
  exact ⟨rfl, rfl⟩
theorem copiesOf_len (c : Cf) (s : Int) : (copiesOf c s).length ≤ 3 := by
  unfold copiesOf
  split
  · rename_i h
    have hm : mayB c = true := by
      cases h2 : mayB c with
      | true => rfl
      | false => unfold shardsN at h; rw [h2] at h; simp at h; omega
    have := (mayB_is hm).c2
    unfold copiesL
    rw [List.length_map, List.length_range]
    omega
  · simp
theorem keeps_rn (w0 : C.wf) {c : Cf} (hc : CfAt C c) (w : Int) : Rn (cf (n + 9)) 11 [c.v, .int .i64 w] C fun v D => intOw D v (keepsOf c w) ∧ newIn C v ∧ Gr C D := by
  have hsl := shardsN_le c
  refine Rn.enter rfl rfl rfl fun H0 hH => ?_
  subst hH
  have g := Chg.refl (S := fun _ => False) H0.c
  have hroom : room = 70368744177664 := rfl
  refine XC.then_ops ?_
  refine XO.nwp (o_box rfl) (g.wf w0) ?_
  intro b2 H1 n2 g1 a2
  have m2 := n2
  replace n2 := Nat.le_trans g.next n2
  replace g := g.tr g1
  refine XO.op (o_move rfl) <| XO.nil <| ?_
  refine XC.then_ops ?_
  refine XO.op (o_move rfl) <| XO.nil <| ?_
  refine XC.assoc ?_
  refine XC.then_ops ?_
  refine XO.op (o_get rfl a2 rfl) <| ?_
  refine XO.ca (shards_qu (g.wf w0) (hc.gr g)) rfl ?_
  rintro v8 H2 ⟨rfl, g1⟩
  replace a2 := Gr.at g1 a2
  replace g := g.tr g1
  refine XO.op (o_move rfl) <| XO.nil <| ?_
  refine XC.then_block ?_
  refine XC.lp (σ := Nat × Value) (fun x => [(9, .int .i64 (x.1 : Int)), (5, x.2)]) [(8, .int .i64 (shardsN c : Int)), (1, .int .i64 w), (2, .pointer (some ⟨b2, 0, none⟩))] (fun x G => Gr H0.c G.c ∧ G.c.get b2 = some (.cells true 25 c.cs) ∧ intOw G.c x.2 (((List.range x.1).filter fun (s : Nat) => (copiesOf c (s : Int)).contains w).map fun (s : Nat) => (s : Int)) ∧ newIn H0.c x.2 ∧ inS (fun b => ¬ b = b2) x.2 ∧ x.1 ≤ shardsN c) (fun x => shardsN c - x.1) (0, .slice none 0 0) (Sb.cons rfl (Sb.cons rfl (Sb.cons rfl (Sb.cons rfl (Sb.cons rfl (Sb.nil _)))))) ⟨g, a2, Ow.nil, newIn_nil, inS_nil, Nat.zero_le _⟩ (by show shardsN c - 0 < 9223372036854775808; omega) ?_
  clear g a2 g1
  rintro ⟨j, a⟩ G ⟨g, a2, ha, hn, hne, hj⟩
  simp only at ha hn hj hne
  refine XC.then_ops ?_
  refine XO.op (o_lss rfl rfl rfl) <| XO.nil <| ?_
  refine XC.pushIf rfl (fun hc10 => ?_) (fun hc10 => ?_)
  · skip
    have hj2 : j < shardsN c := by omega
    generalize hL : (((List.range j).filter fun (s : Nat) => (copiesOf c (s : Int)).contains w).map fun (s : Nat) => (s : Int)) = L at ha
    have hst : (((List.range (j + 1)).filter fun (s : Nat) => (copiesOf c (s : Int)).contains w).map fun (s : Nat) => (s : Int)) = L ++ (if (copiesOf c (j : Int)).contains w then [(j : Int)] else []) := by
      rw [List.range_succ, filter_snoc, List.map_append, hL]
      congr 1
      split <;> rfl
    have hle : L.length ≤ j := by rw [← hL, List.length_map]; have := List.length_filter_le (fun (s : Nat) => (copiesOf c (s : Int)).contains w) (List.range j); rw [List.length_range] at this; exact this
    refine XC.then_skip ?_
    refine XC.then_block ?_
    refine XC.then_ops ?_
    refine XO.op (o_move rfl) <| XO.op (o_move rfl) <| XO.nil <| ?_
    refine XC.then_ops ?_
    refine XO.op (o_get rfl a2 rfl) <| XO.op (o_move rfl) <| ?_
    refine XO.ca (copies_rn (g.wf w0) (hc.gr g) (j : Int)) rfl ?_
    rintro v14 H3 ⟨hco, hcn, g1⟩
    have gp := g
    replace a2 := Gr.at g1 a2
    replace ha := ha.gr g1
    replace g := g.tr g1
    refine XO.op (o_move rfl) <| XO.pu (contains_pu hco.rw (by have := copiesOf_len c (j : Int); omega) w) rfl <| XO.nil <| ?_
    refine XC.cond rfl (fun hc16 => ?_) (fun hc16 => ?_)
    · skip
      rw [if_pos hc16] at hst
      refine XC.ops ?_
      refine XO.op (o_move rfl) <| XO.op (o_move rfl) <| ?_
      have lt_a2 := HC.wf.lt (g.wf w0) a2
      have lt_ha := ha.rw.lt (g.wf w0)
      refine XO.nws (o_buildSlice rfl rfl) (g.wf w0) ?_
      intro b19 H4 n19 g1 a19
      have m19 := n19
      replace n19 := Nat.le_trans g.next n19
      replace a2 := Gr.at g1 a2
      replace ha := ha.gr g1
      replace g := g.tr g1
      have lt_a2 := HC.wf.lt (g.wf w0) a2
      have lt_ha := ha.rw.lt (g.wf w0)
      have lt_a19 := HC.wf.lt (g.wf w0) a19
      refine XO.app (ha) (Rw.fresh (n := 1) rfl (by decide) a19) rfl rfl (by omega) rfl (by omega) (by omega) (g.wf w0) ?_
      intro b20 H5 n20 g1 a20 o20
      have m20 := n20
      replace n20 := Nat.le_trans g.next n20
      replace g := Chg.th g w0 g1 (fun q hq => .inr (hn q hq))
      replace a2 := Chg.at g1 a2 (fun q => hne _ q rfl)
      refine XO.op (o_move rfl) <| XO.nil <| ?_
      refine blk_n ?_
      refine then_n ?_
      refine XC.ops ?_
      refine XO.op (o_add rfl rfl (w64 (by omega) (by omega))) <| XO.op (o_move rfl) <| XO.nil <| ?_
      skip
      first
        | exact ⟨(j + 1, _), by show shardsN c - (j + 1) < shardsN c - j; omega, Sb.cons rfl (Sb.cons rfl (Sb.cons rfl (Sb.cons rfl (Sb.cons rfl (Sb.nil _))))), g, a2, by simp only; rw [hst]; exact ha, hn, hne, hj2⟩
        | exact ⟨(j + 1, _), by show shardsN c - (j + 1) < shardsN c - j; omega, Sb.cons rfl (Sb.cons rfl (Sb.cons rfl (Sb.cons rfl (Sb.cons rfl (Sb.nil _))))), g, a2, by simp only; rw [hst]; simp only [intOw, List.length_append, List.map_append]; exact o20, inS_at n20, inS_at (by show ¬ _ = _; omega), hj2⟩
    · skip
      rw [hc16] at hst
      simp only [Bool.false_eq_true, if_false, List.append_nil] at hst
      refine XC.skip ?_
      refine blk_n ?_
      refine then_n ?_
      refine XC.ops ?_
      refine XO.op (o_add rfl rfl (w64 (by omega) (by omega))) <| XO.op (o_move rfl) <| XO.nil <| ?_
      skip
      first
        | exact ⟨(j + 1, _), by show shardsN c - (j + 1) < shardsN c - j; omega, Sb.cons rfl (Sb.cons rfl (Sb.cons rfl (Sb.cons rfl (Sb.cons rfl (Sb.nil _))))), g, a2, by simp only; rw [hst]; exact ha, hn, hne, hj2⟩
        | exact ⟨(j + 1, _), by show shardsN c - (j + 1) < shardsN c - j; omega, Sb.cons rfl (Sb.cons rfl (Sb.cons rfl (Sb.cons rfl (Sb.cons rfl (Sb.nil _))))), g, a2, by simp only; rw [hst]; simp only [intOw, List.length_append, List.map_append]; exact o20, inS_at n20, inS_at (by show ¬ _ = _; omega), hj2⟩
  · skip
    refine XC.then_exit ?_
    refine blk_x rfl ?_
    refine then_n ?_
    refine XC.then_ops ?_
    refine XO.op (o_move rfl) <| XO.op (o_move rfl) <| XO.nil <| ?_
    refine XC.ret ?_
    refine ⟨_, rfl, ?_⟩
    refine ⟨?_, hn, g⟩
    unfold keepsOf
    rw [show shardsN c = j by omega]
    exact ha
theorem words_rn (w0 : C.wf) {c : Cf} (hc : CfAt C c) (s : Int) : Rn (cf (n + 8)) 12 [c.v, .int .i64 s] C fun r D => strOw D r (sliceL c.ks c.ws s) ∧ newIn C r ∧ Gr C D := by
  refine Rn.enter rfl rfl rfl fun H0 hH => ?_
  subst hH
  have g := Chg.refl (S := fun _ => False) H0.c
  refine XC.then_ops ?_
  refine XO.nwp (o_box rfl) (g.wf w0) ?_
  intro b2 H1 n2 g1 a2
  have m2 := n2
  replace n2 := Nat.le_trans g.next n2
  replace g := g.tr g1
  refine XO.op (o_move rfl) <| XO.nil <| ?_
  refine XC.then_ops ?_
  refine XO.op (o_fieldAddr rfl) <| XO.op (o_get rfl a2 rfl) <| XO.op (o_fieldAddr rfl) <| XO.op (o_get rfl a2 rfl) <| XO.op (o_move rfl) <| ?_
  refine XO.ca (slice_rn (g.wf w0) (hc.gr g).k (hc.gr g).w hc.kl hc.wl hc.wsm s) rfl ?_
  rintro v10 H2 ⟨h1, h2, g1⟩
  have gp := g
  replace a2 := Gr.at g1 a2
  replace g := g.tr g1
  refine XO.op (o_move rfl) <| XO.nil <| ?_
  refine XC.ret ?_
  refine ⟨_, rfl, ?_⟩
  exact ⟨h1, h2.mono fun q hq => Nat.le_trans gp.next hq, g⟩
end
end Go.Proofs.Ytffokmamcempgaa.P
