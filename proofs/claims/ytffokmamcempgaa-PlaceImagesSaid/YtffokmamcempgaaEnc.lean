/- Images: a graph laid into bytes (package pack), by our machine's rules. -/
import Derived.Test.YtffokmamcempgaaGraph5
import Derived.Test.YtffokmamcempgaaPlace2
namespace Go.Proofs.Ytffokmamcempgaa.P
open Go Go.RowKit Go.Proofs.Ytffokmamcempgaa.AM
set_option linter.unusedVariables false
set_option linter.unusedSimpArgs false
set_option maxRecDepth 100000
def edB (e : Int × Nat) : Str := numB e.1 4 ++ numB (e.2 : Int) 2
def fin01 (b : Bool) : Int := if b then 1 else 0
def ndB (nd : Nd) : Str := numB (fin01 nd.fin) 1 ++ numB (nd.es.length : Int) 2 ++ nd.es.flatMap edB
def head : Str := [73, 78, 75, 49]
def bodyB (nds : List Nd) : Str := head ++ numB (nds.length : Int) 2 ++ nds.flatMap ndB
def encB (nds : List Nd) : Str := bodyB nds ++ numB (sumL (bodyB nds) : Int) 4
def RunesOk (nds : List Nd) : Prop := ∀ nd ∈ nds, ∀ e ∈ nd.es, 0 ≤ e.1 ∧ e.1 ≤ 1114111
theorem edB_len (e : Int × Nat) : (edB e).length = 6 := by simp [edB, numB_len]
theorem edsB_len (es : List (Int × Nat)) : (es.flatMap edB).length = 6 * es.length := by
  induction es with
  | nil => rfl
  | cons e es ih => rw [List.flatMap_cons, List.length_append, edB_len, ih, List.length_cons]; omega
theorem ndB_len (nd : Nd) : (ndB nd).length = 3 + 6 * nd.es.length := by simp only [ndB, List.length_append, numB_len, edsB_len]
theorem ndsB_take (nds : List Nd) (j : Nat) : ((nds.take j).flatMap ndB).length ≤ (nds.flatMap ndB).length := by
  conv => rhs; rw [← List.take_append_drop j nds]
  rw [List.flatMap_append, List.length_append]
  omega
section
variable {n : Nat} {C : HC}
theorem encode_rn (w0 : C.wf) {gb : Nat} {nds : List Nd} (h : Graphs C gb nds) (hr : RunesOk nds) (hsz : (encB nds).length < 1000000) : Rn (cf (n + 4)) 66 [.pointer (some ⟨gb, 0, none⟩)] C fun u D => ∃ v, u = .tuple #[v, .int .i64 0] ∧ bOw D v (encB nds) ∧ newIn C v ∧ Gr C D := by
  have hlenB : (encB nds).length = 6 + (nds.flatMap ndB).length + 4 := by simp only [encB, bodyB, head, List.length_append, numB_len, List.length_cons, List.length_nil]
  have hnl : nds.length < 1000000 := by obtain ⟨nv, nvs, h⟩ := h; exact h.sm
  refine Rn.enter rfl rfl rfl fun H0 hH => ?_
  subst hH
  have g := Chg.refl (S := fun _ => False) H0.c
  refine XC.then_ops ?_
  refine XO.op (o_move rfl) <| XO.op (o_move rfl) <| XO.nil <| ?_
  refine XC.assoc ?_
  refine XC.then_ops ?_
  refine XO.op (o_move rfl) <| XO.op (o_eqNil rfl rfl rfl) <| XO.nil <| ?_
  refine XC.push_f (rfl) ?_
  refine XC.then_skip ?_
  refine XC.then_ops ?_
  refine XO.nws (o_buildSlice rfl rfl) (g.wf w0) ?_
  intro b12 H1 n12 g1 a12
  have m12 := n12
  replace n12 := Nat.le_trans g.next n12
  replace g := g.tr g1
  refine XO.up (o_mark rfl a12) a12 ?_
  intro H2 g1 u13
  replace g := Chg.th g w0 g1 (fun q hq => .inr (hq ▸ n12))
  have ha0 : bRow H2.c (.slice (some ⟨b12, 0, none⟩) 4 4) head := Rw.fresh rfl (Nat.le_refl _) u13
  clear a12 u13
  refine XO.op (o_move rfl) <| XO.pu (nodes_pu (h.gr g)) rfl <| ?_
  refine XO.ca (put_rn (s := 2) (g.wf w0) ha0 (by decide) (nds.length : Int) (by decide)) rfl ?_
  rintro v16 H2 ⟨hb, hbn, g1⟩
  have gp := g
  replace g := g.tr g1
  replace hbn := hbn.mono fun q hq => Nat.le_trans gp.next hq
  clear ha0
  refine XO.op (o_move rfl) <| XO.nil <| ?_
  refine XC.assoc ?_
  refine XC.then_ops ?_
  refine XO.op (o_move rfl) <| XO.pu (nodes_pu (h.gr g)) rfl <| XO.op (o_move rfl) <| XO.nil <| ?_
  refine XC.then_block ?_
  refine XC.lp (σ := Nat × Value) (fun x => [(19, .int .i64 (x.1 : Int)), (4, x.2)]) [(0, .pointer (some ⟨gb, 0, none⟩)), (18, .int .i64 (nds.length : Int))] (fun x G => Gr H0.c G.c ∧ bOw G.c x.2 (head ++ numB (nds.length : Int) 2 ++ (nds.take x.1).flatMap ndB) ∧ newIn H0.c x.2 ∧ x.1 ≤ nds.length) (fun x => nds.length - x.1) (0, v16) (Sb.cons rfl (Sb.cons rfl (Sb.cons rfl (Sb.cons rfl (Sb.nil _))))) ⟨g, by simpa using hb, hbn, Nat.zero_le _⟩ (by show nds.length - 0 < 9223372036854775808; omega) ?_
  clear g hb hbn gp g1
  rintro ⟨j, bv⟩ G ⟨g, hb, hbn, hj⟩
  simp only at hb hbn hj
  have hbl : (head ++ numB (nds.length : Int) 2 ++ (nds.take j).flatMap ndB).length ≤ 6 + (nds.flatMap ndB).length := by have := ndsB_take nds j; simp only [head, List.length_append, numB_len, List.length_cons, List.length_nil]; omega
  generalize hB : head ++ numB (nds.length : Int) 2 ++ (nds.take j).flatMap ndB = B at hb hbl
  refine XC.then_ops ?_
  refine XO.op (o_lss rfl rfl rfl) <| XO.nil <| ?_
  refine XC.pushIf rfl (fun hc20 => ?_) (fun hc20 => ?_)
  · skip
    have hj2 : j < nds.length := by omega
    have hst : head ++ numB (nds.length : Int) 2 ++ (nds.take (j + 1)).flatMap ndB = B ++ ndB nds[j] := by rw [List.take_succ_eq_append_getElem hj2, List.flatMap_append, ← List.append_assoc, hB, List.flatMap_cons, List.flatMap_nil, List.append_nil]
    have hst2 : (B ++ ndB nds[j]).length ≤ 6 + (nds.flatMap ndB).length := by rw [← hst]; have := ndsB_take nds (j + 1); simp only [head, List.length_append, numB_len, List.length_cons, List.length_nil]; omega
    rw [List.length_append, ndB_len] at hst2
    refine XC.then_skip ?_
    refine XC.then_block ?_
    refine XC.then_ops ?_
    refine XO.op (o_move rfl) <| XO.op (o_move rfl) <| XO.nil <| ?_
    refine XC.then_ops ?_
    refine XO.op (o_move rfl) <| XO.nil <| ?_
    refine XC.jn (σ := Int) (fun x => [(6, .int .i64 x)]) [(0, .pointer (some ⟨gb, 0, none⟩)), (4, bv), (5, .int .i64 (j : Int)), (19, .int .i64 (j : Int)), (18, .int .i64 (nds.length : Int))] (fun x G' => bOw G'.c bv B ∧ Gr H0.c G'.c ∧ x = fin01 nds[j].fin) ?_ ?_
    · skip
      refine XC.then_ops ?_
      refine XO.op (o_move rfl) <| XO.op (o_move rfl) <| ?_
      refine XO.ca (final_rn (g.wf w0) (h.gr g) hj2) rfl ?_
      rintro v24 H3 ⟨rfl, g1⟩
      replace hb := hb.gr g1
      replace g := g.tr g1
      refine XO.nil <| ?_
      refine XC.cond rfl (fun hc24 => ?_) (fun hc24 => ?_)
      · skip
        refine XC.ops ?_
        refine XO.op (o_move rfl) <| XO.nil <| ?_
        refine join_n _ (Sb.cons rfl (Sb.cons rfl (Sb.cons rfl (Sb.cons rfl (Sb.cons rfl (Sb.cons rfl (Sb.nil _))))))) ⟨hb, g, ?_⟩
        unfold fin01
        rw [hc24]
        rfl
      · skip
        refine XC.skip ?_
        refine join_n _ (Sb.cons rfl (Sb.cons rfl (Sb.cons rfl (Sb.cons rfl (Sb.cons rfl (Sb.cons rfl (Sb.nil _))))))) ⟨hb, g, ?_⟩
        unfold fin01
        rw [hc24]
        rfl
    · skip
      clear hb g
      rintro fx G' ⟨hb, g, rfl⟩
      refine XC.then_ops ?_
      refine XO.op (o_move rfl) <| XO.op (o_move rfl) <| ?_
      refine XO.ca (put_rn (s := 1) (g.wf w0) hb.rw (by omega) (fin01 nds[j].fin) (by decide)) rfl ?_
      rintro v27 H4 ⟨hb1, hbn1, g1⟩
      have gp := g
      replace hb := hb.gr g1
      replace g := g.tr g1
      replace hbn1 := hbn1.mono fun q hq => Nat.le_trans gp.next hq
      clear hb hbn
      refine XO.op (o_move rfl) <| XO.nil <| ?_
      refine XC.then_ops ?_
      refine XO.op (o_move rfl) <| XO.op (o_move rfl) <| ?_
      refine XO.ca (edges_rn (g.wf w0) (h.gr g) hj2) rfl ?_
      rintro v30 H5 ⟨he, hen, g1⟩
      have gp := g
      replace hb1 := hb1.gr g1
      replace g := g.tr g1
      refine XO.op (o_move rfl) <| XO.nil <| ?_
      refine XC.then_ops ?_
      refine XO.op (o_move rfl) <| XO.op (o_move rfl) <| XO.op (o_len he.rw rfl) <| ?_
      refine XO.ca (put_rn (s := 2) (g.wf w0) hb1.rw (by rw [List.length_append, numB_len]; omega) (nds[j].es.length : Int) (by decide)) rfl ?_
      rintro v34 H6 ⟨hb2, hbn2, g1⟩
      have gp := g
      replace hb1 := hb1.gr g1
      replace he := he.gr g1
      replace g := g.tr g1
      replace hbn2 := hbn2.mono fun q hq => Nat.le_trans gp.next hq
      clear hb1 hbn1
      refine XO.op (o_move rfl) <| XO.nil <| ?_
      refine XC.then_ops ?_
      refine XO.op (o_move rfl) <| XO.op (o_len he.rw rfl) <| XO.op (o_move rfl) <| XO.nil <| ?_
      refine XC.block ?_
      have hesm : nds[j].es.length < 1000000 := by obtain ⟨nv, nvs, h⟩ := h; exact h.es _ (List.getElem_mem hj2)
      generalize hE : nds[j].es = es at he hb2 hst2 hesm
      have hrun : ∀ e ∈ es, 0 ≤ e.1 ∧ e.1 ≤ 1114111 := by rw [← hE]; exact hr _ (List.getElem_mem hj2)
      refine XC.lp (σ := Nat × Value) (fun x => [(37, .int .i64 (x.1 : Int)), (4, x.2)]) [(35, v30), (36, .int .i64 (es.length : Int)), (0, .pointer (some ⟨gb, 0, none⟩)), (18, .int .i64 (nds.length : Int)), (19, .int .i64 (j : Int))] (fun x G => Gr H0.c G.c ∧ bOw G.c x.2 (B ++ numB (fin01 nds[j].fin) 1 ++ numB (es.length : Int) 2 ++ (es.take x.1).flatMap edB) ∧ newIn H0.c x.2 ∧ edOw G.c v30 es ∧ x.1 ≤ es.length) (fun x => es.length - x.1) (0, v34) (Sb.cons rfl (Sb.cons rfl (Sb.cons rfl (Sb.cons (by rw [← hE]; rfl) (Sb.cons rfl (Sb.cons rfl (Sb.cons rfl (Sb.nil _)))))))) ⟨g, by simpa using hb2, hbn2, he, Nat.zero_le _⟩ (by show es.length - 0 < 9223372036854775808; omega) ?_
      clear g hb2 hbn2 he gp g1
      rintro ⟨k, bw⟩ G2 ⟨g, hb, hbn, he, hk⟩
      simp only at hb hbn he hk
      have hbl2 : (B ++ numB (fin01 nds[j].fin) 1 ++ numB (es.length : Int) 2 ++ (es.take k).flatMap edB).length = B.length + 3 + 6 * k := by simp only [List.length_append, numB_len, edsB_len, List.length_take]; omega
      refine XC.then_ops ?_
      refine XO.op (o_lss rfl rfl rfl) <| XO.nil <| ?_
      refine XC.pushIf rfl (fun hc38 => ?_) (fun hc38 => ?_)
      · skip
        have hk2 : k < es.length := by omega
        have hst3 : B ++ numB (fin01 nds[j].fin) 1 ++ numB (es.length : Int) 2 ++ (es.take (k + 1)).flatMap edB = B ++ numB (fin01 nds[j].fin) 1 ++ numB (es.length : Int) 2 ++ (es.take k).flatMap edB ++ numB es[k].1 4 ++ numB (es[k].2 : Int) 2 := by
          rw [List.take_succ_eq_append_getElem hk2, List.flatMap_append, List.flatMap_cons, List.flatMap_nil, List.append_nil]
          simp only [edB, List.append_assoc]
        obtain ⟨hr1, hr2⟩ := hrun _ (List.getElem_mem hk2)
        generalize B ++ numB (fin01 nds[j].fin) 1 ++ numB (es.length : Int) 2 ++ (es.take k).flatMap edB = B2 at hb hbl2 hst3
        refine XC.then_skip ?_
        refine XC.then_block ?_
        refine XC.then_ops ?_
        refine XO.op (o_ix he.rw rfl rfl hk2) <| XO.op (o_ld he.rw rfl (by show k * 2 + 2 ≤ _; omega) (by omega) (flat_part edCs_len hk2)) <| ?_
        have lt_hb := hb.rw.lt (g.wf w0)
        have lt_he := he.rw.lt (g.wf w0)
        refine XO.nwp (o_new) (g.wf w0) ?_
        intro b9 H7 n9 g1 a9
        have m9 := n9
        replace n9 := Nat.le_trans g.next n9
        replace hb := hb.gr g1
        replace he := he.gr g1
        replace g := g.tr g1
        refine XO.up (o_set rfl rfl a9 rfl rfl rfl) (a9) ?_
        intro H8 g1 us1
        replace hb := hb.chg g1 (fun b hb => by have := lt_hb b hb; show ¬ _ = _; omega)
        replace he := he.chg g1 (fun b hb => by have := lt_he b hb; show ¬ _ = _; omega)
        replace g := Chg.th g w0 g1 (fun q hq => .inr (hq ▸ n9))
        replace a9 := us1
        clear us1
        refine XO.nil <| ?_
        refine XC.then_ops ?_
        refine XO.op (o_move rfl) <| XO.op (o_fieldAddr rfl) <| XO.op (o_get rfl a9 rfl) <| XO.op (o_convI (r := es[k].1) rfl (w64 (by omega) (by omega))) <| ?_
        refine XO.ca (put_rn (s := 4) (g.wf w0) hb.rw (by omega) es[k].1 (by decide)) rfl ?_
        rintro v45 H9 ⟨hb3, hbn3, g1⟩
        have gp := g
        replace hb := hb.gr g1
        replace he := he.gr g1
        replace a9 := Gr.at g1 a9
        replace g := g.tr g1
        replace hbn3 := hbn3.mono fun q hq => Nat.le_trans gp.next hq
        clear hb hbn
        refine XO.op (o_move rfl) <| XO.nil <| ?_
        refine XC.ops ?_
        refine XO.op (o_move rfl) <| XO.op (o_fieldAddr rfl) <| XO.op (o_get rfl a9 rfl) <| ?_
        refine XO.ca (put_rn (s := 2) (g.wf w0) hb3.rw (by rw [List.length_append, numB_len]; omega) (es[k].2 : Int) (by decide)) rfl ?_
        rintro v49 H10 ⟨hb4, hbn4, g1⟩
        have gp := g
        replace he := he.gr g1
        replace a9 := Gr.at g1 a9
        replace hb3 := hb3.gr g1
        replace g := g.tr g1
        replace hbn4 := hbn4.mono fun q hq => Nat.le_trans gp.next hq
        refine XO.op (o_move rfl) <| XO.nil <| ?_
        refine blk_n ?_
        refine then_n ?_
        refine XC.ops ?_
        refine XO.op (o_add rfl rfl (w64 (by omega) (by omega))) <| XO.op (o_move rfl) <| XO.nil <| ?_
        exact ⟨(k + 1, v49), by show es.length - (k + 1) < es.length - k; omega, Sb.cons rfl (Sb.cons rfl (Sb.cons rfl (Sb.cons rfl (Sb.cons rfl (Sb.cons rfl (Sb.cons rfl (Sb.nil _))))))), g, by simp only; rw [hst3]; exact hb4, hbn4, he, hk2⟩
      · skip
        refine XC.then_exit ?_
        refine blk_x rfl ?_
        refine blk_n ?_
        refine then_n ?_
        refine XC.ops ?_
        refine XO.op (o_add rfl rfl (w64 (by omega) (by omega))) <| XO.op (o_move rfl) <| XO.nil <| ?_
        refine ⟨(j + 1, bw), by show nds.length - (j + 1) < nds.length - j; omega, Sb.cons rfl (Sb.cons rfl (Sb.cons rfl (Sb.cons rfl (Sb.nil _)))), g, ?_, hbn, hj2⟩
        simp only
        rw [hst]
        rw [List.take_of_length_le (by omega), ← hE] at hb
        simpa only [ndB, List.append_assoc] using hb
  · skip
    have hall : head ++ numB (nds.length : Int) 2 ++ (nds.take j).flatMap ndB = bodyB nds := by rw [List.take_of_length_le (by omega)]; rfl
    rw [← hB, hall] at hb
    have hbl3 : (bodyB nds).length < 1000000 := by rw [← hall, hB]; omega
    refine XC.then_exit ?_
    refine blk_x rfl ?_
    refine then_n ?_
    refine XC.then_ops ?_
    refine XO.op (o_move rfl) <| XO.op (o_move rfl) <| XO.pu (sum_pu hb.rw hbl3) rfl <| XO.op (o_convI (r := (sumL (bodyB nds) : Int)) rfl (w64 (by omega) (by have := sumL_lt (bodyB nds); omega))) <| ?_
    refine XO.ca (put_rn (s := 4) (g.wf w0) hb.rw hbl3 (sumL (bodyB nds) : Int) (by decide)) rfl ?_
    rintro v56 H11 ⟨hb3, hbn3, g1⟩
    have gp := g
    replace hb := hb.gr g1
    replace g := g.tr g1
    refine XO.op (o_move rfl) <| XO.op (o_move rfl) <| XO.nil <| ?_
    refine XC.ret ?_
    refine ⟨_, rfl, ?_⟩
    exact ⟨v56, rfl, hb3, hbn3.mono fun q hq => Nat.le_trans gp.next hq, g⟩
end
end Go.Proofs.Ytffokmamcempgaa.P
