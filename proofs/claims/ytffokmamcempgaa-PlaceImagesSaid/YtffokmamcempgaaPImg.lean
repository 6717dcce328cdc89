/- PlaceImages: the law's walk, by our machine's rules. -/
import Derived.Test.YtffokmamcempgaaSound
import Derived.Test.YtffokmamcempgaaSame
import Derived.Test.YtffokmamcempgaaAMFr
namespace Go.Proofs.Ytffokmamcempgaa.P
open Go Go.RowKit Go.Proofs.Ytffokmamcempgaa.AM
set_option linter.unusedVariables false
set_option linter.unusedSimpArgs false
set_option maxRecDepth 100000
theorem cf_fr (n : Nat) : CallFr (cf n) := callN_fr (fun f g h => AllT.find (Q := fun _ g => ExtFr g) (AllT.cons extTrue_fr (AllT.cons extTrue_fr (AllT.cons extCmp_fr (AllT.cons extJoin_fr AllT.nil)))) h) n
theorem awake13_pu {C : HC} (n : Nat) : Pu (cf (n + 1)) 9 [] C (.bool true) := fun H _ => awake13_cf n H
theorem less_ne {C : HC} {b : Nat} {v : Value} (h : inS (fun q => ¬ q = b) v) : inS (fun q => ¬ q ∈ [b]) v := fun q hq hm => h q hq (List.mem_singleton.1 hm)
theorem Rw_less {C : HC} {e sz n b e' : Nat} {v : Value} {cs ds : List Value} {own : Bool} (h : Rw C e sz v n cs) (hb : C.get b = some (.cells own e' ds)) (he : e ≠ e') : Rw (C.less [b]) e sz v n cs :=
  h.chg (chg_less C [b]) (less_ne (C := C) (h.ne hb (fun own ds q => by cases q; exact he rfl)))
theorem CfAt.less {C : HC} {c : Cf} (h : CfAt C c) {b : Nat} {own : Bool} {ds : List Value} (hb : C.get b = some (.cells own 25 ds)) : CfAt (C.less [b]) c :=
  ⟨Rw_less h.w hb (by decide), Rw_less h.k hb (by decide), h.wl, h.kl, h.wsm, h.ksm⟩
theorem Graphs.less {C : HC} {gb : Nat} {nds : List Nd} (h : Graphs C gb nds) {b : Nat} {own : Bool} {ds : List Value} (hb : C.get b = some (.cells own 25 ds)) : Graphs (C.less [b]) gb nds := by
  obtain ⟨nv, nvs, h⟩ := h
  refine ⟨nv, nvs, (chg_less C [b]).at h.g (fun q => ?_), Rw_less h.n hb (by decide), h.l, fun i a k => ⟨(h.e i a k).1, Rw_less (h.e i a k).2 hb (by decide)⟩, h.sm, h.es⟩
  have := List.mem_singleton.1 q
  subst this
  have h1 := h.g
  rw [hb] at h1
  cases h1
/-- How many words lie in shards before s. -/
def cntL (ks : List Ky) (ws : List ByteArray) (s : Nat) : Nat := (ws.filter fun w => decide (0 ≤ ofL ks w) && decide (ofL ks w < (s : Int))).length
theorem cnt_zero (ks : List Ky) (ws : List ByteArray) : cntL ks ws 0 = 0 := by
  unfold cntL
  rw [List.length_eq_zero_iff, List.filter_eq_nil_iff]
  intro w _
  simp only [Bool.and_eq_true, decide_eq_true_eq]
  omega
theorem cnt_succ (ks : List Ky) (ws : List ByteArray) (s : Nat) : cntL ks ws (s + 1) = cntL ks ws s + (sliceL ks ws s).length := by
  unfold cntL sliceL inShard
  induction ws with
  | nil => rfl
  | cons w ws ih =>
    simp only [List.filter_cons, Bool.and_eq_true, decide_eq_true_eq]
    by_cases h0 : 0 ≤ ofL ks w
    · by_cases h1 : ofL ks w < (s : Int)
      · rw [if_pos ⟨h0, by omega⟩, if_pos ⟨h0, h1⟩, if_neg (by omega), List.length_cons, List.length_cons, ih]; omega
      · by_cases h2 : ofL ks w = (s : Int)
        · rw [if_pos ⟨h0, by omega⟩, if_neg (by omega), if_pos ⟨h0, h2⟩, List.length_cons, List.length_cons, ih]; omega
        · rw [if_neg (by omega), if_neg (by omega), if_neg (by omega), ih]
    · rw [if_neg (by omega), if_neg (by omega), if_neg (by omega), ih]
theorem cnt_le (ks : List Ky) (ws : List ByteArray) (s : Nat) : cntL ks ws s ≤ ws.length := List.length_filter_le ..
theorem cnt_all {ks : List Ky} {ws : List ByteArray} (h : ∀ w ∈ ws, isWordL w.data.toList = true) : cntL ks ws (ks.length + 1) = ws.length := by
  unfold cntL
  rw [List.filter_eq_self.2 fun w hw => ?_]
  unfold ofL
  rw [if_pos (h w hw)]
  have : shardOf ks ⟨lenL w.data.toList, w⟩ ≤ ks.length := List.length_filter_le ..
  simp only [Bool.and_eq_true, decide_eq_true_eq]
  omega
theorem great_no {c : Cf} (h : (greatK c.ks || greatT c.ws) = false) : c.ws.length ≤ 80 ∧ c.ks.length ≤ 10 ∧ (∀ w ∈ c.ws, sm w) ∧ ∀ k ∈ c.ks, sm k.txt := by
  rw [Bool.or_eq_false_iff] at h
  unfold greatK greatT at h
  simp only [Bool.or_eq_false_iff, decide_eq_false_iff_not, List.any_eq_false, decide_eq_true_eq] at h
  refine ⟨by omega, by omega, fun w hw => ?_, fun k hk => ?_⟩
  · have := h.2.2 w hw; show w.size < _; omega
  · have := h.1.2 k hk; show k.txt.size < _; omega
section
variable {n : Nat} {C : HC}
theorem pimg_great (w0 : C.wf) {c : Cf} (hw : strRow C c.w c.ws) (hk : keyRow C c.k c.ks) (hgr : (greatK c.ks || greatT c.ws) = true) : Qu (cf (n + 100060)) 6 [c.v] C (.bool true) := by
  refine Rn.enter rfl rfl rfl fun H0 hH => ?_
  subst hH
  have g := Chg.refl (S := fun _ => False) H0.c
  refine XC.then_ops ?_
  refine XO.nwp (o_box rfl) (g.wf w0) ?_
  intro b1 H1 n1 g1 a1
  have m1 := n1
  replace n1 := Nat.le_trans g.next n1
  replace g := g.tr g1
  refine XO.op (o_move rfl) <| XO.nil <| ?_
  refine XC.assoc ?_
  refine XC.then_ops ?_
  refine XO.op (o_get (v := c.v) rfl a1 rfl) <| ?_
  refine XO.ca ((show Qu (cf (n + 100059)) _ _ _ (.bool true) from hgr ▸ greatConfig_qu (g.wf w0) (hw.gr g) (hk.gr g))) rfl ?_
  rintro v12 H2 ⟨rfl, g1⟩
  replace a1 := Gr.at g1 a1
  replace g := g.tr g1
  refine XO.op (o_move rfl) <| XO.pass rfl rfl <| XO.pass rfl rfl <| XO.pass rfl rfl <| XO.op (o_pick_t rfl rfl) <| XO.nil <| ?_
  refine XC.push_t (rfl) ?_
  refine XC.assoc ?_
  refine XC.then_ops ?_
  refine XO.pu (awake13_pu _) rfl <| XO.op (o_move rfl) <| XO.nil <| ?_
  refine XC.then_ret ?_
  refine ⟨_, rfl, ?_⟩
  exact ⟨rfl, g⟩
theorem pimg_no (w0 : C.wf) {c : Cf} (hc : CfAt C c) (hgr : (greatK c.ks || greatT c.ws) = false) (hm : mayB c = false) : Qu (cf (n + 100060)) 6 [c.v] C (.bool true) := by
  refine Rn.enter rfl rfl rfl fun H0 hH => ?_
  subst hH
  have g := Chg.refl (S := fun _ => False) H0.c
  refine XC.then_ops ?_
  refine XO.nwp (o_box rfl) (g.wf w0) ?_
  intro b1 H1 n1 g1 a1
  have m1 := n1
  replace n1 := Nat.le_trans g.next n1
  replace g := g.tr g1
  refine XO.op (o_move rfl) <| XO.nil <| ?_
  refine XC.assoc ?_
  refine XC.then_ops ?_
  refine XO.op (o_get (v := c.v) rfl a1 rfl) <| ?_
  refine XO.ca ((show Qu (cf (n + 100059)) _ _ _ (.bool false) from hgr ▸ greatConfig_qu (g.wf w0) (hc.gr g).w (hc.gr g).k)) rfl ?_
  rintro v12 H2 ⟨rfl, g1⟩
  replace a1 := Gr.at g1 a1
  replace g := g.tr g1
  refine XO.op (o_move rfl) <| XO.gt rfl <| XO.op (o_get (v := c.v) rfl a1 rfl) <| XO.gt rfl <| ?_
  refine XO.ca ((show Qu (cf (n + 100059)) _ _ _ (.bool false) from hm ▸ may_qu (g.wf w0) (hc.gr g))) rfl ?_
  rintro v15 H3 ⟨rfl, g1⟩
  replace a1 := Gr.at g1 a1
  replace g := g.tr g1
  refine XO.gt rfl <| XO.op (o_not rfl) <| XO.op (o_pick_f rfl rfl) <| XO.nil <| ?_
  refine XC.push_t (rfl) ?_
  refine XC.assoc ?_
  refine XC.then_ops ?_
  refine XO.pu (awake13_pu _) rfl <| XO.op (o_move rfl) <| XO.nil <| ?_
  refine XC.then_ret ?_
  refine ⟨_, rfl, ?_⟩
  exact ⟨rfl, g⟩
theorem pimg_yes (w0 : C.wf) {c : Cf} (hc : CfAt C c) (hgr : (greatK c.ks || greatT c.ws) = false) (hm : mayB c = true) : Qu (cf (n + 100060)) 6 [c.v] C (.bool true) := by
  have hmay := mayB_is hm
  have hN : shardsN c = c.ks.length + 1 := by unfold shardsN; rw [hm]; rfl
  have hkl := hmay.kl
  have hwl : c.ws.length ≤ 60 := (wordsOk_pairs hmay.words).1
  have hcnt := cnt_all (ks := c.ks) (wordsOk_pairs hmay.words).2.1
  have hsw : ∀ s : Int, wordsOk (sliceL c.ks c.ws s) = 0 := fun s => wordsOk_filter hmay.words _
  have hS : ∀ s : Int, (∃ rk, Sound (shardL c s) rk 13) ∧ Packs (shardL c s) ∧ ∀ nd ∈ buildN (shardL c s), nd.es.length < 65536 := fun s => sound_of (by unfold shardL; rw [wl_map]; exact hsw s)
  have hsl : ∀ s : Int, (sliceL c.ks c.ws s).length ≤ 60 := fun s => Nat.le_trans (List.length_filter_le ..) hwl
  refine Rn.enter rfl rfl rfl fun H0 hH => ?_
  subst hH
  have g := Chg.refl (S := fun _ => False) H0.c
  refine XC.then_ops ?_
  refine XO.nwp (o_box rfl) (g.wf w0) ?_
  intro b1 H1 n1 g1 a1
  have m1 := n1
  replace n1 := Nat.le_trans g.next n1
  replace g := g.tr g1
  refine XO.op (o_move rfl) <| XO.nil <| ?_
  refine XC.assoc ?_
  refine XC.then_ops ?_
  refine XO.op (o_get (v := c.v) rfl a1 rfl) <| ?_
  refine XO.ca ((show Qu (cf (n + 100059)) _ _ _ (.bool false) from hgr ▸ greatConfig_qu (g.wf w0) (hc.gr g).w (hc.gr g).k)) rfl ?_
  rintro v12 H2 ⟨rfl, g1⟩
  replace a1 := Gr.at g1 a1
  replace g := g.tr g1
  refine XO.op (o_move rfl) <| XO.gt rfl <| XO.op (o_get (v := c.v) rfl a1 rfl) <| XO.gt rfl <| ?_
  refine XO.ca ((show Qu (cf (n + 100059)) _ _ _ (.bool true) from hm ▸ may_qu (g.wf w0) (hc.gr g))) rfl ?_
  rintro v15 H3 ⟨rfl, g1⟩
  replace a1 := Gr.at g1 a1
  replace g := g.tr g1
  refine XO.gt rfl <| XO.op (o_not rfl) <| XO.op (o_pick_f rfl rfl) <| XO.nil <| ?_
  refine XC.push_f (rfl) ?_
  refine XC.then_skip ?_
  refine XC.then_ops ?_
  refine XO.op (o_move rfl) <| XO.nil <| ?_
  refine XC.assoc ?_
  refine XC.then_ops ?_
  refine XO.op (o_move rfl) <| XO.nil <| ?_
  refine XC.then_block ?_
  refine XC.lp (σ := Nat) (fun s => [(4, .int .i64 (s : Int)), (3, .int .i64 (cntL c.ks c.ws s : Int))]) [(1, .pointer (some ⟨b1, 0, none⟩))] (fun s G => Gr H0.c G.c ∧ G.c.get b1 = some (.cells true 25 c.cs) ∧ s ≤ shardsN c) (fun s => shardsN c - s) 0 (Sb.cons rfl (Sb.cons (by rw [cnt_zero]; rfl) (Sb.cons rfl (Sb.nil _)))) ⟨g, a1, Nat.zero_le _⟩ (by show shardsN c - 0 < 9223372036854775808; omega) ?_
  clear g a1
  rintro s G ⟨g, a1, hs⟩
  refine XC.assoc ?_
  refine XC.then_ops ?_
  refine XO.op (o_move rfl) <| XO.op (o_get (v := c.v) rfl a1 rfl) <| ?_
  refine XO.ca (shards_qu (g.wf w0) (hc.gr g)) rfl ?_
  rintro v21 H4 ⟨rfl, g1⟩
  replace a1 := Gr.at g1 a1
  replace g := g.tr g1
  refine XO.op (o_lss rfl rfl rfl) <| XO.nil <| ?_
  refine XC.pushIf rfl (fun hc22 => ?_) (fun hc22 => ?_)
  · skip
    have hs2 : s < shardsN c := by omega
    obtain ⟨⟨rk, hso⟩, hpk, hes⟩ := hS s
    have hcs := cnt_succ c.ks c.ws s
    have hcl := cnt_le c.ks c.ws s
    have hsls := hsl s
    refine XC.then_skip ?_
    refine XC.then_block ?_
    refine XC.then_ops ?_
    refine XO.op (o_get (v := c.v) rfl a1 rfl) <| XO.op (o_move rfl) <| ?_
    refine XO.ca (image_rn (s := (s : Int)) (g.wf w0) (hc.gr g) ⟨by omega, by omega⟩ hpk) rfl ?_
    rintro v28 H5 ⟨iv, rfl, hi, hin, g1⟩
    have gp := g
    replace a1 := Gr.at g1 a1
    replace g := g.tr g1
    refine XO.op (o_move rfl) <| XO.op (o_extract rfl rfl) <| XO.op (o_extract rfl rfl) <| XO.op (o_move rfl) <| XO.op (o_move rfl) <| XO.nil <| ?_
    refine XC.then_ops ?_
    refine XO.op (o_move rfl) <| ?_
    refine XO.ca (decode_rn (g.wf w0) hso hpk.runes hi.rw hpk.size hes) rfl ?_
    rintro v33 H6 ⟨gb, rfl, hG, g1⟩
    have gp := g
    replace a1 := Gr.at g1 a1
    replace hi := hi.gr g1
    replace g := g.tr g1
    refine XO.op (o_move rfl) <| XO.op (o_extract rfl rfl) <| XO.op (o_extract rfl rfl) <| XO.op (o_move rfl) <| XO.op (o_move rfl) <| XO.nil <| ?_
    refine XC.assoc ?_
    refine XC.then_draw ?_
    refine XD.pure (o_move rfl) <| XD.pure (o_neq (q := false) rfl rfl rfl) <| XD.pure (o_move rfl) <| XD.gt rfl <| XD.pure (o_move rfl) <| XD.gt rfl <| XD.pure (o_neq (q := false) rfl rfl rfl) <| XD.pure (o_pick_f rfl rfl) <| XD.pure (o_move rfl) <| XD.gt rfl <| XD.pure (o_move rfl) <| XD.gt rfl <| XD.pure (o_eqNil rfl rfl rfl) <| XD.pure (o_pick_f rfl rfl) <| XD.pure (o_move rfl) <| ?_
    refine XD.gt rfl <| XD.pure (o_move rfl) <| XD.gt rfl <| ?_
    have hlt1 := HC.wf.lt (g.wf w0) a1
    refine XD.caFp (cf_fr _) [b1] (fun q hq => by rw [List.mem_singleton.1 hq]; exact hlt1) (fun q hq => by cases hq) (gwords_rn (n := n + 100042) (f := 13) ((chg_less _ _).wf (g.wf w0)) (hG.less a1) hso.deep (by decide) (by rw [hso.each]; have := hso.few; omega)) rfl ?_
    rintro v48 D48 G48 W48 ⟨hw48, hn48, hd48⟩ hDG hback hW48
    have g48 := hback hd48
    have hw := Ow.gr hw48 hDG
    rw [hso.each, shardL, wl_map] at hw
    replace a1 := Gr.at g48 a1
    replace g := g.tr g48
    refine XD.gt rfl <| ?_
    refine XD.ldFpW (v := c.v) rfl a1 rfl (fun q => by have := hW48 b1 List.mem_cons_self q; cases this) ?_
    refine XD.gt rfl <| XD.pure (o_move rfl) <| XD.gt rfl <| ?_
    refine XD.ca (words_rn (g.wf w0) (hc.gr g) (s : Int)) rfl ?_
    rintro v51 H7 ⟨hw2, hw2n, g1⟩
    have gp := g
    replace a1 := Gr.at g1 a1
    replace hw := hw.gr g1
    replace g := g.tr g1
    refine XD.gt rfl <| XD.pu (sameTexts_pu hw.rw hw2.rw (by omega)) rfl <| XD.gt rfl <| XD.pure (o_not rfl) <| XD.pure (o_pick_f rfl rfl) <| XD.nil <| ?_
    refine XC.push_f (rfl) ?_
    refine XC.then_skip ?_
    refine XC.ops ?_
    refine XO.op (o_move rfl) <| XO.op (o_get (v := c.v) rfl a1 rfl) <| XO.op (o_move rfl) <| ?_
    refine XO.ca (words_rn (g.wf w0) (hc.gr g) (s : Int)) rfl ?_
    rintro v58 H8 ⟨hw3, hw3n, g1⟩
    have gp := g
    replace a1 := Gr.at g1 a1
    replace hw := hw.gr g1
    replace g := g.tr g1
    refine XO.op (o_len hw3.rw rfl) <| XO.op (o_add (r := (cntL c.ks c.ws (s + 1) : Int)) rfl rfl (by rw [w64 (by omega) (by omega), hcs]; omega)) <| XO.op (o_move rfl) <| XO.nil <| ?_
    refine blk_n ?_
    refine then_n ?_
    refine XC.ops ?_
    refine XO.op (o_move rfl) <| XO.op (o_add rfl rfl (w64 (by omega) (by omega))) <| XO.op (o_move rfl) <| XO.nil <| ?_
    exact ⟨s + 1, by show shardsN c - (s + 1) < shardsN c - s; omega, Sb.cons rfl (Sb.cons rfl (Sb.cons rfl (Sb.nil _))), g, a1, hs2⟩
  · skip
    have hse : s = shardsN c := by omega
    refine XC.then_exit ?_
    refine blk_x rfl ?_
    refine then_n ?_
    refine XC.then_draw ?_
    refine XD.ldFp (v := c.v) rfl a1 rfl ?_
    refine XD.pure (o_get (v := c.v) rfl a1 rfl) <| ?_
    have hlt1 := HC.wf.lt (g.wf w0) a1
    refine XD.caFp (cf_fr _) [b1] (fun q hq => by rw [List.mem_singleton.1 hq]; exact hlt1) (fun q hq => hq) (shards_qu ((chg_less _ _).wf (g.wf w0)) ((hc.gr g).less a1)) rfl ?_
    rintro v64 D64 G64 W64 ⟨rfl, hd64⟩ hDG hback hW64
    have g64 := hback hd64
    replace a1 := Gr.at g64 a1
    replace g := g.tr g64
    refine XD.ca (image_no (s := (shardsN c : Int)) (g.wf w0) (hc.gr g) (by omega)) rfl ?_
    rintro v65 H9 ⟨rfl, g1⟩
    have gp := g
    replace a1 := Gr.at g1 a1
    replace g := g.tr g1
    refine XD.pure (o_move rfl) <| XD.pure (o_extract rfl rfl) <| XD.pure (o_extract rfl rfl) <| XD.pure (o_move rfl) <| XD.pure (o_move rfl) <| XD.nil <| ?_
    refine XC.then_ops ?_
    refine XO.op (o_move rfl) <| XO.op (o_fieldAddr rfl) <| XO.op (o_get (v := c.w) rfl a1 rfl) <| XO.op (o_len (hc.gr g).w rfl) <| XO.op (o_eql (q := true) rfl rfl (by rw [hse, hN, hcnt]; simp)) <| XO.op (o_move rfl) <| XO.gt rfl <| XO.op (o_move rfl) <| XO.gt rfl <| XO.op (o_eql (q := true) rfl rfl rfl) <| XO.op (o_pick_t rfl rfl) <| XO.op (o_move rfl) <| ?_
    refine XO.gt rfl <| XO.pu (awake13_pu _) rfl <| XO.op (o_pick_t rfl rfl) <| XO.op (o_move rfl) <| XO.nil <| ?_
    refine XC.ret ?_
    refine ⟨_, rfl, ?_⟩
    exact ⟨rfl, g⟩
end
end Go.Proofs.Ytffokmamcempgaa.P
