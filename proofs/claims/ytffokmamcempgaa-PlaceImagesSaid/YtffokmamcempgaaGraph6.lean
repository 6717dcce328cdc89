/- A graph's words (package graph), by our machine's rules. -/
import Derived.Test.YtffokmamcempgaaGraph5
namespace Go.Proofs.Ytffokmamcempgaa.P
open Go Go.RowKit Go.Proofs.Ytffokmamcempgaa.AM
set_option linter.unusedVariables false
set_option linter.unusedSimpArgs false
set_option maxRecDepth 100000
/-! changes of blocks of some types -/
def InT (Ty : List Nat) : Blk → Prop
  | .cells _ e _ => e ∈ Ty
  | _ => False
abbrev ST (Ty : List Nat) (n0 : Nat) (C : HC) (b : Nat) : Prop := n0 ≤ b ∧ ∀ B, C.get b = some B → InT Ty B
abbrev ChgT (Ty : List Nat) (n0 : Nat) (C D : HC) : Prop := Chg (ST Ty n0 C) C D
section
variable {C D E : HC} {n0 : Nat} {Ty : List Nat}
theorem ChgT.trans' (h : ChgT Ty n0 C D) (k : ChgT Ty n0 D E) : ChgT Ty n0 C E := ⟨Nat.le_trans h.next k.next, fun b B hb hg => k.get b B (fun q => hb ⟨q.1, fun B' hB' => by
  rw [hg] at hB'
  cases hB'
  exact q.2 B (h.get b B hb hg)⟩) (h.get b B hb hg), fun w => k.wf (h.wf w)⟩
theorem ChgT.ty (g : ChgT Ty n0 C D) {q : Nat} {B' : Blk} (hD : D.get q = some B') (hB : InT Ty B') : ∀ B, C.get q = some B → InT Ty B := fun B h => by
  by_cases hs : ST Ty n0 C q
  · exact hs.2 B h
  · have := g.get q B hs h
    rw [hD] at this
    cases this
    exact hB
theorem ChgT.at' (g : ChgT Ty n0 C D) {q : Nat} {B : Blk} (h : C.get q = some B) (he : ¬ InT Ty B) : D.get q = some B := g.get q B (fun s => he (s.2 B h)) h
theorem ChgT.atc (g : ChgT Ty n0 C D) {q e : Nat} {own : Bool} {cs : List Value} (h : C.get q = some (.cells own e cs)) (he : e ∉ Ty) : D.get q = some (.cells own e cs) := g.at' h he
theorem ChgT.rw {e sz n : Nat} {v : Value} {cs : List Value} (g : ChgT Ty n0 C D) (h : Rw C e sz v n cs) (he : e ∉ Ty) : Rw D e sz v n cs := by
  rcases h with h | ⟨b, off, cap, own, all, h1, h0, h2, h3⟩
  · exact .inl h
  · exact .inr ⟨b, off, cap, own, all, h1, h0, g.at' h2 he, h3⟩
theorem ChgT.ow {e sz n : Nat} {v : Value} {cs : List Value} (g : ChgT Ty n0 C D) (h : Ow C e sz v n cs) (he : e ∉ Ty) : Ow D e sz v n cs := by
  rcases h with h | ⟨b, c, h1, h0, h2, h3⟩
  · exact .inl h
  · exact .inr ⟨b, c, h1, h0, g.at' h2 he, h3⟩
theorem GAt.chgT {gb : Nat} {nv : Value} {nvs : List (Bool × Value)} {nds : List Nd} (h : GAt C gb nv nvs nds) (g : ChgT Ty n0 C D) (h1 : 119 ∉ Ty) (h2 : 121 ∉ Ty) (h3 : 116 ∉ Ty) : GAt D gb nv nvs nds :=
  ⟨g.at' h.g h1, g.rw h.n h2, h.l, fun i a b => ⟨(h.e i a b).1, g.rw (h.e i a b).2 h3⟩, h.sm, h.es⟩
end
def enc (r : Int) : Str := (Utf8.encode r).data.toList
theorem bs_add (a : Str) (r : Int) : bs a ++ Utf8.encode r = bs (a ++ enc r) := by
  apply ByteArray.ext
  apply Array.ext'
  simp [bs, enc, ByteArray.data_append]
theorem enc_len (r : Int) : (enc r).length ≤ 4 := by
  unfold enc Utf8.encode
  simp only
  repeat' split
  all_goals simp
theorem o_addB {cf : CallF} {P : Program} {L : Lv} {H : Heap} {x y : Arg} {a : Str} {r : Int} {t : TypeId} {lit : Bool} (hx : av L x = some (sv a)) (hy : av L y = some (.string (Utf8.encode r))) (hs : a.length < 1000000) : AM.Op P cf L H (.bin .add t lit x y) (sv (a ++ enc r)) H := by
  have he : (Utf8.encode r).size ≤ 4 := enc_len r
  have h := o_addS (P := P) (cf := cf) (H := H) (t := t) (lit := lit) hx hy (by rw [bs_size]; omega)
  rwa [bs_add] at h
def ndAt (nds : List Nd) (i : Nat) : Nd := nds.getD i nd0
theorem ndAt_eq {nds : List Nd} {i : Nat} (h : i < nds.length) : ndAt nds i = nds[i] := by unfold ndAt; rw [List.getD_eq_getElem?_getD, List.getElem?_eq_getElem h, Option.getD_some]
/-- The words from a node on. -/
def eachL : Nat → List Nd → Nat → Str → List Str
  | 0, _, _, _ => []
  | f + 1, nds, i, a => (if (ndAt nds i).fin then [a] else []) ++ (ndAt nds i).es.flatMap fun e => eachL f nds e.2 (a ++ enc e.1)
/-- From a node no way is longer than so. -/
def Deep : Nat → List Nd → Nat → Prop
  | 0, _, _ => False
  | f + 1, nds, i => i < nds.length ∧ ∀ e ∈ (ndAt nds i).es, Deep f nds e.2
abbrev WT : List Nat := [9, 22]
section
variable {n : Nat} {C : HC}
theorem words1_rn (w0 : C.wf) {n0 pl : Nat} {lv : Value} {acc : List ByteArray} (hp : C.get pl = some (.cells true 22 [lv])) (hl : strOw C lv acc) (hn : n0 ≤ pl) (hln : inS (n0 ≤ ·) lv) (hnx : n0 ≤ C.next) (ha : acc.length < 1000000) (x : Str) :
    Rn (cf (n + 1)) 62 [sv x, .pointer (some ⟨pl, 0, none⟩)] C fun v D => v = .bool true ∧ ∃ lv', D.get pl = some (.cells true 22 [lv']) ∧ strOw D lv' (acc ++ [bs x]) ∧ ChgT WT n0 C D ∧ inS (n0 ≤ ·) lv' := by
  refine Rn.enter rfl rfl rfl fun H0 hH => ?_
  subst hH
  have g := Chg.refl (S := ST WT n0 H0.c) H0.c
  have hroom : room = 70368744177664 := rfl
  have hpl := w0.lt hp
  have hll := hl.rw.lt w0
  have hap := hl.rw.ne hp (fun own ds e => by cases e)
  have hp0 := hp
  have hl0 := hl
  refine XC.then_ops ?_
  refine XO.op (o_move rfl) <| XO.nil <| ?_
  refine XC.then_ops ?_
  refine XO.op (o_get rfl hp rfl) <| XO.op (o_move rfl) <| ?_
  have lt_hp := HC.wf.lt (g.wf w0) hp
  have lt_hl := hl.rw.lt (g.wf w0)
  refine XO.nws (o_buildSlice rfl rfl) (g.wf w0) ?_
  intro b6 H1 n6 g1 a6
  have m6 := n6
  replace n6 := Nat.le_trans g.next n6
  replace hp := Gr.at g1 hp
  replace hl := hl.gr g1
  replace g := g.tr g1
  have lt_hp := HC.wf.lt (g.wf w0) hp
  have lt_hl := hl.rw.lt (g.wf w0)
  have lt_a6 := HC.wf.lt (g.wf w0) a6
  refine XO.app (hl) (Rw.fresh (n := 1) rfl (by decide) a6) rfl rfl (by omega) rfl (by omega) (by omega) (g.wf w0) ?_
  intro b7 H2 n7 g1 a7 o7
  have m7 := n7
  replace n7 := Nat.le_trans g.next n7
  replace hp := g1.at hp (fun q => hap _ q rfl)
  replace g := Chg.th g w0 g1 (fun q hq => .inl ⟨hln q hq, fun B hB => by obtain ⟨own, ds, hd⟩ := hl0.rw.blk hq; rw [hd] at hB; cases hB; exact List.mem_cons_self⟩)
  refine XO.up (o_set rfl rfl hp rfl rfl rfl) hp ?_
  intro H9 g9 a9
  have o9 := o7.chg g9 (inS_at (by show ¬ b7 = pl; omega))
  replace g := Chg.th g w0 g9 (fun q hq => .inl ⟨hq ▸ hn, fun B hB => by rw [hq, hp0] at hB; cases hB; exact List.mem_cons_of_mem _ List.mem_cons_self⟩)
  refine XO.nil <| ?_
  refine XC.then_ops ?_
  refine XO.op (o_move rfl) <| XO.nil <| ?_
  refine XC.ret ?_
  refine ⟨_, rfl, ?_⟩
  exact ⟨rfl, _, a9, Ow.snoc o9 rfl, g, inS_at (Nat.le_trans hnx n7)⟩
theorem each_rn : ∀ (f : Nat) {C : HC} {n0 pl gb i : Nat} {nv lv : Value} {nvs : List (Bool × Value)} {nds : List Nd} {acc : List ByteArray} {a : Str}, C.wf → GAt C gb nv nvs nds → C.get pl = some (.cells true 22 [lv]) → strOw C lv acc → n0 ≤ pl → inS (n0 ≤ ·) lv → n0 ≤ C.next → Deep f nds i → a.length + 4 * f < 1000000 → acc.length + (eachL f nds i a).length < 1000000 →
    Rn (cf (n + f + 3)) 61 [.pointer (some ⟨gb, 0, none⟩), .int .i64 (i : Int), sv a, .func (.func 62) #[] #[.pointer (some ⟨pl, 0, none⟩)]] C fun v D => v = .bool true ∧ ∃ lv', D.get pl = some (.cells true 22 [lv']) ∧ strOw D lv' (acc ++ (eachL f nds i a).map bs) ∧ ChgT WT n0 C D ∧ inS (n0 ≤ ·) lv'
  | 0, C, n0, pl, gb, i, nv, lv, nvs, nds, acc, a, w0, hG, hp, hl, hn, hln, hnx, hd, hal, hacc => hd.elim
  | f + 1, C, n0, pl, gb, i, nv, lv, nvs, nds, acc, a, w0, hG, hp, hl, hn, hln, hnx, hd, hal, hacc => by
    have ih := @each_rn f
    obtain ⟨hi, hde⟩ := hd
    have hi2 : i < nvs.length := by rw [hG.l]; exact hi
    obtain ⟨hfe, hed⟩ := hG.e i hi2 hi
    have hnd := ndAt_eq hi
    have hesm := hG.es _ (List.getElem_mem hi)
    obtain ⟨p, q, hpq⟩ := hed.sl
    have hsc : (cellL (.agg ⟨ndCs nvs[i]⟩)).all scalar = true := by
      show ([Value.bool nvs[i].1, nvs[i].2]).all scalar = true
      rw [hpq]
      rfl
    have hT : ∀ (D E : HC) (b : Nat) (cs : List Value) (e : Nat), e ∉ WT → ChgT WT n0 D E → D.get b = some (.cells true e cs) → E.get b = some (.cells true e cs) := fun D E b cs e he g h => g.at' h he
    simp only [eachL, hnd] at hacc hde ⊢
    generalize hE : nds[i].es = es at hed hde hacc hesm ⊢
    generalize hF : nds[i].fin = fi at hfe hacc ⊢
    refine Rn.enter rfl rfl rfl fun H0 hH => ?_
    subst hH
    have g := Chg.refl (S := ST WT n0 H0.c) H0.c
    refine XC.then_ops ?_
    refine XO.op (o_move rfl) <| XO.nil <| ?_
    refine XC.then_ops ?_
    refine XO.op (o_move rfl) <| XO.op (o_move rfl) <| ?_
    refine XO.ca (get_rn (n := n + (f + 1)) (g.wf w0) hG hi) rfl ?_
    rintro v14 H1 ⟨rfl, g1⟩
    have gp := g
    replace hp := Gr.at g1 hp
    replace hl := hl.gr g1
    replace g := g.tr g1
    have lt_hp := HC.wf.lt (g.wf w0) hp
    have lt_hl := hl.rw.lt (g.wf w0)
    refine XO.nwp (o_new) (g.wf w0) ?_
    intro b9 H2 n9 g1 a9
    have m9 := n9
    replace n9 := Nat.le_trans g.next n9
    replace hp := Gr.at g1 hp
    replace hl := hl.gr g1
    replace g := g.tr g1
    refine XO.up (o_set rfl rfl a9 rfl hsc rfl) (a9) ?_
    intro H3 g1 us1
    replace hp := Chg.at g1 hp (by show ¬ _ = _; omega)
    replace hl := hl.chg g1 (fun b hb => by have := lt_hl b hb; show ¬ _ = _; omega)
    replace g := Chg.th g w0 g1 (fun q hq => .inr (hq ▸ n9))
    replace a9 := us1
    clear us1
    refine XO.nil <| ?_
    refine XC.jn (σ := Value) (fun _ => []) [(0, .pointer (some ⟨gb, 0, none⟩)), (2, sv a), (3, .func (.func 62) #[] #[.pointer (some ⟨pl, 0, none⟩)]), (9, .pointer (some ⟨b9, 0, none⟩))] (fun lv1 G => G.c.get pl = some (.cells true 22 [lv1]) ∧ strOw G.c lv1 (acc ++ (if fi then [a] else []).map bs) ∧ inS (n0 ≤ ·) lv1 ∧ ChgT WT n0 H0.c G.c ∧ G.c.get b9 = some (.cells true 121 (ndCs nvs[i]))) ?_ ?_
    · skip
      refine XC.then_ops ?_
      refine XO.op (o_fieldAddr rfl) <| XO.op (o_get (v := .bool fi) rfl a9 (by rw [← hfe]; rfl)) <| XO.op (o_move rfl) <| ?_
      refine XO.split (g := 17) rfl (fun hg17 => ?_) (fun hg17 => ?_)
      · skip
        refine XO.gt rfl <| XO.op (o_move rfl) <| XO.gt rfl <| XO.op (o_move rfl) <| XO.gt rfl <| ?_
        refine XO.cv (words1_rn (n := n + f + 2) (g.wf w0) hp hl hn hln (Nat.le_trans hnx g.next) (by omega) a) rfl rfl ?_
        rintro v20 H4 ⟨rfl, lv1, hp1, hl1, g2, hln1⟩
        replace a9 := hT _ _ _ _ _ (by decide) g2 a9
        replace g := ChgT.trans' g g2
        refine XO.gt rfl <| XO.op (o_not rfl) <| XO.op (o_pick_t rfl rfl) <| XO.nil <| ?_
        refine XC.cond_f (rfl) ?_
        refine XC.skip ?_
        refine join_n lv1 (Sb.cons rfl (Sb.cons rfl (Sb.cons rfl (Sb.cons rfl (Sb.nil _))))) ⟨hp1, ?_, hln1, g, a9⟩
        rw [hg17]
        exact hl1
      · skip
        refine XO.pass rfl rfl <| XO.pass rfl rfl <| XO.pass rfl rfl <| XO.pass rfl rfl <| XO.op (o_pick_f rfl rfl) <| XO.nil <| ?_
        refine XC.cond_f (rfl) ?_
        refine XC.skip ?_
        refine join_n lv (Sb.cons rfl (Sb.cons rfl (Sb.cons rfl (Sb.cons rfl (Sb.nil _))))) ⟨hp, ?_, hln, g, a9⟩
        rw [hg17]
        simpa using hl
    · skip
      clear hp hl hln g a9
      rintro lv1 G ⟨hp, hl, hln, g, a9⟩
      have hedg : edRow G.c nvs[i].2 es := g.rw hed (by decide)
      refine XC.assoc ?_
      refine XC.then_ops ?_
      refine XO.op (o_fieldAddr rfl) <| XO.op (o_get (v := nvs[i].2) rfl a9 rfl) <| XO.op (o_len hedg rfl) <| XO.op (o_move rfl) <| XO.nil <| ?_
      refine XC.then_block ?_
      refine XC.lp (σ := Nat × Value) (fun s => [(26, .int .i64 (s.1 : Int))]) [(24, nvs[i].2), (25, .int .i64 (es.length : Int)), (0, .pointer (some ⟨gb, 0, none⟩)), (2, sv a), (3, .func (.func 62) #[] #[.pointer (some ⟨pl, 0, none⟩)])] (fun s G => G.c.get pl = some (.cells true 22 [s.2]) ∧ strOw G.c s.2 (acc ++ ((if fi then [a] else []) ++ (es.take s.1).flatMap fun e => eachL f nds e.2 (a ++ enc e.1)).map bs) ∧ inS (n0 ≤ ·) s.2 ∧ ChgT WT n0 H0.c G.c ∧ s.1 ≤ es.length) (fun s => es.length - s.1) (0, lv1) (Sb.cons rfl (Sb.cons rfl (Sb.cons rfl (Sb.cons rfl (Sb.cons rfl (Sb.cons rfl (Sb.nil _))))))) ⟨hp, by simpa using hl, hln, g, Nat.zero_le _⟩ (by show es.length - 0 < 9223372036854775808; omega) ?_
      clear hp hl hln g a9 hedg
      rintro ⟨k, lv2⟩ G2 ⟨hp, hl, hln, g, hk⟩
      simp only at hp hl hln hk
      have hedg : edRow G2.c nvs[i].2 es := g.rw hed (by decide)
      refine XC.then_ops ?_
      refine XO.op (o_lss rfl rfl rfl) <| XO.nil <| ?_
      refine XC.pushIf rfl (fun hc27 => ?_) (fun hc27 => ?_)
      · skip
        have hk2 : k < es.length := by omega
        have hst : (es.take (k + 1)).flatMap (fun e => eachL f nds e.2 (a ++ enc e.1)) = (es.take k).flatMap (fun e => eachL f nds e.2 (a ++ enc e.1)) ++ eachL f nds es[k].2 (a ++ enc es[k].1) := by rw [List.take_succ_eq_append_getElem hk2, List.flatMap_append, List.flatMap_cons, List.flatMap_nil, List.append_nil]
        have hsz : ((es.take (k + 1)).flatMap (fun e => eachL f nds e.2 (a ++ enc e.1))).length ≤ (es.flatMap (fun e => eachL f nds e.2 (a ++ enc e.1))).length := by
          conv => rhs; rw [← List.take_append_drop (k + 1) es]
          rw [List.flatMap_append, List.length_append]
          omega
        rw [hst, List.length_append] at hsz
        rw [List.length_append] at hacc
        have henl := enc_len es[k].1
        refine XC.then_skip ?_
        refine XC.then_block ?_
        refine XC.then_ops ?_
        refine XO.op (o_ix hedg rfl rfl hk2) <| XO.op (o_ld hedg rfl (by show k * 2 + 2 ≤ _; omega) (by omega) (flat_part edCs_len hk2)) <| ?_
        have lt_hp := HC.wf.lt (g.wf w0) hp
        have lt_hl := hl.rw.lt (g.wf w0)
        have lt_hedg := hedg.lt (g.wf w0)
        refine XO.nwp (o_new) (g.wf w0) ?_
        intro b11 H5 n11 g1 a11
        have m11 := n11
        replace n11 := Nat.le_trans g.next n11
        replace hp := Gr.at g1 hp
        replace hl := hl.gr g1
        replace hedg := hedg.gr g1
        replace g := g.tr g1
        refine XO.up (o_set rfl rfl a11 rfl rfl rfl) (a11) ?_
        intro H6 g1 us2
        replace hp := Chg.at g1 hp (by show ¬ _ = _; omega)
        replace hl := hl.chg g1 (fun b hb => by have := lt_hl b hb; show ¬ _ = _; omega)
        replace hedg := hedg.chg g1 (fun b hb => by have := lt_hedg b hb; show ¬ _ = _; omega)
        replace g := Chg.th g w0 g1 (fun q hq => .inr (hq ▸ n11))
        replace a11 := us2
        clear us2
        refine XO.nil <| ?_
        refine XC.then_ops ?_
        refine XO.op (o_move rfl) <| XO.op (o_fieldAddr rfl) <| XO.op (o_get rfl a11 rfl) <| XO.op (o_move rfl) <| XO.op (o_fieldAddr rfl) <| XO.op (o_get rfl a11 rfl) <| XO.op (o_convS rfl) <| XO.op (o_addB rfl rfl (by omega)) <| XO.op (o_move rfl) <| ?_
        refine XO.ca (ih (g.wf w0) (hG.chgT g (by decide) (by decide) (by decide)) hp hl hn hln (Nat.le_trans hnx g.next) (hde _ (List.getElem_mem hk2)) (by rw [List.length_append]; omega) (by simp only [List.length_append, List.length_map]; omega)) rfl ?_
        rintro v39 H7 ⟨rfl, lv3, hp3, hl3, g2, hln3⟩
        replace g := ChgT.trans' g g2
        refine XO.op (o_not rfl) <| XO.nil <| ?_
        refine XC.cond_f (rfl) ?_
        refine XC.skip ?_
        refine blk_n ?_
        refine then_n ?_
        refine XC.ops ?_
        refine XO.op (o_add rfl rfl (w64 (by omega) (by omega))) <| XO.op (o_move rfl) <| XO.nil <| ?_
        exact ⟨(k + 1, lv3), by show es.length - (k + 1) < es.length - k; omega, Sb.cons rfl (Sb.cons rfl (Sb.cons rfl (Sb.cons rfl (Sb.cons rfl (Sb.cons rfl (Sb.nil _)))))), hp3, by simp only; rw [hst]; simpa only [List.map_append, List.append_assoc] using hl3, hln3, g, hk2⟩
      · skip
        have hall : es.take k = es := List.take_of_length_le (by omega)
        refine XC.then_exit ?_
        refine blk_x rfl ?_
        refine then_n ?_
        refine XC.then_ops ?_
        refine XO.op (o_move rfl) <| XO.nil <| ?_
        refine XC.ret ?_
        refine ⟨_, rfl, ?_⟩
        exact ⟨rfl, lv2, hp, by rw [hall] at hl; exact hl, g, hln⟩
end
end Go.Proofs.Ytffokmamcempgaa.P
