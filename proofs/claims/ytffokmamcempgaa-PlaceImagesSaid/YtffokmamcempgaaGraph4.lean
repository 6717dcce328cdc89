/- The node of some rests (package graph), by our machine's rules. -/
import Derived.Test.YtffokmamcempgaaGraph3
namespace Go.Proofs.Ytffokmamcempgaa.P
open Go Go.RowKit Go.Proofs.Ytffokmamcempgaa.AM
set_option linter.unusedVariables false
set_option linter.unusedSimpArgs false
set_option maxRecDepth 100000
theorem bldL_step (b : List Str → St → Nat × St) (c : Int) (l : List Str) (gs : List (Int × List Str)) (st : St) : bldL b ((c, l) :: gs) st = ((c, (b l st).1) :: (bldL b gs (b l st).2).1, (bldL b gs (b l st).2).2) := rfl
/-- A state only grows. -/
structure Ext (a b : St) : Prop where
  len : a.length ≤ b.length
  same : ∀ (i : Nat) (h : i < a.length) (h2 : i < b.length), (b[i]).1 = (a[i]).1
theorem Ext.refl (a : St) : Ext a a := ⟨Nat.le_refl _, fun _ _ _ => rfl⟩
theorem Ext.trans {a b c : St} (h : Ext a b) (k : Ext b c) : Ext a c := ⟨Nat.le_trans h.len k.len, fun i h1 h2 => by rw [k.same i (Nat.lt_of_lt_of_le h1 h.len) h2, h.same i h1 _]⟩
theorem bldL_ext {b : List Str → St → Nat × St} (hb : ∀ l st, Ext st (b l st).2) : ∀ (gs : List (Int × List Str)) (st : St), Ext st (bldL b gs st).2
  | [], st => Ext.refl st
  | (c, l) :: gs, st => (hb l st).trans (bldL_ext hb gs _)
theorem bld_ext : ∀ (f : Nat) (rests : List Str) (st : St), Ext st (bld f rests st).2
  | 0, rests, st => Ext.refl st
  | f + 1, rests, st => by
    unfold bld
    split
    · exact Ext.refl st
    · have h := bldL_ext (bld_ext f) (grs rests) (st ++ [(rests, nd0)])
      have h0 : Ext st (st ++ [(rests, nd0)]) := ⟨by simp, fun i h1 h2 => by rw [List.getElem_append_left h1]⟩
      have hlt : st.length < (bldL (bld f) (grs rests) (st ++ [(rests, nd0)])).2.length := by have := h.len; simp at this; omega
      refine ⟨by rw [List.length_set]; omega, fun i h1 h2 => ?_⟩
      rw [List.getElem_set_ne (by omega)]
      exact (h0.trans h).same i h1 (by rw [List.length_set] at h2; exact h2)
section
variable {n : Nat}
theorem node_rn : ∀ (f : Nat) {C : HC} {n0 bb gb mb : Nat} {nv : Value} {nvs : List (Bool × Value)} {st : St} {v : Value} {rests : List Str}, C.wf → BAt n0 C bb gb mb nv nvs st → strRow C v (rests.map bs) → Rs rests → (∀ x ∈ rests, x.length < f) → rests.length < 1000000 → st.length + 1 + tot rests ≤ 900000 → n0 ≤ C.next →
    Rn (cf (n + f + 3)) 84 [.pointer (some ⟨bb, 0, none⟩), v] C fun u D => u = .int .i64 ((bld f rests st).1 : Int) ∧ ∃ nv' nvs', BAt n0 D bb gb mb nv' nvs' (bld f rests st).2 ∧ ChgN n0 C D ∧ ∀ p ∈ nvs', inS (fun q => C.next ≤ q ∨ ∃ p0 ∈ nvs, blockOf p0.2 = some q) p.2
  | 0, C, n0, bb, gb, mb, nv, nvs, st, v, rests, w0, hb, hr, h, hlt, hl, ht, hnx => by
    obtain ⟨x, l, rfl⟩ := List.exists_cons_of_ne_nil h.ne
    exact absurd (hlt x List.mem_cons_self) (Nat.not_lt_zero _)
  | f + 1, C, n0, bb, gb, mb, nv, nvs, st, v, rests, w0, hb, hr, h, hlt, hl, ht, hnx => by
    have ih := @node_rn f
    cases hi : findR st rests with
    | some i =>
      refine (node_found (n := n + (f + 1) + 1) w0 hb hr h hl (by omega) hi).rn.mono fun u D ⟨e1, e2⟩ => ?_
      subst e1 e2
      have e : bld (f + 1) rests st = (i, st) := by unfold bld; rw [hi]
      rw [e]
      exact ⟨rfl, nv, nvs, hb, Chg.refl _, fun p hp q hq => .inr ⟨p, hp, hq⟩⟩
    | none =>
    have hbld : bld (f + 1) rests st = (st.length, (bldL (bld f) (grs rests) (st ++ [(rests, nd0)])).2.set st.length (rests, ⟨fins rests, (bldL (bld f) (grs rests) (st ++ [(rests, nd0)])).1⟩)) := by unfold bld; rw [hi]
    have hbd0 := h.body
    have htl := tail_tot rests
    obtain ⟨r0, tl, rfl⟩ := List.exists_cons_of_ne_nil h.ne
    have hll : tl.length + 1 < 1000000 := hl
    have hfin : (decide ((0 : Int) < (((r0 :: tl).map bs).length : Int)) && decide (bs r0 = ⟨#[]⟩)) = fins (r0 :: tl) := by
      rw [decide_eq_true (show (0 : Int) < (((r0 :: tl).map bs).length : Int) by simp), Bool.true_and]
      unfold fins
      exact decide_eq_decide.2 ⟨fun q => by rw [bs_inj (b := []) q]; rfl, fun q => by simp at q; rw [q]; rfl⟩
    refine Rn.enter rfl rfl rfl fun H0 hH => ?_
    subst hH
    have g := Chg.refl (S := SN n0 H0.c) H0.c
    have hroom : room = 70368744177664 := rfl
    have hbb := hb.b
    have hbm := hb.m
    have hbg := hb.g
    have hS : ∀ q, blockOf nv = some q → SN n0 H0.c q := fun q hq => ⟨hb.nn q hq, fun B hB => by
      obtain ⟨own, ds, hd⟩ := hb.n.rw.blk hq
      rw [hd] at hB
      cases hB
      exact .inl rfl⟩
    have nbm : bb ≠ mb := fun e => by rw [e, hbm] at hbb; cases hbb
    have nbg : bb ≠ gb := fun e => by rw [e, hbg] at hbb; cases hbb
    have ngm : gb ≠ mb := fun e => by rw [e, hbm] at hbg; cases hbg
    refine XC.then_ops ?_
    refine XO.op (o_move rfl) <| XO.nil <| ?_
    refine XC.then_ops ?_
    refine XO.op (o_move rfl) <| XO.pu (join_pu hr hl (by omega)) rfl <| XO.op (o_move rfl) <| XO.nil <| ?_
    refine XC.assoc ?_
    refine XC.then_ops ?_
    refine XO.op (o_move rfl) <| XO.op (o_nilCheck rfl) <| XO.op (o_fieldAddr rfl) <| XO.op (o_get rfl hbb rfl) <| XO.op (o_move rfl) <| XO.op (o_lookup rfl rfl (look_found hb.m hb.r h _)) <| XO.op (o_move rfl) <| XO.op (o_extract (v := .int .i64 0) (by show some (match findR st (r0 :: tl) with | some i => Value.tuple #[.int .i64 (i : Int), .bool true] | none => .tuple #[.int .i64 0, .bool false]) = _; rw [hi]) rfl) <| ?_
    refine XO.op (o_extract (v := .bool false) (by show some (match findR st (r0 :: tl) with | some i => Value.tuple #[.int .i64 (i : Int), .bool true] | none => .tuple #[.int .i64 0, .bool false]) = _; rw [hi]) rfl) <| XO.op (o_move rfl) <| XO.op (o_move rfl) <| XO.nil <| ?_
    refine XC.assoc ?_
    refine XC.then_ops ?_
    refine XO.op (o_move rfl) <| XO.nil <| ?_
    refine XC.push_f (rfl) ?_
    refine XC.then_skip ?_
    refine XC.then_ops ?_
    refine XO.op (o_move rfl) <| XO.op (o_nilCheck rfl) <| XO.op (o_fieldAddr rfl) <| XO.op (o_get rfl hbb rfl) <| XO.op (o_nilCheck rfl) <| XO.op (o_fieldAddr rfl) <| XO.op (o_get rfl hbg rfl) <| XO.op (o_len hb.n.rw rfl) <| XO.op (o_move rfl) <| XO.nil <| ?_
    refine XC.then_ops ?_
    refine XO.op (o_move rfl) <| XO.op (o_nilCheck rfl) <| XO.op (o_fieldAddr rfl) <| XO.op (o_get rfl hbb rfl) <| XO.op (o_move rfl) <| XO.op (o_move rfl) <| ?_
    refine XO.up (o_mapSet rfl rfl rfl (set_new hb.m hb.r h hi _ nd0)) hb.m ?_
    intro H1 c1 hm1
    have hbb1 := c1.at hbb nbm
    have hbg1 := c1.at hbg ngm
    have hn1 := hb.n.chg c1 (hb.n.rw.ne hb.m fun own ds e => by cases e)
    have hr1 := hr.chg c1 (hr.ne hb.m fun own ds e => by cases e)
    replace g := Chg.th g w0 c1 (fun q hq => .inl ⟨hq ▸ hb.nm, fun B hB => by rw [hq, hbm] at hB; cases hB; trivial⟩)
    refine XO.nil <| ?_
    refine XC.then_draw ?_
    refine XD.pure (o_move rfl) <| XD.pure (o_nilCheck rfl) <| XD.pure (o_fieldAddr rfl) <| ?_
    refine XD.ldFp rfl hbb1 rfl ?_
    refine XD.pure (o_move rfl) <| XD.pure (o_nilCheck rfl) <| XD.pure (o_fieldAddr rfl) <| ?_
    refine XD.ldFp rfl hbb1 rfl ?_
    refine XD.pure (o_nilCheck rfl) <| XD.pure (o_fieldAddr rfl) <| ?_
    refine XD.ldFp rfl hbg1 rfl ?_
    refine XD.pure (o_build rfl rfl) <| ?_
    have lt_hbb1 := HC.wf.lt (g.wf w0) hbb1
    have lt_hbg1 := HC.wf.lt (g.wf w0) hbg1
    have lt_hn1 := hn1.rw.lt (g.wf w0)
    have lt_hr1 := hr1.lt (g.wf w0)
    refine XD.nwsFp (o_buildSlice rfl rfl) rfl (g.wf w0) ?_
    intro b54 H1 n54 g1 a54
    have m54 := n54
    replace n54 := Nat.le_trans g.next n54
    replace hbb1 := Gr.at g1 hbb1
    replace hbg1 := Gr.at g1 hbg1
    replace hn1 := hn1.gr g1
    replace hr1 := hr1.gr g1
    replace g := g.tr g1
    have c2 := g1
    have kb1 := hn1.rw.ne hbb1 (fun own ds e => by cases e)
    have kg1 := hn1.rw.ne hbg1 (fun own ds e => by cases e)
    refine XD.appFp hn1 rfl rfl (Rw.fresh (n := 1) (cap := 1) rfl (by decide) a54) (by omega) rfl (by omega) (by omega) (g.wf w0) (fun q hq e => by rcases List.mem_cons.1 hq with rfl | hq; (exact kg1 _ e rfl); rcases List.mem_cons.1 hq with rfl | hq; (exact kb1 _ e rfl); exact kb1 _ e (List.mem_singleton.1 hq)) ?_
    intro b55 H3 W55 n55 c3 a55 o55
    have hbb3 := c3.at hbb1 (fun q => kb1 _ q rfl)
    have hbg3 := c3.at hbg1 (fun q => kg1 _ q rfl)
    have hr3 := hr1.chg c3 (hr1.apart hn1.rw (show 9 ≠ 121 by decide))
    have hgb55 : ¬ b55 = gb := fun e => by have := (g.wf w0).lt hbg1; omega
    have hn55 : n0 ≤ b55 := by have := g.next; omega
    have g3 := g
    replace g := Chg.th g w0 c3 (fun q hq => .inl (hS q hq))
    refine XD.pure (o_nilCheck rfl) <| XD.pure (o_fieldAddr rfl) <| ?_
    refine XD.up (o_set rfl rfl hbg3 rfl rfl rfl) hbg3 ?_
    intro H4 c4 hg4
    have hb4 : BAt n0 H4.c bb gb mb _ _ _ := BAt.push hb h c1 hm1 c2 c3 o55 (inS_at hn55) (inS_at hgb55) c4 hg4
    have hr4 := hr3.chg c4 (hr3.ne hbg3 fun own ds e => by cases e)
    replace g := Chg.th g w0 c4 (fun q hq => .inl ⟨hq ▸ hb.ng, fun B hB => by rw [hq, hbg] at hB; cases hB; exact .inr rfl⟩)
    clear hbb1 hbg1 hn1 hr1 c1 c2 c3 c4 hm1 a54 a55 o55 hbb3 hbg3 hr3 hg4 g3
    refine XD.nil <| ?_
    refine XC.then_ops ?_
    refine XO.op (o_move rfl) <| XO.op (o_len hr4 rfl) <| XO.op (o_gtr rfl rfl rfl) <| XO.op (o_move rfl) <| ?_
    apply XO.sca (j := 5) (g := 61) (d := 66) (hg := rfl)
    · intro hg61
      refine XO.gt rfl <| XO.op (o_move rfl) <| XO.gt rfl <| XO.op (o_ix (i := 0) hr4 rfl rfl (by simp)) <| XO.gt rfl <| XO.op (o_ld (u := sv r0) hr4 rfl (by simp) (by simp) rfl) <| XO.gt rfl <| XO.op (o_eqS rfl rfl) <| XO.op (o_pick_t rfl rfl) <| XO.nil <| ?_
      exact ⟨rfl, rfl, by repeat (first | exact Sb.refl _ | refine Sb.pt ?_ rfl)⟩
    · intro hg61
      refine XO.pass rfl rfl <| XO.pass rfl rfl <| XO.pass rfl rfl <| XO.pass rfl rfl <| XO.op (o_pick_f rfl rfl) <| XO.nil <| ?_
      exact ⟨rfl, rfl, by repeat (first | exact Sb.refl _ | refine Sb.pt ?_ rfl)⟩
    refine XO.op (o_move rfl) <| XO.nil <| ?_
    refine XC.jn (σ := Value) (fun x => [(1, x)]) [(0, .pointer (some ⟨bb, 0, none⟩)), (8, .int .i64 (st.length : Int)), (9, .bool (fins (r0 :: tl)))] (fun x G => G = H4 ∧ strRow G.c x ((body (r0 :: tl)).map bs)) ?_ ?_
    · skip
      refine XC.then_ops ?_
      refine XO.op (o_move rfl) <| XO.nil <| ?_
      refine XC.cond rfl (fun hc67 => ?_) (fun hc67 => ?_)
      · skip
        have hf : fins (r0 :: tl) = true := by rw [← hfin]; exact hc67
        refine XC.ops ?_
        refine XO.op (o_move rfl) <| ?_
        refine XO.cutL (k := 1) (zs := (r0 :: tl).map bs) hr4 rfl rfl (by simp) ?_
        intro v69 h69 _
        refine XO.op (o_move rfl) <| XO.nil <| ?_
        refine join_n _ (Sb.cons rfl (Sb.cons rfl (Sb.cons rfl (Sb.cons (by rw [← hfin]; rfl) (Sb.nil _))))) ⟨rfl, ?_⟩
        unfold body
        rw [if_pos hf]
        exact h69
      · skip
        refine XC.skip ?_
        have hf : fins (r0 :: tl) = false := by rw [← hfin]; exact hc67
        refine join_n _ (Sb.cons rfl (Sb.cons rfl (Sb.cons rfl (Sb.cons (by rw [← hfin]; rfl) (Sb.nil _))))) ⟨rfl, ?_⟩
        unfold body
        rw [hf]
        exact hr4
    · skip
      rintro v1 G ⟨rfl, hr1⟩
      clear hr4
      have hble : (body (r0 :: tl)).length ≤ tl.length + 1 := by unfold body; split <;> simp
      refine XC.then_ops ?_
      refine XO.op (o_move rfl) <| XO.nil <| ?_
      refine XC.then_block ?_
      have hap0 : ∀ p ∈ nvs ++ [(false, Value.slice none 0 0)], inS (fun q => ¬ blockOf (Value.slice none 0 0) = some q) p.2 := fun p hp q hq e => (by cases e)
      have hnew0 : ∀ p ∈ nvs ++ [(false, Value.slice none 0 0)], inS (fun q => H0.c.next ≤ q ∨ ∃ p0 ∈ nvs, blockOf p0.2 = some q) p.2 := fun p hp q hq => by
        rcases List.mem_append.1 hp with hp | hp
        · exact .inr ⟨p, hp, hq⟩
        · rw [List.mem_singleton.1 hp] at hq; cases hq
      have hmem0 : ∀ x ∈ body (r0 :: tl), x.length < f + 1 := fun x hx => hlt x (by
        unfold body at hx
        split at hx
        · exact List.mem_of_mem_tail hx
        · exact hx)
      have hsz0 : (st ++ [(r0 :: tl, nd0)]).length + tot (body (r0 :: tl)) ≤ 900000 := by rw [List.length_append]; simp only [List.length_cons, List.length_nil]; omega
      have hl20 : ([] : List (Int × Nat)).length + (body (r0 :: tl)).length < 1000000 := by simp only [List.length_nil]; omega
      refine XC.lp (σ := List Str × Value × Value × List (Int × Nat) × St × Value × List (Bool × Value)) (fun s => [(1, s.2.1), (10, s.2.2.1)]) [(0, .pointer (some ⟨bb, 0, none⟩)), (8, .int .i64 (st.length : Int)), (9, .bool (fins (r0 :: tl)))] (fun s G => BAt n0 G.c bb gb mb s.2.2.2.2.2.1 s.2.2.2.2.2.2 s.2.2.2.2.1 ∧ ChgN n0 H0.c G.c ∧ strRow G.c s.2.1 (s.1.map bs) ∧ edOw G.c s.2.2.1 s.2.2.2.1 ∧ newIn H0.c s.2.2.1 ∧ (∀ p ∈ s.2.2.2.2.2.2, inS (fun q => ¬ blockOf s.2.2.1 = some q) p.2) ∧ (∀ p ∈ s.2.2.2.2.2.2, inS (fun q => H0.c.next ≤ q ∨ ∃ p0 ∈ nvs, blockOf p0.2 = some q) p.2) ∧ Bd s.1 ∧ (∀ x ∈ s.1, x.length < f + 1) ∧ bldL (bld f) (grs (r0 :: tl)) (st ++ [(r0 :: tl, nd0)]) = (s.2.2.2.1 ++ (bldL (bld f) (groups s.1.length s.1) s.2.2.2.2.1).1, (bldL (bld f) (groups s.1.length s.1) s.2.2.2.2.1).2) ∧ s.2.2.2.2.1.length + tot s.1 ≤ 900000 ∧ s.2.2.2.1.length + s.1.length < 1000000 ∧ Ext (st ++ [(r0 :: tl, nd0)]) s.2.2.2.2.1) (fun s => s.1.length) (body (r0 :: tl), v1, .slice none 0 0, [], st ++ [(r0 :: tl, nd0)], _, _) (Sb.cons rfl (Sb.cons rfl (Sb.cons rfl (Sb.cons rfl (Sb.cons rfl (Sb.nil _)))))) ⟨hb4, g, hr1, Ow.nil, inS_nil, hap0, hnew0, hbd0, hmem0, rfl, hsz0, hl20, Ext.refl _⟩ (by show (body (r0 :: tl)).length < 9223372036854775808; omega) ?_
      clear hb4 g hr1 hap0 hnew0 hmem0 hsz0 hl20
      rintro ⟨rem, v1, ea, es, sc, nvc, nvsc⟩ G ⟨hb4, g, hr1, hea, hen, hap, hnw, hbd, hml, hmod, hsz, hel, hext⟩
      simp only at hb4 g hr1 hea hen hap hnw hbd hml hmod hsz hel hext
      have hnn : st.length < sc.length := by have := hext.len; rw [List.length_append] at this; exact this
      refine XC.assoc ?_
      refine XC.then_ops ?_
      refine XO.op (o_move rfl) <| XO.op (o_len hr1 rfl) <| XO.op (o_gtr rfl rfl rfl) <| XO.nil <| ?_
      refine XC.pushIf rfl (fun hc72 => ?_) (fun hc72 => ?_)
      · skip
        obtain ⟨r1, rl, rfl⟩ := List.exists_cons_of_ne_nil (show rem ≠ [] from fun e => by subst e; simp at hc72)
        obtain ⟨hg1, hg2, hg3, hg4⟩ := grp_ok hbd
        obtain ⟨hv1, hn1⟩ := hbd.val r1 List.mem_cons_self
        obtain ⟨ho1, -, -⟩ := hv1.step hn1
        have hgt := grp_tot fun x hx => (hbd.val x hx).2
        have hr1l : r1.length ≤ tot (r1 :: rl) := by simp [tot]
        obtain ⟨tw, htw⟩ : ∃ tw, tw = (r1 :: rl).takeWhile (isP (hd r1)) := ⟨_, rfl⟩
        have htl : tw = (r1 :: rl).take tw.length := by rw [htw]; exact tw_take _
        have htle : tw.length ≤ rl.length + 1 := by rw [htw]; exact (List.takeWhile_sublist _).length_le
        have hel2 : es.length + rl.length + 1 < 1000000 := by simp only [List.length_cons] at hel; omega
        have hml1 : ((r1 :: rl).map bs).length = rl.length + 1 := by simp
        refine XC.then_skip ?_
        refine XC.block ?_
        refine XC.then_ops ?_
        refine XO.op (o_move rfl) <| XO.op (o_ix (i := 0) hr1 rfl rfl (by simp)) <| XO.op (o_ld (u := sv r1) hr1 rfl (by simp) (by simp) rfl) <| ?_
        refine XO.ca (first_qu (g.wf w0) hn1 hv1 (by omega)) rfl ?_
        rintro v77 H2 ⟨rfl, g1⟩
        replace hr1 := hr1.gr g1
        replace hea := hea.gr g1
        replace hb4 := hb4.gr g1
        replace g := g.tr g1
        refine XO.op (o_move rfl) <| XO.op (o_extract rfl rfl) <| XO.op (o_extract rfl rfl) <| XO.op (o_move rfl) <| XO.op (o_move rfl) <| XO.nil <| ?_
        refine XC.then_ops ?_
        refine XO.op (o_move rfl) <| XO.nil <| ?_
        refine XC.then_ops ?_
        refine XO.op (o_move rfl) <| XO.nil <| ?_
        have gO := g
        have wO := w0
        have wS := g.wf w0
        refine XC.jn (σ := Value) (fun x => [(13, .int .i64 (tw.length : Int)), (14, x)]) [(0, .pointer (some ⟨bb, 0, none⟩)), (1, v1), (8, .int .i64 (st.length : Int)), (9, .bool (fins (r0 :: tl))), (10, ea), (11, .int .i32 ((dec r1).1 : Int)), (12, .int .i64 ((dec r1).2 : Int))] (fun x G' => Gr H2.c G'.c ∧ strOw G'.c x ((tw.map (·.drop (dec r1).2)).map bs) ∧ newIn H2.c x) ?_ ?_
        · skip
          refine XC.block ?_
          have g := Chg.refl (S := fun _ => False) H2.c
          have w0 := wS
          refine XC.lp (σ := Nat × Value) (fun s => [(13, .int .i64 (s.1 : Int)), (14, s.2)]) [(0, .pointer (some ⟨bb, 0, none⟩)), (1, v1), (8, .int .i64 (st.length : Int)), (9, .bool (fins (r0 :: tl))), (10, ea), (11, .int .i32 ((dec r1).1 : Int)), (12, .int .i64 ((dec r1).2 : Int))] (fun s G' => Gr H2.c G'.c ∧ strOw G'.c s.2 (((tw.take s.1).map (·.drop (dec r1).2)).map bs) ∧ newIn H2.c s.2 ∧ s.1 ≤ tw.length) (fun s => tw.length - s.1) (0, .slice none 0 0) (Sb.cons rfl (Sb.cons rfl (Sb.cons rfl (Sb.cons rfl (Sb.cons rfl (Sb.cons rfl (Sb.cons rfl (Sb.cons rfl (Sb.cons rfl (Sb.nil _)))))))))) ⟨g, Ow.nil, inS_nil, Nat.zero_le _⟩ (by show tw.length - 0 < 9223372036854775808; omega) ?_
          clear g
          rintro ⟨k, bv⟩ G2 ⟨g, hbv, hbn, hk⟩
          simp only at hbv hbn hk
          have htk : ∀ (hk2 : k < (r1 :: rl).length), (isP (hd r1) (r1 :: rl)[k] = true ↔ k < tw.length) := fun hk2 => by rw [htw] at hk ⊢; exact tw_at (r1 :: rl) k hk hk2
          refine XC.assoc ?_
          refine XC.then_draw ?_
          refine XD.pure (o_move rfl) <| XD.pure (o_move rfl) <| XD.pure (o_len (hr1.gr g) rfl) <| XD.pure (o_lss rfl rfl rfl) <| XD.pure (o_move rfl) <| ?_
          refine XD.splitd (g := 84) rfl (fun hg84 => ?_) (fun hg84 => ?_)
          · skip
            have hk2 : k < (r1 :: rl).length := by rw [hml1] at hg84; simp only [List.length_cons]; omega
            refine XD.gt rfl <| XD.pure (o_move rfl) <| XD.gt rfl <| XD.pure (o_move rfl) <| XD.gt rfl <| XD.pure (o_ix (hr1.gr g) rfl rfl (by rw [hml1]; simp only [List.length_cons] at hk2; omega)) <| XD.gt rfl <| XD.pure (o_ld (u := sv (r1 :: rl)[k]) (hr1.gr g) rfl (by rw [hml1]; simp only [Option.getD_none, List.length_cons] at hk2 ⊢; omega) (by omega) (by rw [one_cell (by rw [hml1]; simp only [List.length_cons] at hk2; omega), List.getElem_map])) <| ?_
            refine XD.gt rfl <| XD.pure (o_move rfl) <| XD.gt rfl <| XD.pure (o_ix (i := 0) (hr1.gr g) rfl rfl (by simp)) <| XD.gt rfl <| XD.pure (o_ld (u := sv r1) (hr1.gr g) rfl (by simp) (by simp) rfl) <| XD.gt rfl <| XD.pure (o_move rfl) <| XD.gt rfl <| XD.pure (o_cutB (lo := none) (hi := some (dec r1).2) rfl rfl rfl (Nat.zero_le _) ho1.len) <| XD.gt rfl <| ?_
            refine XD.pu (pre_pu _ _) rfl <| XD.pure (o_pick_t rfl rfl) <| XD.nil <| ?_
            refine XC.push rfl (fun hc95 => ?_) (fun hc95 => ?_)
            · skip
              have hkt : k < tw.length := (htk hk2).1 hc95
              have hbvl : (((tw.take k).map (·.drop (dec r1).2)).map bs).length = k := by rw [List.length_map, List.length_map, List.length_take]; omega
              have hle2 : (dec r1).2 ≤ ((r1 :: rl)[k]).length := by have := (List.isPrefixOf_iff_prefix.1 (show (hd r1).isPrefixOf (r1 :: rl)[k] = true from hc95)).length_le; rwa [hd_len hv1 hn1] at this
              refine XC.then_skip ?_
              refine XC.block ?_
              refine XC.then_ops ?_
              refine XO.op (o_move rfl) <| XO.op (o_move rfl) <| XO.op (o_move rfl) <| XO.op (o_ix (hr1.gr g) rfl rfl (by rw [hml1]; simp only [List.length_cons] at hk2; omega)) <| XO.op (o_ld (u := sv (r1 :: rl)[k]) (hr1.gr g) rfl (by rw [hml1]; simp only [Option.getD_none, List.length_cons] at hk2 ⊢; omega) (by omega) (by rw [one_cell (by rw [hml1]; simp only [List.length_cons] at hk2; omega), List.getElem_map])) <| ?_
              refine XO.op (o_move rfl) <| XO.op (o_cutB (lo := some (dec r1).2) (hi := none) rfl rfl rfl hle2 (Nat.le_refl _)) <| ?_
              have lt_hbv := hbv.rw.lt (g.wf w0)
              refine XO.nws (o_buildSlice rfl rfl) (g.wf w0) ?_
              intro b103 H3 n103 g1 a103
              have m103 := n103
              replace n103 := Nat.le_trans g.next n103
              replace hbv := hbv.gr g1
              replace g := g.tr g1
              have lt_hbv := hbv.rw.lt (g.wf w0)
              have lt_a103 := HC.wf.lt (g.wf w0) a103
              refine XO.app (hbv) (Rw.fresh (n := 1) rfl (by decide) a103) rfl rfl (by omega) rfl (by omega) (by omega) (g.wf w0) ?_
              intro b104 H4 n104 g1 a104 o104
              have m104 := n104
              replace n104 := Nat.le_trans g.next n104
              replace g := Chg.th g w0 g1 (fun q hq => .inr (hbn q hq))
              refine XO.op (o_move rfl) <| XO.nil <| ?_
              refine XC.ops ?_
              refine XO.op (o_move rfl) <| XO.op (o_add rfl rfl (w64 (by omega) (by omega))) <| XO.op (o_move rfl) <| XO.nil <| ?_
              refine blk_n ?_
              have htk2 : tw[k] = (r1 :: rl)[k] := by have := List.getElem_of_eq htl hkt; rwa [List.getElem_take] at this
              have htk3 : ((r1 :: rl)[k].drop (dec r1).2).take ((r1 :: rl)[k].length - (dec r1).2) = (r1 :: rl)[k].drop (dec r1).2 := List.take_of_length_le (by rw [List.length_drop]; exact Nat.le_refl _)
              have hst2 : ((tw.take (k + 1)).map (·.drop (dec r1).2)).map bs = ((tw.take k).map (·.drop (dec r1).2)).map bs ++ [bs ((r1 :: rl)[k].drop (dec r1).2)] := by
                rw [List.take_succ_eq_append_getElem hkt, List.map_append, List.map_append, htk2]
                rfl
              exact ⟨(k + 1, _), by show tw.length - (k + 1) < tw.length - k; omega, Sb.cons rfl (Sb.cons rfl (Sb.cons rfl (Sb.cons rfl (Sb.cons rfl (Sb.cons rfl (Sb.cons rfl (Sb.cons rfl (Sb.cons rfl (Sb.nil _))))))))), g, by simp only; rw [hst2]; exact Ow.snoc o104 (by show [sv (((r1 :: rl)[k].drop (dec r1).2).take ((r1 :: rl)[k].length - (dec r1).2))] = _; rw [htk3]), inS_at n104, hkt⟩
            · skip
              refine XC.then_exit ?_
              refine blk_x rfl ?_
              have hkl : tw.length = k := by
                have hc : isP (hd r1) (r1 :: rl)[k] = false := hc95
                by_cases hq : k < tw.length
                · rw [(htk hk2).2 hq] at hc; cases hc
                · omega
              refine join_n _ (Sb.cons (by rw [hkl]; rfl) (Sb.cons rfl (Sb.cons rfl (Sb.cons rfl (Sb.cons rfl (Sb.cons rfl (Sb.cons rfl (Sb.cons rfl (Sb.cons rfl (Sb.nil _)))))))))) ⟨g, ?_, hbn⟩
              rw [List.take_of_length_le (by omega)] at hbv
              exact hbv
          · skip
            refine XD.pass rfl rfl <| XD.pass rfl rfl <| XD.pass rfl rfl <| XD.pass rfl rfl <| XD.pass rfl rfl <| XD.pass rfl rfl <| XD.pass rfl rfl <| XD.pass rfl rfl <| XD.pass rfl rfl <| XD.pass rfl rfl <| XD.pure (o_pick_f rfl rfl) <| XD.nil <| ?_
            refine XC.push_f (rfl) ?_
            refine XC.then_exit ?_
            refine blk_x rfl ?_
            have hkl : tw.length = k := by rw [hml1] at hg84; omega
            refine join_n _ (Sb.cons (by rw [hkl]; rfl) (Sb.cons rfl (Sb.cons rfl (Sb.cons rfl (Sb.cons rfl (Sb.cons rfl (Sb.cons rfl (Sb.cons rfl (Sb.cons rfl (Sb.nil _)))))))))) ⟨g, ?_, hbn⟩
            rw [List.take_of_length_le (by omega)] at hbv
            exact hbv
        · skip
          rintro bv G3 ⟨g1, hbv, hbn⟩
          have g := gO.tr g1
          have w0 := wO
          replace hr1 := hr1.gr g1
          replace hea := hea.gr g1
          replace hb4 := hb4.gr g1
          have hbel : Rs (tw.map (·.drop (dec r1).2)) := by rw [htw]; exact hg1
          have htd : (r1 :: rl).dropWhile (isP (hd r1)) = (r1 :: rl).drop tw.length := by rw [htw]; exact dw_drop _
          have hgl : groups (r1 :: rl).length (r1 :: rl) = (((dec r1).1 : Int), tw.map (·.drop (dec r1).2)) :: groups ((r1 :: rl).drop tw.length).length ((r1 :: rl).drop tw.length) := by
            rw [List.length_cons, groups, htd, ← htw]
            congr 1
            have : 1 ≤ tw.length := by rw [htw, List.takeWhile_cons, if_pos hd_isP]; simp
            exact groups_fuel _ _ _ (by rw [List.length_drop, List.length_cons]; omega) (Nat.le_refl _)
          rw [← htw, htd] at hgt
          rw [htd] at hg2
          rw [← htw] at hg4
          have htw1 : 1 ≤ tw.length := by rw [htw, List.takeWhile_cons, if_pos hd_isP]; simp
          have hblt : ∀ x ∈ tw.map (·.drop (dec r1).2), x.length < f := fun x hx => by obtain ⟨y, hy, hxy⟩ := hg4 x hx; have := hml y hy; omega
          have hG : H0.c.next ≤ G3.c.next := g.next
          have heal : inS (· < G3.c.next) ea := hea.rw.lt (g.wf w0)
          refine XC.then_ops ?_
          refine XO.op (o_move rfl) <| XO.op (o_move rfl) <| ?_
          refine XO.cutL (k := tw.length) (zs := (r1 :: rl).map bs) hr1 rfl rfl (by rw [hml1]; exact htle) ?_
          intro v109 h109 _
          rw [← List.map_drop] at h109
          refine XO.op (o_move rfl) <| XO.nil <| ?_
          refine XC.ops ?_
          refine XO.op (o_move rfl) <| XO.op (o_move rfl) <| XO.op (o_move rfl) <| XO.op (o_move rfl) <| ?_
          refine XO.ca (ih (g.wf w0) hb4 hbv.rw hbel hblt (by rw [List.length_map]; omega) (by omega) (Nat.le_trans hnx g.next)) rfl ?_
          rintro v114 H5 ⟨rfl, nv2, nvs2, hb5, g2, hnw2⟩
          have h109b := Rw.chgN h109 g2 (by decide)
          have hea1 := Ow.chgN hea g2 (by decide)
          have hapb : ∀ p ∈ nvs2, inS (fun q => ¬ blockOf ea = some q) p.2 := fun p hp q hq e => by
            rcases hnw2 p hp q hq with h1 | ⟨p0, h1, h2⟩
            · have := heal q e; omega
            · exact hap p0 h1 q h2 e
          have hnwb : ∀ p ∈ nvs2, inS (fun q => H0.c.next ≤ q ∨ ∃ p0 ∈ nvs, blockOf p0.2 = some q) p.2 := fun p hp q hq => by
            rcases hnw2 p hp q hq with h1 | ⟨p0, h1, h2⟩
            · exact .inl (Nat.le_trans hG h1)
            · exact hnw p0 h1 q h2
          replace g := ChgN.trans' g g2
          have hbl := bld_len f (tw.map (·.drop (dec r1).2)) sc hbel
          have hbx := bld_ext f (tw.map (·.drop (dec r1).2)) sc
          refine XO.op (o_build rfl rfl) <| ?_
          have lt_h109b := h109b.lt (g.wf w0)
          have lt_hea1 := hea1.rw.lt (g.wf w0)
          refine XO.nws (o_buildSlice rfl rfl) (g.wf w0) ?_
          intro b116 H6 n116 g1 a116
          have m116 := n116
          replace n116 := Nat.le_trans g.next n116
          replace hb5 := hb5.gr g1
          replace h109b := h109b.gr g1
          replace hea1 := hea1.gr g1
          replace g := g.tr g1
          have helt := hb5.elt (g.wf w0)
          have lt_h109b := h109b.lt (g.wf w0)
          have lt_hea1 := hea1.rw.lt (g.wf w0)
          have lt_a116 := HC.wf.lt (g.wf w0) a116
          refine XO.app (hea1) (Rw.fresh (n := 1) rfl (by decide) a116) rfl rfl (by omega) rfl (by omega) (by omega) (g.wf w0) ?_
          intro b117 H7 n117 g1 a117 o117
          have m117 := n117
          replace n117 := Nat.le_trans g.next n117
          have hb6 := hb5.own hea1.rw (by decide) hapb g1
          have h109c := h109b.chg g1 (h109b.apart hea1.rw (show 9 ≠ 116 by decide))
          replace g := Chg.th g w0 g1 (fun q hq => .inr (hen q hq))
          have hap2 : ∀ p ∈ nvs2, inS (fun q => ¬ blockOf (.slice (some ⟨b117, 0, none⟩) (es.length + 1) U) = some q) p.2 := fun p hp q hq e => by
            cases e
            have h1 : b117 < _ := helt p hp _ hq
            omega
          refine XO.op (o_move rfl) <| XO.nil <| ?_
          refine blk_n ?_
          exact ⟨((r1 :: rl).drop tw.length, v109, _, es ++ [(((dec r1).1 : Int), (bld f (tw.map (·.drop (dec r1).2)) sc).1)], (bld f (tw.map (·.drop (dec r1).2)) sc).2, nv2, nvs2), by show ((r1 :: rl).drop tw.length).length < (r1 :: rl).length; rw [List.length_drop, List.length_cons]; omega, Sb.cons rfl (Sb.cons rfl (Sb.cons rfl (Sb.cons rfl (Sb.cons rfl (Sb.nil _))))), hb6, g, h109c, Ow.snocF o117 rfl, inS_at n117, hap2, hnwb, hg2, fun x hx => hml x (List.mem_of_mem_drop hx), by rw [hmod, hgl, bldL_step]; simp only [List.append_assoc, List.cons_append, List.nil_append], by simp only; omega, by simp only [List.length_append, List.length_drop, List.length_cons, List.length_nil]; omega, hext.trans hbx⟩
      · skip
        have hrem : rem = [] := by
          rw [List.length_map] at hc72
          exact List.length_eq_zero_iff.1 (by omega)
        subst hrem
        obtain ⟨eaA, eaC, hea0⟩ := hea.rw.sl
        have hmod2 : bldL (bld f) (grs (r0 :: tl)) (st ++ [(r0 :: tl, nd0)]) = (es, sc) := by rw [hmod]; simp [groups, bldL]
        have hsame : (sc[st.length]).1 = r0 :: tl := by rw [hext.same st.length (by simp) hnn, List.getElem_append_right (Nat.le_refl _)]; simp
        refine XC.then_exit ?_
        refine blk_x rfl ?_
        refine then_n ?_
        refine XC.then_ops ?_
        refine XO.op (o_move rfl) <| XO.op (o_nilCheck rfl) <| XO.op (o_fieldAddr rfl) <| XO.op (o_get rfl hb4.b rfl) <| XO.op (o_nilCheck rfl) <| XO.op (o_fieldAddr rfl) <| XO.op (o_get rfl hb4.g rfl) <| XO.op (o_move rfl) <| XO.op (o_move rfl) <| XO.op (o_move rfl) <| XO.op (o_build (cs := [.bool (fins (r0 :: tl)), ea]) rfl (by rw [hea0]; rfl)) <| XO.op (o_ix (i := st.length) hb4.n.rw rfl rfl hnn) <| ?_
        refine XO.stR hb4.n (by omega) rfl rfl rfl (by show ([Value.bool (fins (r0 :: tl)), ea]).all scalar = true; rw [hea0]; rfl) (flat_splice (enc := ndCs) ndCs_len nvsc st.length (fins (r0 :: tl), ea) (by rw [hb4.l]; exact hnn)) (by rw [flatLen ndCs_len, flatLen ndCs_len, List.length_set]) ?_
        intro H9 c9 o9
        have hb9 := hb4.put hnn hsame ⟨fins (r0 :: tl), es⟩ hea.rw c9 o9
        replace g := Chg.th g w0 c9 (fun q hq => .inl ⟨hb4.nn q hq, by obtain ⟨own, ds, hd⟩ := hb4.n.rw.blk hq; exact ChgN.ty g hd (.inl rfl)⟩)
        refine XO.nil <| ?_
        refine XC.then_ops ?_
        refine XO.op (o_move rfl) <| XO.op (o_move rfl) <| XO.nil <| ?_
        refine XC.ret ?_
        refine ⟨_, rfl, ?_⟩
        refine ⟨by rw [hbld]; rfl, nvc, _, by rw [hbld, hmod2]; exact hb9, g, fun p hp q hq => ?_⟩
        rcases List.mem_or_eq_of_mem_set hp with hp | hp
        · exact hnw p hp q hq
        · rw [hp] at hq; exact .inl (hen q hq)
end
end Go.Proofs.Ytffokmamcempgaa.P
