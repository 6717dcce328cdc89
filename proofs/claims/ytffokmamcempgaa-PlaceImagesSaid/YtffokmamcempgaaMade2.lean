/- Graphs made of nodes (package graph), by our machine's rules. -/
import Derived.Test.YtffokmamcempgaaLike
namespace Go.Proofs.Ytffokmamcempgaa.P
open Go Go.RowKit Go.Proofs.Ytffokmamcempgaa.AM
set_option linter.unusedVariables false
set_option linter.unusedSimpArgs false
set_option maxRecDepth 100000
/-- What a graph must be to be made again. -/
structure Sound (ls : List Str) (rk : Nat → Nat) (f : Nat) : Prop where
  ok : wordsOk (ls.map bs) = 0
  tot : tot ls ≤ 100000
  falls : ¬ ((buildN ls).length = 1 ∧ (ndAt (buildN ls) 0).es = []) → Falls (buildN ls) rk
  to1 : ∀ nd ∈ buildN ls, ∀ e ∈ nd.es, 1 ≤ e.2 ∧ e.2 < (buildN ls).length
  pos : 0 < (buildN ls).length
  len : (buildN ls).length ≤ 721
  rk : rk 0 ≤ 12
  deep : Deep f (buildN ls) 0
  deep13 : f ≤ 13
  each : eachL f (buildN ls) 0 [] = ls
  few : ls.length ≤ 60
section
variable {n : Nat} {C : HC}
theorem made_rn (w0 : C.wf) {v : Value} {ls : List Str} {rk : Nat → Nat} {f : Nat} {nvs : List (Bool × Value)} (hs : Sound ls rk f) (hn : Rw C 97 2 v (buildN ls).length (nvs.map ndCs).flatten) (hl : nvs.length = (buildN ls).length)
    (he : ∀ (i : Nat) (h : i < nvs.length) (h2 : i < (buildN ls).length), nvs[i].1 = (buildN ls)[i].fin ∧ edRow C nvs[i].2 (buildN ls)[i].es) (hsm : ∀ nd ∈ buildN ls, nd.es.length < 1000000) :
    Rn (cf (n + 100050)) 60 [v] C fun u D => ∃ gb, u = .pointer (some ⟨gb, 0, none⟩) ∧ Graphs D gb (buildN ls) ∧ Gr C D := by
  have hW : ∀ {C : HC} (w0 : C.wf) {gb : Nat} {nv : Value} {nvs : List (Bool × Value)} (hG : GAt C gb nv nvs (buildN ls)), Qu (cf (n + 100049)) 79 [.pointer (some ⟨gb, 0, none⟩)] C (.bool true) := @fun C w0 gb nv nvs hG => by
    rw [show n + 100049 = (n + 100034) + 13 + 2 by omega]
    exact whole_rn (f := 13) w0 hG hs.falls hs.pos (by have := hs.rk; omega) hs.rk
  have hS : ∀ {C : HC} (w0 : C.wf) {gb : Nat} {nv : Value} {nvs : List (Bool × Value)} (hG : GAt C gb nv nvs (buildN ls)), Rn (cf (n + 100049)) 80 [.pointer (some ⟨gb, 0, none⟩)] C fun u D => ∃ v, u = .tuple #[v, .bool true] ∧ strOw D v (ls.map bs) ∧ newIn C v ∧ Gr C D := @fun C w0 gb nv nvs hG => by
    rw [show n + 100049 = (n + 100047 - f) + f + 2 by have := hs.deep13; omega]
    have h := some_rn (n := n + 100047 - f) w0 hG hs.deep hs.deep13 (by rw [hs.each]; exact hs.few)
    rw [hs.each] at h
    exact h
  have hB : ∀ {C : HC} (w0 : C.wf) {v : Value} (hr : strRow C v (ls.map bs)), Rn (cf (n + 100049)) 65 [v] C fun u D => ∃ gb, u = .tuple #[.pointer (some ⟨gb, 0, none⟩), .int .i64 0] ∧ Graphs D gb (buildN ls) ∧ Gr C D := @fun C w0 v hr => by
    rw [show n + 100049 = (n + 100044 - tot ls) + (tot ls + 1) + 4 by have := hs.tot; omega]
    exact build_rn w0 hr hs.ok hs.tot
  have ht1 := hs.to1
  have hlen := hs.len
  have hpos := hs.pos
  generalize hN : buildN ls = nds at *
  refine Rn.enter rfl rfl rfl fun H0 hH => ?_
  subst hH
  have g := Chg.refl (S := fun _ => False) H0.c
  have hroom : room = 70368744177664 := rfl
  refine XC.then_ops ?_
  refine XO.op (o_move rfl) <| XO.nil <| ?_
  refine XC.then_ops ?_
  refine XO.op (o_build rfl rfl) <| ?_
  refine XO.nwp (o_box rfl) (g.wf w0) ?_
  intro b13 H1 n13 g1 a13
  have m13 := n13
  replace n13 := Nat.le_trans g.next n13
  replace g := g.tr g1
  refine XO.op (o_move rfl) <| XO.nil <| ?_
  refine XC.assoc ?_
  refine XC.then_ops ?_
  refine XO.op (o_move rfl) <| XO.op (o_len (hn.gr g) rfl) <| XO.op (o_move rfl) <| XO.nil <| ?_
  refine XC.then_block ?_
  refine XC.lp (σ := Nat × Value) (fun z => [(16, .int .i64 (z.1 : Int))]) [(14, v), (15, .int .i64 (nds.length : Int)), (0, v), (3, .pointer (some ⟨b13, 0, none⟩))] (fun z G => Gr H0.c G.c ∧ G.c.get b13 = some (.cells true 119 [z.2]) ∧ Ow G.c 121 2 z.2 z.1 ((nvs.take z.1).map ndCs).flatten ∧ newIn H0.c z.2 ∧ z.1 ≤ nds.length) (fun z => nds.length - z.1) (0, .slice none 0 0) (Sb.cons rfl (Sb.cons rfl (Sb.cons rfl (Sb.cons rfl (Sb.cons rfl (Sb.nil _)))))) ⟨g, a13, Ow.nil, inS_nil, Nat.zero_le _⟩ (by show nds.length - 0 < 9223372036854775808; omega) ?_
  clear g a13
  rintro ⟨i, lv⟩ G ⟨g, a13, ho, hon, hil⟩
  simp only at a13 ho hon hil
  refine XC.then_ops ?_
  refine XO.op (o_lss rfl rfl rfl) <| XO.nil <| ?_
  refine XC.pushIf rfl (fun hc17 => ?_) (fun hc17 => ?_)
  · skip
    have hi : i < nds.length := by omega
    have hi2 : i < nvs.length := by rw [hl]; exact hi
    obtain ⟨hfe, hed⟩ := he i hi2 hi
    have hesm := hsm _ (List.getElem_mem hi)
    have hto := ht1 _ (List.getElem_mem hi)
    obtain ⟨p, q, hpq⟩ := hed.sl
    have hsc : (cellL (.agg ⟨ndCs nvs[i]⟩)).all scalar = true := by
      show ([Value.bool nvs[i].1, nvs[i].2]).all scalar = true
      rw [hpq]
      rfl
    have hsc' : (ndCs nvs[i]).all scalar = true := by
      show ([Value.bool nvs[i].1, nvs[i].2]).all scalar = true
      rw [hpq]
      rfl
    generalize hE : nds[i].es = es at hed hesm hto
    refine XC.then_skip ?_
    refine XC.then_block ?_
    refine XC.then_ops ?_
    refine XO.op (o_ix (hn.gr g) rfl rfl hi) <| XO.op (o_ld (hn.gr g) rfl (by show i * 2 + 2 ≤ _; omega) (by omega) (flat_part ndCs_len hi2)) <| ?_
    have lt_a13 := HC.wf.lt (g.wf w0) a13
    have lt_ho := ho.rw.lt (g.wf w0)
    refine XO.nwp (o_new) (g.wf w0) ?_
    intro b5 H2 n5 g1 a5
    have m5 := n5
    replace n5 := Nat.le_trans g.next n5
    replace a13 := Gr.at g1 a13
    replace ho := ho.gr g1
    replace g := g.tr g1
    refine XO.up (o_set rfl rfl a5 rfl hsc rfl) (a5) ?_
    intro H3 g1 us1
    replace a13 := Chg.at g1 a13 (by show ¬ _ = _; omega)
    replace ho := ho.chg g1 (fun b hb => by have := lt_ho b hb; show ¬ _ = _; omega)
    replace g := Chg.th g w0 g1 (fun q hq => .inr (hq ▸ n5))
    replace a5 := us1
    clear us1
    refine XO.nil <| ?_
    refine XC.assoc ?_
    refine XC.then_ops ?_
    refine XO.op (o_fieldAddr rfl) <| XO.op (o_get (v := nvs[i].2) rfl a5 rfl) <| XO.op (o_len (hed.gr g) rfl) <| XO.op (o_move rfl) <| XO.nil <| ?_
    refine XC.then_block ?_
    refine XC.lp (σ := Nat) (fun k => [(23, .int .i64 (k : Int))]) [(21, nvs[i].2), (22, .int .i64 (es.length : Int)), (5, .pointer (some ⟨b5, 0, none⟩)), (14, v), (15, .int .i64 (nds.length : Int)), (16, .int .i64 (i : Int)), (0, v), (3, .pointer (some ⟨b13, 0, none⟩))] (fun k G => Gr H0.c G.c ∧ G.c.get b13 = some (.cells true 119 [lv]) ∧ Ow G.c 121 2 lv i ((nvs.take i).map ndCs).flatten ∧ G.c.get b5 = some (.cells true 97 (ndCs nvs[i])) ∧ k ≤ es.length) (fun k => es.length - k) 0 (Sb.cons rfl (Sb.cons rfl (Sb.cons rfl (Sb.cons rfl (Sb.cons rfl (Sb.cons rfl (Sb.cons rfl (Sb.cons rfl (Sb.cons rfl (Sb.nil _)))))))))) ⟨g, a13, ho, a5, Nat.zero_le _⟩ (by show es.length - 0 < 9223372036854775808; omega) ?_
    clear g a13 a5 ho
    rintro k G ⟨g, a13, ho, a5, hk⟩
    refine XC.then_ops ?_
    refine XO.op (o_lss rfl rfl rfl) <| XO.nil <| ?_
    refine XC.pushIf rfl (fun hc24 => ?_) (fun hc24 => ?_)
    · skip
      have hk2 : k < es.length := by omega
      obtain ⟨hto1, hto2⟩ := hto _ (List.getElem_mem hk2)
      refine XC.then_skip ?_
      refine XC.then_block ?_
      refine XC.then_ops ?_
      refine XO.op (o_ix (hed.gr g) rfl rfl hk2) <| XO.op (o_ld (hed.gr g) rfl (by show k * 2 + 2 ≤ _; omega) (by omega) (flat_part edCs_len hk2)) <| ?_
      have lt_a13 := HC.wf.lt (g.wf w0) a13
      have lt_ho := ho.rw.lt (g.wf w0)
      have lt_a5 := HC.wf.lt (g.wf w0) a5
      refine XO.nwp (o_new) (g.wf w0) ?_
      intro b7 H4 n7 g1 a7
      have m7 := n7
      replace n7 := Nat.le_trans g.next n7
      replace a13 := Gr.at g1 a13
      replace ho := ho.gr g1
      replace a5 := Gr.at g1 a5
      replace g := g.tr g1
      refine XO.up (o_set rfl rfl a7 rfl rfl rfl) (a7) ?_
      intro H5 g1 us2
      replace a13 := Chg.at g1 a13 (by show ¬ _ = _; omega)
      replace ho := ho.chg g1 (fun b hb => by have := lt_ho b hb; show ¬ _ = _; omega)
      replace a5 := Chg.at g1 a5 (by show ¬ _ = _; omega)
      replace g := Chg.th g w0 g1 (fun q hq => .inr (hq ▸ n7))
      replace a7 := us2
      clear us2
      refine XO.nil <| ?_
      refine XC.then_ops ?_
      refine XO.op (o_fieldAddr rfl) <| XO.op (o_get (v := .int .i64 (es[k].2 : Int)) rfl a7 rfl) <| XO.op (o_lss (q := false) rfl rfl (decide_eq_false (by omega))) <| XO.op (o_move rfl) <| ?_
      apply XO.sco (j := 6) (g := 30) (d := 36) (hg := rfl)
      · intro hg30
        refine XO.gt rfl <| XO.op (o_fieldAddr rfl) <| XO.gt rfl <| XO.op (o_get (v := .int .i64 (es[k].2 : Int)) rfl a7 rfl) <| XO.gt rfl <| XO.op (o_move rfl) <| XO.gt rfl <| XO.op (o_len (hn.gr g) rfl) <| XO.gt rfl <| XO.op (o_geq (q := false) rfl rfl (decide_eq_false (by omega))) <| XO.op (o_pick_f rfl rfl) <| XO.nil <| ?_
        exact ⟨rfl, rfl, by repeat (first | exact Sb.refl _ | refine Sb.pt ?_ rfl)⟩
      · intro hg30
        refine XO.pass rfl rfl <| XO.pass rfl rfl <| XO.pass rfl rfl <| XO.pass rfl rfl <| XO.pass rfl rfl <| XO.op (o_pick_t rfl rfl) <| XO.nil <| ?_
        exact ⟨rfl, rfl, by repeat (first | exact Sb.refl _ | refine Sb.pt ?_ rfl)⟩
      refine XO.nil <| ?_
      refine XC.cond_f (rfl) ?_
      refine XC.skip ?_
      refine blk_n ?_
      refine then_n ?_
      refine XC.ops ?_
      refine XO.op (o_add rfl rfl (w64 (by omega) (by omega))) <| XO.op (o_move rfl) <| XO.nil <| ?_
      exact ⟨k + 1, by show es.length - (k + 1) < es.length - k; omega, Sb.cons rfl (Sb.cons rfl (Sb.cons rfl (Sb.cons rfl (Sb.cons rfl (Sb.cons rfl (Sb.cons rfl (Sb.cons rfl (Sb.cons rfl (Sb.nil _))))))))), g, a13, ho, a5, hk2⟩
    · skip
      refine XC.then_exit ?_
      refine blk_x rfl ?_
      refine then_n ?_
      refine XC.draw ?_
      refine XD.pure (o_move rfl) <| XD.pure (o_move rfl) <| XD.pure (o_nilCheck rfl) <| XD.pure (o_fieldAddr rfl) <| ?_
      refine XD.ldFp rfl a13 rfl ?_
      refine XD.pure (o_fieldAddr rfl) <| XD.pure (o_get (v := .bool nvs[i].1) rfl a5 rfl) <| XD.pure (o_fieldAddr rfl) <| XD.pure (o_get (v := nvs[i].2) rfl a5 rfl) <| XD.pure (o_build (cs := ndCs nvs[i]) rfl (by show fillV [Value.bool false, Value.slice none 0 0] [(0, 1, .bool nvs[i].1), (1, 1, nvs[i].2)] = some [.bool nvs[i].1, nvs[i].2]; rw [hpq]; rfl)) <| ?_
      have lt_a13 := HC.wf.lt (g.wf w0) a13
      have lt_ho := ho.rw.lt (g.wf w0)
      have lt_a5 := HC.wf.lt (g.wf w0) a5
      refine XD.nwsFp (o_buildSlice rfl rfl) rfl (g.wf w0) ?_
      intro b48 H6 n48 g1 a48
      have m48 := n48
      replace n48 := Nat.le_trans g.next n48
      replace a13 := Gr.at g1 a13
      replace ho := ho.gr g1
      replace a5 := Gr.at g1 a5
      replace g := g.tr g1
      have lt13 := HC.wf.lt (g.wf w0) a13
      have hne13 := ho.rw.ne a13 (fun own ds e => by cases e)
      have hne5 := ho.rw.ne a5 (fun own ds e => by cases e)
      refine XD.app ho (Rw.fresh (n := 1) rfl (by decide) a48) rfl rfl (by omega) hsc' (by omega) (by omega) (g.wf w0) ?_
      intro b49 H7 n49 g1 a49 o49
      have m49 := n49
      replace n49 := Nat.le_trans g.next n49
      replace a13 := g1.at a13 (fun q => hne13 _ q rfl)
      replace a5 := g1.at a5 (fun q => hne5 _ q rfl)
      replace g := Chg.th g w0 g1 (fun q hq => .inr (hon q hq))
      have o9 : Ow H7.c 121 2 (.slice (some ⟨b49, 0, none⟩) (i + 1) U) (i + 1) ((nvs.take (i + 1)).map ndCs).flatten := by
        rw [List.take_succ_eq_append_getElem hi2, List.map_append, List.flatten_append, List.map_cons, List.map_nil, List.flatten_cons, List.flatten_nil, List.append_nil]
        exact o49
      clear o49 a49 ho
      refine XD.pure (o_nilCheck rfl) <| XD.pure (o_fieldAddr rfl) <| ?_
      refine XD.up (o_set rfl rfl a13 rfl rfl rfl) (a13) ?_
      intro H7 g1 us3
      replace a5 := Chg.at g1 a5 (by show ¬ _ = _; omega)
      replace g := Chg.th g w0 g1 (fun q hq => .inr (hq ▸ n13))
      replace a13 := us3
      clear us3
      have o9 := o9.chg g1 (inS_at (by show ¬ b49 = b13; omega))
      refine XD.nil <| ?_
      refine blk_n ?_
      refine then_n ?_
      refine XC.ops ?_
      refine XO.op (o_add rfl rfl (w64 (by omega) (by omega))) <| XO.op (o_move rfl) <| XO.nil <| ?_
      exact ⟨(i + 1, _), by show nds.length - (i + 1) < nds.length - i; omega, Sb.cons rfl (Sb.cons rfl (Sb.cons rfl (Sb.cons rfl (Sb.cons rfl (Sb.nil _))))), g, a13, o9, inS_at n49, hi⟩
  · skip
    have hall : nvs.take i = nvs := List.take_of_length_le (by omega)
    have hil2 : i = nds.length := by omega
    rw [hall, hil2] at ho
    have hG : GAt G.c b13 lv nvs nds := ⟨a13, ho.rw, hl, fun i a b => ⟨(he i a b).1, (he i a b).2.gr g⟩, by omega, hsm⟩
    clear ho a13
    refine XC.then_exit ?_
    refine blk_x rfl ?_
    refine then_n ?_
    refine XC.assoc ?_
    refine XC.then_ops ?_
    refine XO.op (o_move rfl) <| XO.op (o_len (hn.gr g) rfl) <| XO.op (o_eql (q := false) rfl rfl (by rw [beq_eq_false_iff_ne]; omega)) <| XO.op (o_move rfl) <| ?_
    apply XO.sco (j := 4) (g := 56) (d := 60) (hg := rfl)
    · intro hg56
      refine XO.gt rfl <| XO.op (o_move rfl) <| XO.gt rfl <| XO.op (o_len (hn.gr g) rfl) <| XO.gt rfl <| XO.op (o_gtr (q := false) rfl rfl (decide_eq_false (by omega))) <| XO.op (o_pick_f rfl rfl) <| XO.nil <| ?_
      exact ⟨rfl, rfl, by repeat (first | exact Sb.refl _ | refine Sb.pt ?_ rfl)⟩
    · intro hg56
      refine XO.pass rfl rfl <| XO.pass rfl rfl <| XO.pass rfl rfl <| XO.op (o_pick_t rfl rfl) <| XO.nil <| ?_
      exact ⟨rfl, rfl, by repeat (first | exact Sb.refl _ | refine Sb.pt ?_ rfl)⟩
    refine XO.op (o_move rfl) <| XO.gt rfl <| XO.op (o_move rfl) <| XO.gt rfl <| ?_
    refine XO.ca (hW (g.wf w0) hG) rfl ?_
    rintro v63 H8 ⟨rfl, g1⟩
    replace hG := hG.gr g1
    replace g := g.tr g1
    refine XO.gt rfl <| XO.op (o_not rfl) <| XO.op (o_pick_f rfl rfl) <| XO.nil <| ?_
    refine XC.push_f (rfl) ?_
    refine XC.then_skip ?_
    refine XC.then_ops ?_
    refine XO.op (o_move rfl) <| ?_
    refine XO.ca (hS (g.wf w0) hG) rfl ?_
    rintro v68 H9 ⟨wv, rfl, hw, hwn, g1⟩
    have gp := g
    replace hG := hG.gr g1
    replace g := g.tr g1
    refine XO.op (o_move rfl) <| XO.op (o_extract rfl rfl) <| XO.op (o_extract rfl rfl) <| XO.op (o_move rfl) <| XO.op (o_move rfl) <| XO.nil <| ?_
    refine XC.assoc ?_
    refine XC.then_ops ?_
    refine XO.op (o_move rfl) <| XO.op (o_not rfl) <| XO.nil <| ?_
    refine XC.push_f (rfl) ?_
    refine XC.then_skip ?_
    refine XC.then_ops ?_
    refine XO.op (o_move rfl) <| ?_
    refine XO.ca (hB (g.wf w0) hw.rw) rfl ?_
    rintro v75 H10 ⟨gb, rfl, hK, g1⟩
    have gp := g
    replace hG := hG.gr g1
    replace g := g.tr g1
    refine XO.op (o_move rfl) <| XO.op (o_extract rfl rfl) <| XO.op (o_extract rfl rfl) <| XO.op (o_move rfl) <| XO.op (o_move rfl) <| XO.nil <| ?_
    refine XC.assoc ?_
    refine XC.then_ops ?_
    refine XO.op (o_move rfl) <| XO.op (o_ne rfl rfl) <| XO.op (o_move rfl) <| XO.gt rfl <| XO.op (o_move rfl) <| XO.gt rfl <| XO.op (o_move rfl) <| XO.gt rfl <| ?_
    refine XO.ca (like_rn (g.wf w0) hK ⟨lv, nvs, hG⟩) rfl ?_
    rintro v83 H11 ⟨rfl, g1⟩
    replace hG := hG.gr g1
    replace hK := hK.gr g1
    replace g := g.tr g1
    refine XO.gt rfl <| XO.op (o_not rfl) <| XO.op (o_pick_f rfl rfl) <| XO.nil <| ?_
    refine XC.push_f (rfl) ?_
    refine XC.then_skip ?_
    refine XC.then_ops ?_
    refine XO.op (o_move rfl) <| XO.op (o_move rfl) <| XO.nil <| ?_
    refine XC.ret ?_
    refine ⟨_, rfl, ?_⟩
    exact ⟨gb, rfl, hK, g⟩
end
end Go.Proofs.Ytffokmamcempgaa.P
