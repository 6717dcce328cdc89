/- Two graphs compared (package graph), by our machine's rules. -/
import Derived.Test.YtffokmamcempgaaMade
import Derived.Test.YtffokmamcempgaaEdge
namespace Go.Proofs.Ytffokmamcempgaa.P
open Go Go.RowKit Go.Proofs.Ytffokmamcempgaa.AM
set_option linter.unusedVariables false
set_option linter.unusedSimpArgs false
set_option maxRecDepth 100000
theorem bool_ne (b : Bool) : oBin Try.prog .neq 4 false (.bool b) (.bool b) = some (.bool false) := by cases b <;> kernel_rfl
section
variable {n : Nat} {C : HC}
theorem like_rn (w0 : C.wf) {ga gb : Nat} {nds : List Nd} (hG : Graphs C ga nds) (hK : Graphs C gb nds) : Qu (cf (n + 1)) 81 [.pointer (some ⟨ga, 0, none⟩), .pointer (some ⟨gb, 0, none⟩)] C (.bool true) := by
  obtain ⟨nv, nvs, hG⟩ := hG
  obtain ⟨mv, mvs, hK⟩ := hK
  have hlsm := hG.sm
  refine Rn.enter rfl rfl rfl fun H0 hH => ?_
  subst hH
  have g := Chg.refl (S := fun _ => False) H0.c
  refine XC.then_ops ?_
  refine XO.op (o_move rfl) <| XO.nil <| ?_
  refine XC.assoc ?_
  refine XC.then_draw ?_
  refine XD.pure (o_move rfl) <| XD.pure (o_nilCheck rfl) <| XD.pure (o_fieldAddr rfl) <| XD.pure (o_get rfl (hG.gr g).g rfl) <| XD.pure (o_len (hG.gr g).n rfl) <| XD.pure (o_move rfl) <| XD.pure (o_nilCheck rfl) <| XD.pure (o_fieldAddr rfl) <| XD.pure (o_get rfl (hK.gr g).g rfl) <| XD.pure (o_len (hK.gr g).n rfl) <| XD.pure (o_neq (q := false) rfl rfl (by simp)) <| ?_
  refine XD.nil <| ?_
  refine XC.push_f (rfl) ?_
  refine XC.then_skip ?_
  refine XC.assoc ?_
  refine XC.then_ops ?_
  refine XO.op (o_move rfl) <| XO.op (o_nilCheck rfl) <| XO.op (o_fieldAddr rfl) <| XO.op (o_get rfl (hG.gr g).g rfl) <| XO.op (o_len (hG.gr g).n rfl) <| XO.op (o_move rfl) <| XO.nil <| ?_
  refine XC.then_block ?_
  refine XC.lp (σ := Nat) (fun i => [(26, .int .i64 (i : Int))]) [(24, nv), (25, .int .i64 (nds.length : Int)), (0, .pointer (some ⟨ga, 0, none⟩)), (1, .pointer (some ⟨gb, 0, none⟩))] (fun i G => Gr H0.c G.c ∧ i ≤ nds.length) (fun i => nds.length - i) 0 (Sb.cons rfl (Sb.cons rfl (Sb.cons rfl (Sb.cons rfl (Sb.cons rfl (Sb.nil _)))))) ⟨g, Nat.zero_le _⟩ (by show nds.length - 0 < 9223372036854775808; omega) ?_
  clear g
  rintro i G ⟨g, hil⟩
  refine XC.then_ops ?_
  refine XO.op (o_lss rfl rfl rfl) <| XO.nil <| ?_
  refine XC.pushIf rfl (fun hc27 => ?_) (fun hc27 => ?_)
  · skip
    have hi : i < nds.length := by omega
    have hi2 : i < nvs.length := by rw [hG.l]; exact hi
    have hi3 : i < mvs.length := by rw [hK.l]; exact hi
    obtain ⟨hfe, hed⟩ := hG.e i hi2 hi
    obtain ⟨hfe2, hed2⟩ := hK.e i hi3 hi
    have hesm := hG.es _ (List.getElem_mem hi)
    obtain ⟨p, q, hpq⟩ := hed.sl
    obtain ⟨p2, q2, hpq2⟩ := hed2.sl
    have hsc : (cellL (.agg ⟨ndCs nvs[i]⟩)).all scalar = true := by
      show ([Value.bool nvs[i].1, nvs[i].2]).all scalar = true
      rw [hpq]
      rfl
    have hsc2 : (cellL (.agg ⟨ndCs mvs[i]⟩)).all scalar = true := by
      show ([Value.bool mvs[i].1, mvs[i].2]).all scalar = true
      rw [hpq2]
      rfl
    generalize hE : nds[i].es = es at hed hed2 hesm
    refine XC.then_skip ?_
    refine XC.then_block ?_
    refine XC.then_ops ?_
    refine XO.op (o_move rfl) <| XO.op (o_ix (hG.gr g).n rfl rfl hi) <| XO.op (o_ld (hG.gr g).n rfl (by show i * 2 + 2 ≤ _; omega) (by omega) (flat_part ndCs_len hi2)) <| ?_
    refine XO.nwp (o_new) (g.wf w0) ?_
    intro b6 H1 n6 g1 a6
    have m6 := n6
    replace n6 := Nat.le_trans g.next n6
    replace g := g.tr g1
    refine XO.op (o_move rfl) <| ?_
    refine XO.up (o_set rfl rfl a6 rfl hsc rfl) (a6) ?_
    intro H2 g1 us1
    replace g := Chg.th g w0 g1 (fun q hq => .inr (hq ▸ n6))
    replace a6 := us1
    clear us1
    refine XO.nil <| ?_
    refine XC.then_ops ?_
    refine XO.op (o_move rfl) <| XO.op (o_nilCheck rfl) <| XO.op (o_fieldAddr rfl) <| XO.op (o_get rfl (hK.gr g).g rfl) <| XO.op (o_move rfl) <| XO.op (o_ix (hK.gr g).n rfl rfl hi) <| XO.op (o_ld (hK.gr g).n rfl (by show i * 2 + 2 ≤ _; omega) (by omega) (flat_part ndCs_len hi3)) <| ?_
    have lt_a6 := HC.wf.lt (g.wf w0) a6
    refine XO.nwp (o_new) (g.wf w0) ?_
    intro b7 H3 n7 g1 a7
    have m7 := n7
    replace n7 := Nat.le_trans g.next n7
    replace a6 := Gr.at g1 a6
    replace g := g.tr g1
    refine XO.up (o_set rfl rfl a7 rfl hsc2 rfl) (a7) ?_
    intro H4 g1 us2
    replace a6 := Chg.at g1 a6 (by show ¬ _ = _; omega)
    replace g := Chg.th g w0 g1 (fun q hq => .inr (hq ▸ n7))
    replace a7 := us2
    clear us2
    refine XO.nil <| ?_
    refine XC.assoc ?_
    refine XC.then_ops ?_
    refine XO.op (o_fieldAddr rfl) <| XO.op (o_get (v := .bool nvs[i].1) rfl a6 rfl) <| XO.op (o_fieldAddr rfl) <| XO.op (o_get (v := .bool nvs[i].1) rfl a7 (by rw [hfe, ← hfe2]; rfl)) <| XO.op (o_bin rfl rfl (bool_ne _)) <| XO.op (o_move rfl) <| ?_
    apply XO.sco (j := 8) (g := 43) (d := 51) (hg := rfl)
    · intro hg43
      refine XO.gt rfl <| XO.op (o_fieldAddr rfl) <| XO.gt rfl <| XO.op (o_get (v := nvs[i].2) rfl a6 rfl) <| XO.gt rfl <| XO.op (o_len (hed.gr g) rfl) <| XO.gt rfl <| XO.op (o_fieldAddr rfl) <| XO.gt rfl <| XO.op (o_get (v := mvs[i].2) rfl a7 rfl) <| XO.gt rfl <| XO.op (o_len (hed2.gr g) rfl) <| XO.gt rfl <| XO.op (o_neq (q := false) rfl rfl (by simp)) <| XO.op (o_pick_f rfl rfl) <| ?_
      refine XO.nil <| ?_
      exact ⟨rfl, rfl, by repeat (first | exact Sb.refl _ | refine Sb.pt ?_ rfl)⟩
    · intro hg43
      refine XO.pass rfl rfl <| XO.pass rfl rfl <| XO.pass rfl rfl <| XO.pass rfl rfl <| XO.pass rfl rfl <| XO.pass rfl rfl <| XO.pass rfl rfl <| XO.op (o_pick_t rfl rfl) <| XO.nil <| ?_
      exact ⟨rfl, rfl, by repeat (first | exact Sb.refl _ | refine Sb.pt ?_ rfl)⟩
    refine XO.nil <| ?_
    refine XC.push_f (rfl) ?_
    refine XC.then_skip ?_
    refine XC.then_ops ?_
    refine XO.op (o_fieldAddr rfl) <| XO.op (o_get (v := nvs[i].2) rfl a6 rfl) <| XO.op (o_len (hed.gr g) rfl) <| XO.op (o_move rfl) <| XO.nil <| ?_
    refine XC.block ?_
    refine XC.lp (σ := Nat) (fun k => [(55, .int .i64 (k : Int))]) [(53, nvs[i].2), (54, .int .i64 (es.length : Int)), (7, .pointer (some ⟨b7, 0, none⟩)), (24, nv), (25, .int .i64 (nds.length : Int)), (26, .int .i64 (i : Int)), (0, .pointer (some ⟨ga, 0, none⟩)), (1, .pointer (some ⟨gb, 0, none⟩))] (fun k G => Gr H0.c G.c ∧ G.c.get b7 = some (.cells true 121 (ndCs mvs[i])) ∧ k ≤ es.length) (fun k => es.length - k) 0 (Sb.cons rfl (Sb.cons rfl (Sb.cons rfl (Sb.cons rfl (Sb.cons rfl (Sb.cons rfl (Sb.cons rfl (Sb.cons rfl (Sb.cons rfl (Sb.nil _)))))))))) ⟨g, a7, Nat.zero_le _⟩ (by show es.length - 0 < 9223372036854775808; omega) ?_
    clear g a7 a6
    rintro k G ⟨g, a7, hk⟩
    refine XC.then_ops ?_
    refine XO.op (o_lss rfl rfl rfl) <| XO.nil <| ?_
    refine XC.pushIf rfl (fun hc56 => ?_) (fun hc56 => ?_)
    · skip
      have hk2 : k < es.length := by omega
      refine XC.then_skip ?_
      refine XC.then_block ?_
      refine XC.then_ops ?_
      refine XO.op (o_move rfl) <| XO.op (o_ix (hed.gr g) rfl rfl hk2) <| XO.op (o_ld (hed.gr g) rfl (by show k * 2 + 2 ≤ _; omega) (by omega) (flat_part edCs_len hk2)) <| ?_
      have lt_a7 := HC.wf.lt (g.wf w0) a7
      refine XO.nwp (o_new) (g.wf w0) ?_
      intro b9 H5 n9 g1 a9
      have m9 := n9
      replace n9 := Nat.le_trans g.next n9
      replace a7 := Gr.at g1 a7
      replace g := g.tr g1
      refine XO.op (o_move rfl) <| ?_
      refine XO.up (o_set rfl rfl a9 rfl rfl rfl) (a9) ?_
      intro H6 g1 us3
      replace a7 := Chg.at g1 a7 (by show ¬ _ = _; omega)
      replace g := Chg.th g w0 g1 (fun q hq => .inr (hq ▸ n9))
      replace a9 := us3
      clear us3
      refine XO.nil <| ?_
      refine XC.then_draw ?_
      refine XD.pure (o_get (v := .agg ⟨edCs es[k]⟩) rfl a9 rfl) <| XD.pure (o_fieldAddr rfl) <| XD.pure (o_get (v := mvs[i].2) rfl a7 rfl) <| XD.pure (o_move rfl) <| XD.pure (o_ix (hed2.gr g) rfl rfl hk2) <| XD.pure (o_ld (hed2.gr g) rfl (by show k * 2 + 2 ≤ _; omega) (by omega) (flat_part edCs_len hk2)) <| XD.pure (o_bin rfl rfl (edge_ne _ _)) <| ?_
      refine XD.nil <| ?_
      refine XC.cond_f (rfl) ?_
      refine XC.skip ?_
      refine blk_n ?_
      refine then_n ?_
      refine XC.ops ?_
      refine XO.op (o_add rfl rfl (w64 (by omega) (by omega))) <| XO.op (o_move rfl) <| XO.nil <| ?_
      exact ⟨k + 1, by show es.length - (k + 1) < es.length - k; omega, Sb.cons rfl (Sb.cons rfl (Sb.cons rfl (Sb.cons rfl (Sb.cons rfl (Sb.cons rfl (Sb.cons rfl (Sb.cons rfl (Sb.cons rfl (Sb.nil _))))))))), g, a7, hk2⟩
    · skip
      refine XC.then_exit ?_
      refine blk_x rfl ?_
      refine blk_n ?_
      refine then_n ?_
      refine XC.ops ?_
      refine XO.op (o_add rfl rfl (w64 (by omega) (by omega))) <| XO.op (o_move rfl) <| XO.nil <| ?_
      exact ⟨i + 1, by show nds.length - (i + 1) < nds.length - i; omega, Sb.cons rfl (Sb.cons rfl (Sb.cons rfl (Sb.cons rfl (Sb.cons rfl (Sb.nil _))))), g, hi⟩
  · skip
    refine XC.then_exit ?_
    refine blk_x rfl ?_
    refine then_n ?_
    refine XC.then_ops ?_
    refine XO.op (o_move rfl) <| XO.nil <| ?_
    refine XC.ret ?_
    refine ⟨_, rfl, ?_⟩
    exact ⟨rfl, g⟩
end
end Go.Proofs.Ytffokmamcempgaa.P
