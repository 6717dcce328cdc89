/- Graphs that nodes tell (package graph): does each way end; by our machine's rules. -/
import Derived.Test.YtffokmamcempgaaGraph6
namespace Go.Proofs.Ytffokmamcempgaa.P
open Go Go.RowKit Go.Proofs.Ytffokmamcempgaa.AM
set_option linter.unusedVariables false
set_option linter.unusedSimpArgs false
set_option maxRecDepth 100000
/-- Ways fall by ranks. -/
structure Falls (nds : List Nd) (rk : Nat → Nat) : Prop where
  es : ∀ i, i < nds.length → ∀ e ∈ (ndAt nds i).es, e.2 < nds.length ∧ rk e.2 < rk i
  ne : ∀ i, i < nds.length → (ndAt nds i).fin = true ∨ (ndAt nds i).es ≠ []
abbrev IT : List Nat := [3]
section
variable {n : Nat}
theorem whole1_rn : ∀ (f : Nat) {C : HC} {n0 gx sx fx gb i d : Nat} {nv tv : Value} {nvs : List (Bool × Value)} {nds : List Nd} {rk : Nat → Nat} {s : List Int}, C.wf → GAt C gb nv nvs nds → Falls nds rk → C.get gx = some (.cells true 59 [.pointer (some ⟨gb, 0, none⟩)]) → C.get sx = some (.cells true 28 [tv]) →
    C.get fx = some (.cells true 143 [.func (.func 97) #[] #[.pointer (some ⟨gx, 0, none⟩), .pointer (some ⟨sx, 0, none⟩), .pointer (some ⟨fx, 0, none⟩)]]) → Fw C 3 1 tv s.length (s.map (Value.int .i64)) → inS (n0 ≤ ·) tv → s.length = nds.length → i < nds.length → rk i < f → d + rk i ≤ 12 → (∀ m (h : m < s.length), s[m] = 1 → rk i < rk m) →
    Rn (cf (n + f + 1)) 97 [.int .i64 (i : Int), .int .i64 (d : Int), .pointer (some ⟨gx, 0, none⟩), .pointer (some ⟨sx, 0, none⟩), .pointer (some ⟨fx, 0, none⟩)] C fun v D => v = .bool true ∧ ∃ s' : List Int, Fw D 3 1 tv s.length (s'.map (Value.int .i64)) ∧ s'.length = s.length ∧ (∀ m (h : m < s.length) (h' : m < s'.length), s'[m] = 1 → s[m] = 1) ∧ ChgT IT n0 C D
  | 0, C, n0, gx, sx, fx, gb, i, d, nv, tv, nvs, nds, rk, s, w0, hG, hF, hgx, hsx, hfx, hs, hn, hsl, hi, hr, hd, hu => absurd hr (Nat.not_lt_zero _)
  | f + 1, C, n0, gx, sx, fx, gb, i, d, nv, tv, nvs, nds, rk, s, w0, hG, hF, hgx, hsx, hfx, hs, hn, hsl, hi, hr, hd, hu => by
    have ih := @whole1_rn f
    have hi2 : i < nvs.length := by rw [hG.l]; exact hi
    have his : i < s.length := by omega
    obtain ⟨hfe, hed⟩ := hG.e i hi2 hi
    have hnd := ndAt_eq hi
    have hesm := hG.es _ (List.getElem_mem hi)
    have hlsm := hG.sm
    obtain ⟨p, q, hpq⟩ := hed.sl
    have hsc : (cellL (.agg ⟨ndCs nvs[i]⟩)).all scalar = true := by
      show ([Value.bool nvs[i].1, nvs[i].2]).all scalar = true
      rw [hpq]
      rfl
    have hfes := hF.es i hi
    have hfne := hF.ne i hi
    rw [hnd] at hfes hfne
    generalize hE : nds[i].es = es at hed hesm hfes hfne
    generalize hFi : nds[i].fin = fi at hfe hfne
    have hml : (s.map (Value.int .i64)).length = s.length := List.length_map ..
    refine Rn.enter rfl rfl rfl fun H0 hH => ?_
    subst hH
    have g := Chg.refl (S := ST IT n0 H0.c) H0.c
    have hsT : ∀ q, blockOf tv = some q → ST IT n0 H0.c q := fun q hq => ⟨hn q hq, fun B hB => by obtain ⟨own, ds, hd⟩ := hs.rw.blk hq; rw [hd] at hB; cases hB; exact List.mem_cons_self⟩
    have hs0 := hs
    have hbt := g
    refine XC.then_ops ?_
    refine XO.op (o_move rfl) <| XO.nil <| ?_
    refine XC.then_ops ?_
    refine XO.op (o_get rfl (ChgT.atc g hgx (by decide)) rfl) <| XO.op (o_nilCheck rfl) <| XO.op (o_fieldAddr rfl) <| XO.op (o_get rfl (hG.chgT g (by decide) (by decide) (by decide)).g rfl) <| XO.op (o_move rfl) <| XO.op (o_ix hG.n rfl rfl hi) <| XO.op (o_ld hG.n rfl (by show i * 2 + 2 ≤ _; omega) (by omega) (flat_part ndCs_len hi2)) <| ?_
    have lt_hs := hs.rw.lt (g.wf w0)
    refine XO.nwp (o_new) (g.wf w0) ?_
    intro b8 H1 n8 g1 a8
    have m8 := n8
    replace n8 := Nat.le_trans g.next n8
    replace hs := hs.gr g1
    replace g := g.tr g1
    refine XO.up (o_set rfl rfl a8 rfl hsc rfl) (a8) ?_
    intro H2 g1 us1
    replace hs := hs.chg g1 (fun b hb => by have := lt_hs b hb; show ¬ _ = _; omega)
    replace g := Chg.th g w0 g1 (fun q hq => .inr (hq ▸ n8))
    replace a8 := us1
    clear us1
    refine XO.nil <| ?_
    refine XC.assoc ?_
    refine XC.then_ops ?_
    refine XO.op (o_get rfl (ChgT.atc g hsx (by decide)) rfl) <| XO.op (o_move rfl) <| XO.op (o_ix (i := i) hs.rw rfl rfl (by omega)) <| XO.op (o_ld (u := .int .i64 s[i]) hs.rw rfl (by simp only [Option.getD_none]; omega) (by omega) (by rw [one_cell (by omega)])) <| XO.op (o_eq rfl rfl) <| XO.nil <| ?_
    refine XC.pushIf rfl (fun hc22 => ?_) (fun hc22 => ?_)
    · skip
      refine XC.assoc ?_
      refine XC.then_ops ?_
      refine XO.op (o_move rfl) <| XO.nil <| ?_
      refine XC.then_ret ?_
      refine ⟨_, rfl, ?_⟩
      exact ⟨rfl, s, hs, rfl, fun m h h' e => e, g⟩
    · skip
      have hne1 : ¬ s[i] = 1 := fun e => Nat.lt_irrefl _ (hu i his e)
      refine XC.then_skip ?_
      refine XC.assoc ?_
      refine XC.then_ops ?_
      refine XO.op (o_get rfl (ChgT.atc g hsx (by decide)) rfl) <| XO.op (o_move rfl) <| XO.op (o_ix (i := i) hs.rw rfl rfl (by omega)) <| XO.op (o_ld (u := .int .i64 s[i]) hs.rw rfl (by simp only [Option.getD_none]; omega) (by omega) (by rw [one_cell (by omega)])) <| XO.op (o_eq rfl rfl) <| XO.op (o_move rfl) <| ?_
      apply XO.sco (j := 3) (g := 28) (d := 31) (hg := rfl)
      · intro hg28
        refine XO.gt rfl <| XO.op (o_move rfl) <| XO.gt rfl <| XO.op (o_gtr rfl rfl rfl) <| XO.op (o_pick_f rfl rfl) <| XO.nil <| ?_
        exact ⟨rfl, rfl, by repeat (first | exact Sb.refl _ | refine Sb.pt ?_ rfl)⟩
      · intro hg28
        refine XO.pass rfl rfl <| XO.pass rfl rfl <| XO.op (o_pick_t rfl rfl) <| XO.nil <| ?_
        exact ⟨rfl, rfl, by repeat (first | exact Sb.refl _ | refine Sb.pt ?_ rfl)⟩
      refine XO.op (o_move rfl) <| ?_
      apply XO.sco (j := 10) (g := 32) (d := 42) (b := false) (hg := rfl)
      · intro hg32
        refine XO.gt rfl <| XO.op (o_fieldAddr rfl) <| XO.gt rfl <| XO.op (o_get (v := .bool fi) rfl a8 (by rw [← hfe]; rfl)) <| XO.gt rfl <| XO.op (o_not rfl) <| XO.gt rfl <| XO.op (o_move rfl) <| ?_
        refine XO.split (g := 36) rfl (fun hg36 => ?_) (fun hg36 => ?_)
        · skip
          refine XO.gt rfl <| XO.op (o_fieldAddr rfl) <| XO.gt rfl <| XO.op (o_get (v := nvs[i].2) rfl a8 rfl) <| XO.gt rfl <| XO.op (o_len (ChgT.rw g hed (by decide)) rfl) <| XO.gt rfl <| XO.op (o_eql (q := false) rfl rfl (by
  have hfi : fi = false := by simpa using hg36
  rcases hfne with h | h
  · rw [hfi] at h; cases h
  · have := List.length_pos_iff.2 h
    rw [beq_eq_false_iff_ne]
    omega)) <| ?_
          refine XO.gt rfl <| XO.op (o_pick_t rfl rfl) <| XO.op (o_pick_f rfl rfl) <| XO.nil <| ?_
          exact ⟨rfl, rfl, by repeat (first | exact Sb.refl _ | refine Sb.pt ?_ rfl)⟩
        · skip
          refine XO.pass rfl rfl <| XO.pass rfl rfl <| XO.pass rfl rfl <| XO.pass rfl rfl <| XO.gt rfl <| XO.op (o_pick_f rfl rfl) <| XO.op (o_pick_f rfl rfl) <| XO.nil <| ?_
          exact ⟨rfl, rfl, by repeat (first | exact Sb.refl _ | refine Sb.pt ?_ rfl)⟩
      · intro hg32
        refine XO.pass rfl rfl <| XO.pass rfl rfl <| XO.pass rfl rfl <| XO.pass rfl rfl <| XO.passU rfl <| XO.passU rfl <| XO.passU rfl <| XO.passU rfl <| XO.pass rfl rfl <| XO.op (o_pick_t rfl rfl) <| XO.nil <| ?_
        exact ⟨rfl, rfl, by repeat (first | exact Sb.refl _ | refine Sb.pt ?_ rfl)⟩
      refine XO.nil <| ?_
      refine XC.push_f ((by show some (Value.bool ((decide (s[i] = 1) || decide (12 < (d : Int))) || false)) = some (.bool false); rw [decide_eq_false hne1, decide_eq_false (by omega)]; rfl)) ?_
      refine XC.then_skip ?_
      refine XC.then_ops ?_
      refine XO.op (o_get rfl (ChgT.atc g hsx (by decide)) rfl) <| XO.op (o_move rfl) <| XO.op (o_ix (i := i) hs.rw rfl rfl (by omega)) <| ?_
      refine XO.stF hs rfl rfl rfl rfl (one_splice (by omega)) (by simp) ?_
      intro H5 g5 hs1
      rw [← List.map_set] at hs1
      have a8' := g5.at a8 (fun q => hs.rw.ne a8 (fun own ds e => by cases e) _ q rfl)
      replace g := Chg.th g w0 g5 (fun q hq => .inl (hsT q hq))
      refine XO.nil <| ?_
      refine XC.assoc ?_
      refine XC.then_ops ?_
      refine XO.op (o_fieldAddr rfl) <| XO.op (o_get (v := nvs[i].2) rfl a8' rfl) <| XO.op (o_len (ChgT.rw g hed (by decide)) rfl) <| XO.op (o_move rfl) <| XO.nil <| ?_
      refine XC.then_block ?_
      refine XC.lp (σ := Nat × List Int) (fun z => [(49, .int .i64 (z.1 : Int))]) [(47, nvs[i].2), (48, .int .i64 (es.length : Int)), (0, .int .i64 (i : Int)), (1, .int .i64 (d : Int)), (3, .pointer (some ⟨sx, 0, none⟩)), (4, .pointer (some ⟨fx, 0, none⟩))] (fun z G => Fw G.c 3 1 tv s.length (z.2.map (Value.int .i64)) ∧ z.2.length = s.length ∧ (∀ m (h : m < s.length) (h' : m < z.2.length), z.2[m] = 1 → s[m] = 1 ∨ m = i) ∧ ChgT IT n0 H0.c G.c ∧ z.1 ≤ es.length) (fun z => es.length - z.1) (0, s.set i 1) (Sb.cons rfl (Sb.cons rfl (Sb.cons rfl (Sb.cons rfl (Sb.cons rfl (Sb.cons rfl (Sb.cons rfl (Sb.nil _)))))))) ⟨hs1, List.length_set .., fun m h h' e => by
        by_cases hm : m = i
        · exact .inr hm
        · rw [List.getElem_set_ne (fun q => hm q.symm)] at e; exact .inl e, g, Nat.zero_le _⟩ (by show es.length - 0 < 9223372036854775808; omega) ?_
      clear hs1 a8' g5 a8 hs
      clear g
      rintro ⟨k, s2⟩ G ⟨hs, hsl2, hs2, g, hk⟩
      simp only at hs hsl2 hs2 hk
      have hml2 : (s2.map (Value.int .i64)).length = s2.length := List.length_map ..
      refine XC.then_ops ?_
      refine XO.op (o_lss rfl rfl rfl) <| XO.nil <| ?_
      refine XC.pushIf rfl (fun hc50 => ?_) (fun hc50 => ?_)
      · skip
        have hk2 : k < es.length := by omega
        obtain ⟨he1, he2⟩ := hfes _ (List.getElem_mem hk2)
        refine XC.then_skip ?_
        refine XC.then_block ?_
        refine XC.then_ops ?_
        refine XO.op (o_ix (ChgT.rw g hed (by decide)) rfl rfl hk2) <| XO.op (o_ld (ChgT.rw g hed (by decide)) rfl (by show k * 2 + 2 ≤ _; omega) (by omega) (flat_part edCs_len hk2)) <| ?_
        have lt_hs := hs.rw.lt (g.wf w0)
        refine XO.nwp (o_new) (g.wf w0) ?_
        intro b10 H3 n10 g1 a10
        have m10 := n10
        replace n10 := Nat.le_trans g.next n10
        replace hs := hs.gr g1
        replace g := g.tr g1
        refine XO.up (o_set rfl rfl a10 rfl rfl rfl) (a10) ?_
        intro H4 g1 us3
        replace hs := hs.chg g1 (fun b hb => by have := lt_hs b hb; show ¬ _ = _; omega)
        replace g := Chg.th g w0 g1 (fun q hq => .inr (hq ▸ n10))
        replace a10 := us3
        clear us3
        refine XO.nil <| ?_
        refine XC.then_ops ?_
        refine XO.op (o_get rfl (ChgT.atc g hfx (by decide)) rfl) <| XO.op (o_fieldAddr rfl) <| XO.op (o_get rfl a10 rfl) <| XO.op (o_move rfl) <| XO.op (o_add (r := ((d + 1 : Nat) : Int)) rfl rfl (by rw [w64 (by omega) (by omega)]; omega)) <| ?_
        refine XO.cv (ih (s := s2) (g.wf w0) (hG.chgT g (by decide) (by decide) (by decide)) hF (ChgT.atc g hgx (by decide)) (ChgT.atc g hsx (by decide)) (ChgT.atc g hfx (by decide)) (by rw [hsl2]; exact hs) hn (by omega) he1 (by omega) (by omega) (fun m h e => by rcases hs2 m (by omega) h e with h1 | rfl; (exact Nat.lt_trans he2 (hu m (by omega) h1)); exact he2)) rfl rfl ?_
        rintro v58 H5 ⟨rfl, s3, hs3, hsl3, hsu3, g2⟩
        replace g := ChgT.trans' g g2
        refine XO.op (o_not rfl) <| XO.nil <| ?_
        refine XC.cond_f (rfl) ?_
        refine XC.skip ?_
        refine blk_n ?_
        refine then_n ?_
        refine XC.ops ?_
        refine XO.op (o_add rfl rfl (w64 (by omega) (by omega))) <| XO.op (o_move rfl) <| XO.nil <| ?_
        exact ⟨(k + 1, s3), by show es.length - (k + 1) < es.length - k; omega, Sb.cons rfl (Sb.cons rfl (Sb.cons rfl (Sb.cons rfl (Sb.cons rfl (Sb.cons rfl (Sb.cons rfl (Sb.nil _))))))), by rw [hsl2] at hs3; exact hs3, by show s3.length = s.length; omega, fun m h h' e => hs2 m h (by omega) (hsu3 m (by omega) h' e), g, hk2⟩
      · skip
        refine XC.then_exit ?_
        refine blk_x rfl ?_
        refine then_n ?_
        refine XC.then_ops ?_
        refine XO.op (o_get rfl (ChgT.atc g hsx (by decide)) rfl) <| XO.op (o_move rfl) <| XO.op (o_ix (i := i) hs.rw rfl rfl (by omega)) <| ?_
        refine XO.stF hs rfl rfl rfl rfl (one_splice (by omega)) (by simp) ?_
        intro H5 g5 hs1
        rw [← List.map_set] at hs1
        replace g := Chg.th g w0 g5 (fun q hq => .inl (hsT q hq))
        refine XO.nil <| ?_
        refine XC.then_ops ?_
        refine XO.op (o_move rfl) <| XO.nil <| ?_
        refine XC.ret ?_
        refine ⟨_, rfl, ?_⟩
        exact ⟨rfl, s2.set i 2, hs1, by rw [List.length_set]; exact hsl2, fun m h h' e => by
          rw [List.length_set] at h'
          by_cases hm : m = i
          · subst hm; rw [List.getElem_set_self] at e; cases e
          · rw [List.getElem_set_ne (fun q => hm q.symm)] at e
            rcases hs2 m h h' e with h1 | h1
            · exact h1
            · exact (hm h1).elim, g⟩
theorem repl_flat (k : Nat) : (List.replicate k [Value.int .i64 0]).flatten = (List.replicate k (0 : Int)).map (Value.int .i64) := by
  induction k with
  | zero => rfl
  | succ k ih => rw [List.replicate_succ, List.replicate_succ, List.flatten_cons, ih, List.map_cons]; rfl
theorem whole_rn {C : HC} (w0 : C.wf) {f gb : Nat} {nv : Value} {nvs : List (Bool × Value)} {nds : List Nd} {rk : Nat → Nat} (hG : GAt C gb nv nvs nds) (hF : ¬ (nds.length = 1 ∧ (ndAt nds 0).es = []) → Falls nds rk) (h0 : 0 < nds.length) (hr : rk 0 < f) (hr12 : rk 0 ≤ 12) : Qu (cf (n + f + 2)) 79 [.pointer (some ⟨gb, 0, none⟩)] C (.bool true) := by
  have hi2 : 0 < nvs.length := by rw [hG.l]; exact h0
  obtain ⟨hfe, hed⟩ := hG.e 0 hi2 h0
  have hlsm := hG.sm
  refine Rn.enter rfl rfl rfl fun H0 hH => ?_
  subst hH
  have g := Chg.refl (S := fun _ => False) H0.c
  have hroom : room = 70368744177664 := rfl
  refine XC.then_ops ?_
  refine XO.nwp (o_box rfl) (g.wf w0) ?_
  intro b1 H1 n1 g1 a1
  have m1 := n1
  replace n1 := Nat.le_trans g.next n1
  replace g := g.tr g1
  refine XO.op (o_move rfl) <| XO.nil <| ?_
  refine XC.then_ops ?_
  refine XO.op (o_get rfl a1 rfl) <| XO.op (o_nilCheck rfl) <| XO.op (o_fieldAddr rfl) <| XO.op (o_get rfl (hG.gr g).g rfl) <| XO.op (o_len (hG.gr g).n rfl) <| ?_
  have lt_a1 := HC.wf.lt (g.wf w0) a1
  refine XO.nws (o_makeSlice rfl rfl (Nat.le_refl _) (by omega) (by omega)) (g.wf w0) ?_
  intro b10 H2 n10 g1 a10
  have m10 := n10
  replace n10 := Nat.le_trans g.next n10
  replace a1 := Gr.at g1 a1
  replace g := g.tr g1
  have lt_a1 := HC.wf.lt (g.wf w0) a1
  have lt_a10 := HC.wf.lt (g.wf w0) a10
  refine XO.nwp (o_new) (g.wf w0) ?_
  intro b3 H3 n3 g1 a3
  have m3 := n3
  replace n3 := Nat.le_trans g.next n3
  replace a1 := Gr.at g1 a1
  replace a10 := Gr.at g1 a10
  replace g := g.tr g1
  refine XO.up (o_set rfl rfl a3 rfl rfl rfl) (a3) ?_
  intro H4 g1 us1
  replace a1 := Chg.at g1 a1 (by show ¬ _ = _; omega)
  replace a10 := Chg.at g1 a10 (by show ¬ _ = _; omega)
  replace g := Chg.th g w0 g1 (fun q hq => .inr (hq ▸ n3))
  replace a3 := us1
  clear us1
  refine XO.nil <| ?_
  refine XC.then_ops ?_
  have lt_a1 := HC.wf.lt (g.wf w0) a1
  have lt_a10 := HC.wf.lt (g.wf w0) a10
  have lt_a3 := HC.wf.lt (g.wf w0) a3
  refine XO.nwp (o_new) (g.wf w0) ?_
  intro b4 H5 n4 g1 a4
  have m4 := n4
  replace n4 := Nat.le_trans g.next n4
  replace a1 := Gr.at g1 a1
  replace a10 := Gr.at g1 a10
  replace a3 := Gr.at g1 a3
  replace g := g.tr g1
  refine XO.nil <| ?_
  refine XC.then_ops ?_
  refine XO.op (o_func rfl rfl) <| ?_
  refine XO.up (o_set rfl rfl a4 rfl rfl rfl) (a4) ?_
  intro H6 g1 us2
  replace a1 := Chg.at g1 a1 (by show ¬ _ = _; omega)
  replace a10 := Chg.at g1 a10 (by show ¬ _ = _; omega)
  replace a3 := Chg.at g1 a3 (by show ¬ _ = _; omega)
  replace g := Chg.th g w0 g1 (fun q hq => .inr (hq ▸ n4))
  replace a4 := us2
  clear us2
  refine XO.nil <| ?_
  refine XC.then_ops ?_
  refine XO.op (o_get rfl a1 rfl) <| XO.op (o_nilCheck rfl) <| XO.op (o_fieldAddr rfl) <| XO.op (o_get rfl (hG.gr g).g rfl) <| XO.op (o_len (hG.gr g).n rfl) <| XO.op (o_eq rfl rfl) <| XO.op (o_move rfl) <| ?_
  apply XO.sca (j := 10) (g := 18) (d := 28) (hg := rfl)
  · intro hg18
    refine XO.gt rfl <| XO.op (o_get rfl a1 rfl) <| XO.gt rfl <| XO.op (o_nilCheck rfl) <| XO.gt rfl <| XO.op (o_fieldAddr rfl) <| XO.gt rfl <| XO.op (o_get rfl (hG.gr g).g rfl) <| XO.gt rfl <| XO.op (o_ix (i := 0) (hG.gr g).n rfl rfl h0) <| XO.gt rfl <| XO.op (o_ixf (hG.gr g).n h0 rfl) <| XO.gt rfl <| XO.op (o_ld (u := nvs[0].2) (hG.gr g).n rfl (by simp only [Option.getD_none]; omega) h0 (by rw [flat_cell (enc := ndCs) ndCs_len hi2 (by decide)]; rfl)) <| ?_
    refine XO.gt rfl <| XO.op (o_len (hed.gr g) rfl) <| XO.gt rfl <| XO.op (o_eq rfl rfl) <| XO.op (o_pick_t rfl rfl) <| XO.nil <| ?_
    exact ⟨rfl, rfl, by repeat (first | exact Sb.refl _ | refine Sb.pt ?_ rfl)⟩
  · intro hg18
    refine XO.pass rfl rfl <| XO.pass rfl rfl <| XO.pass rfl rfl <| XO.pass rfl rfl <| XO.pass rfl rfl <| XO.pass rfl rfl <| XO.pass rfl rfl <| XO.pass rfl rfl <| XO.pass rfl rfl <| XO.op (o_pick_f rfl rfl) <| XO.nil <| ?_
    exact ⟨rfl, rfl, by repeat (first | exact Sb.refl _ | refine Sb.pt ?_ rfl)⟩
  refine XO.op (o_move rfl) <| ?_
  refine XO.split (g := 29) rfl (fun hg29 => ?_) (fun hg29 => ?_)
  · skip
    refine XO.pass rfl rfl <| XO.pass rfl rfl <| XO.op (o_pick_t rfl rfl) <| XO.op (o_move rfl) <| XO.nil <| ?_
    refine XC.ret ?_
    refine ⟨_, rfl, ?_⟩
    exact ⟨rfl, g⟩
  · skip
    refine XO.gt rfl <| XO.op (o_get rfl a4 rfl) <| XO.gt rfl <| ?_
    refine XO.cv (whole1_rn (n := n) f (n0 := H0.c.next) (s := List.replicate nds.length 0) (g.wf w0) (hG.gr g) (hF fun q => by rw [ndAt_eq h0] at q; rw [q.1, q.2] at hg29; cases hg29) a1 a3 a4 ⟨b10, by rw [List.length_replicate], by rw [← repl_flat]; exact a10, by simp⟩ (inS_at n10) (by simp) h0 hr (d := 0) (by omega) (fun m h e => by rw [List.getElem_replicate] at e; cases e)) rfl rfl ?_
    rintro v31 H7 ⟨rfl, s', hs', hsl', hsu', g2⟩
    replace g := Chg.th g w0 g2 (fun q hq => .inr hq.1)
    refine XO.op (o_pick_f rfl rfl) <| XO.op (o_move rfl) <| XO.nil <| ?_
    refine XC.ret ?_
    refine ⟨_, rfl, ?_⟩
    exact ⟨rfl, g⟩
/-! the words, if they are not too many -/
theorem some1_rn : ∀ (f : Nat) {C : HC} {n0 ox lx gx fx gb i d : Nat} {nv lv : Value} {nvs : List (Bool × Value)} {nds : List Nd} {acc : List ByteArray} {a : Str}, C.wf → GAt C gb nv nvs nds → C.get ox = some (.cells true 4 [.bool true]) → C.get lx = some (.cells true 22 [lv]) → C.get gx = some (.cells true 59 [.pointer (some ⟨gb, 0, none⟩)]) →
    C.get fx = some (.cells true 144 [.func (.func 98) #[] #[.pointer (some ⟨ox, 0, none⟩), .pointer (some ⟨lx, 0, none⟩), .pointer (some ⟨gx, 0, none⟩), .pointer (some ⟨fx, 0, none⟩)]]) → strOw C lv acc → n0 ≤ lx → inS (n0 ≤ ·) lv → n0 ≤ C.next → Deep f nds i → d + f ≤ 13 → a.length + 4 * f < 1000000 → acc.length + (eachL f nds i a).length ≤ 60 →
    Rn (cf (n + f + 1)) 98 [.int .i64 (i : Int), sv a, .int .i64 (d : Int), .pointer (some ⟨ox, 0, none⟩), .pointer (some ⟨lx, 0, none⟩), .pointer (some ⟨gx, 0, none⟩), .pointer (some ⟨fx, 0, none⟩)] C fun v D => ∃ lv', D.get lx = some (.cells true 22 [lv']) ∧ strOw D lv' (acc ++ (eachL f nds i a).map bs) ∧ ChgT WT n0 C D ∧ inS (n0 ≤ ·) lv'
  | 0, C, n0, ox, lx, gx, fx, gb, i, d, nv, lv, nvs, nds, acc, a, w0, hG, hox, hp, hgx, hfx, hl, hn, hln, hnx, hd, hdf, hal, hacc => hd.elim
  | f + 1, C, n0, ox, lx, gx, fx, gb, i, d, nv, lv, nvs, nds, acc, a, w0, hG, hox, hp, hgx, hfx, hl, hn, hln, hnx, hd, hdf, hal, hacc => by
    have ih := @some1_rn f
    obtain ⟨hi, hde⟩ := hd
    have hi2 : i < nvs.length := by rw [hG.l]; exact hi
    obtain ⟨hfe, hed⟩ := hG.e i hi2 hi
    have hnd := ndAt_eq hi
    have hesm := hG.es _ (List.getElem_mem hi)
    have hlsm := hG.sm
    simp only [eachL, hnd] at hacc hde ⊢
    generalize hE : nds[i].es = es at hed hde hacc hesm ⊢
    generalize hF : nds[i].fin = fi at hfe hacc ⊢
    refine Rn.enter rfl rfl rfl fun H0 hH => ?_
    subst hH
    have g := Chg.refl (S := ST WT n0 H0.c) H0.c
    have hroom : room = 70368744177664 := rfl
    have hp0 := hp
    have hl0 := hl
    have hpl := w0.lt hp
    have hap := hl.rw.ne hp (fun own ds e => by cases e)
    refine XC.assoc ?_
    refine XC.then_ops ?_
    refine XO.op (o_get rfl hox rfl) <| XO.op (o_not rfl) <| XO.op (o_move rfl) <| ?_
    apply XO.sco (j := 4) (g := 14) (d := 18) (hg := rfl)
    · intro hg14
      refine XO.gt rfl <| XO.op (o_get rfl hp rfl) <| XO.gt rfl <| XO.op (o_len hl.rw rfl) <| XO.gt rfl <| XO.op (o_gtr rfl rfl rfl) <| XO.op (o_pick_f rfl rfl) <| XO.nil <| ?_
      exact ⟨rfl, rfl, by repeat (first | exact Sb.refl _ | refine Sb.pt ?_ rfl)⟩
    · intro hg14
      refine XO.pass rfl rfl <| XO.pass rfl rfl <| XO.pass rfl rfl <| XO.op (o_pick_t rfl rfl) <| XO.nil <| ?_
      exact ⟨rfl, rfl, by repeat (first | exact Sb.refl _ | refine Sb.pt ?_ rfl)⟩
    refine XO.op (o_move rfl) <| ?_
    apply XO.sco (j := 3) (g := 19) (d := 22) (hg := rfl)
    · intro hg19
      refine XO.gt rfl <| XO.op (o_move rfl) <| XO.gt rfl <| XO.op (o_gtr rfl rfl rfl) <| XO.op (o_pick_f rfl rfl) <| XO.nil <| ?_
      exact ⟨rfl, rfl, by repeat (first | exact Sb.refl _ | refine Sb.pt ?_ rfl)⟩
    · intro hg19
      refine XO.pass rfl rfl <| XO.pass rfl rfl <| XO.op (o_pick_t rfl rfl) <| XO.nil <| ?_
      exact ⟨rfl, rfl, by repeat (first | exact Sb.refl _ | refine Sb.pt ?_ rfl)⟩
    refine XO.nil <| ?_
    refine XC.push_f ((by show some (Value.bool ((false || decide ((60 : Int) < (acc.length : Int))) || decide ((12 : Int) < (d : Int)))) = some (.bool false); rw [decide_eq_false (by omega), decide_eq_false (by omega)]; rfl)) ?_
    refine XC.then_skip ?_
    refine XC.jn (σ := Value) (fun _ => []) [(0, .int .i64 (i : Int)), (1, sv a), (2, .int .i64 (d : Int)), (3, .pointer (some ⟨ox, 0, none⟩)), (4, .pointer (some ⟨lx, 0, none⟩)), (5, .pointer (some ⟨gx, 0, none⟩)), (6, .pointer (some ⟨fx, 0, none⟩))] (fun lv1 G => G.c.get lx = some (.cells true 22 [lv1]) ∧ strOw G.c lv1 (acc ++ (if fi then [a] else []).map bs) ∧ inS (n0 ≤ ·) lv1 ∧ ChgT WT n0 H0.c G.c) ?_ ?_
    · skip
      refine XC.then_ops ?_
      refine XO.op (o_get rfl (ChgT.atc g hgx (by decide)) rfl) <| XO.op (o_nilCheck rfl) <| XO.op (o_fieldAddr rfl) <| XO.op (o_get rfl (hG.chgT g (by decide) (by decide) (by decide)).g rfl) <| XO.op (o_move rfl) <| XO.op (o_ix (i := i) (hG.chgT g (by decide) (by decide) (by decide)).n rfl rfl hi) <| XO.op (o_ixf (hG.chgT g (by decide) (by decide) (by decide)).n (by omega) rfl) <| ?_
      refine XO.op (o_ld (u := .bool fi) (hG.chgT g (by decide) (by decide) (by decide)).n rfl (by simp only [Option.getD_none]; omega) (by omega) (by rw [flat_cell (enc := ndCs) ndCs_len hi2 (by decide), ← hfe]; rfl)) <| XO.nil <| ?_
      refine XC.cond rfl (fun hc30 => ?_) (fun hc30 => ?_)
      · skip
        skip
        refine XC.ops ?_
        refine XO.op (o_get rfl hp rfl) <| XO.op (o_move rfl) <| ?_
        have lt_hp := HC.wf.lt (g.wf w0) hp
        have lt_hl := hl.rw.lt (g.wf w0)
        refine XO.nws (o_buildSlice rfl rfl) (g.wf w0) ?_
        intro b33 H1 n33 g1 a33
        have m33 := n33
        replace n33 := Nat.le_trans g.next n33
        replace hp := Gr.at g1 hp
        replace hl := hl.gr g1
        replace g := g.tr g1
        have lt_hp := HC.wf.lt (g.wf w0) hp
        have lt_hl := hl.rw.lt (g.wf w0)
        have lt_a33 := HC.wf.lt (g.wf w0) a33
        refine XO.app (hl) (Rw.fresh (n := 1) rfl (by decide) a33) rfl rfl (by omega) rfl (by omega) (by omega) (g.wf w0) ?_
        intro b34 H2 n34 g1 a34 o34
        have m34 := n34
        replace n34 := Nat.le_trans g.next n34
        replace hp := g1.at hp (fun q => hap _ q rfl)
        replace g := Chg.th g w0 g1 (fun q hq => .inl ⟨hln q hq, fun B hB => by obtain ⟨own, ds, hd⟩ := hl0.rw.blk hq; rw [hd] at hB; cases hB; exact List.mem_cons_self⟩)
        refine XO.up (o_set rfl rfl hp rfl rfl rfl) hp ?_
        intro H9 g9 a9
        have o9 := o34.chg g9 (inS_at (by show ¬ b34 = lx; omega))
        replace g := Chg.th g w0 g9 (fun q hq => .inl ⟨hq ▸ hn, fun B hB => by rw [hq, hp0] at hB; cases hB; exact List.mem_cons_of_mem _ List.mem_cons_self⟩)
        refine XO.nil <| ?_
        refine join_n _ (Sb.cons rfl (Sb.cons rfl (Sb.cons rfl (Sb.cons rfl (Sb.cons rfl (Sb.cons rfl (Sb.cons rfl (Sb.nil _)))))))) ⟨a9, ?_, inS_at (Nat.le_trans hnx n34), g⟩
        rw [hc30]
        exact Ow.snoc o9 rfl
      · skip
        refine XC.skip ?_
        refine join_n lv (Sb.cons rfl (Sb.cons rfl (Sb.cons rfl (Sb.cons rfl (Sb.cons rfl (Sb.cons rfl (Sb.cons rfl (Sb.nil _)))))))) ⟨hp, ?_, hln, g⟩
        rw [hc30]
        simpa using hl
    · skip
      clear hp hl hln g hap
      rintro lv1 G ⟨hp, hl, hln, g⟩
      refine XC.then_ops ?_
      refine XO.op (o_get rfl (ChgT.atc g hgx (by decide)) rfl) <| XO.op (o_nilCheck rfl) <| XO.op (o_fieldAddr rfl) <| XO.op (o_get rfl (hG.chgT g (by decide) (by decide) (by decide)).g rfl) <| XO.op (o_move rfl) <| XO.op (o_ix (i := i) (hG.chgT g (by decide) (by decide) (by decide)).n rfl rfl hi) <| XO.op (o_ixf (hG.chgT g (by decide) (by decide) (by decide)).n (by omega) rfl) <| ?_
      refine XO.op (o_ld (u := nvs[i].2) (hG.chgT g (by decide) (by decide) (by decide)).n rfl (by simp only [Option.getD_none]; omega) (by omega) (by rw [flat_cell (enc := ndCs) ndCs_len hi2 (by decide)]; rfl)) <| XO.op (o_len (ChgT.rw g hed (by decide)) rfl) <| XO.op (o_move rfl) <| XO.nil <| ?_
      refine XC.block ?_
      refine XC.lp (σ := Nat × Value) (fun s => [(44, .int .i64 (s.1 : Int))]) [(42, nvs[i].2), (43, .int .i64 (es.length : Int)), (1, sv a), (2, .int .i64 (d : Int)), (6, .pointer (some ⟨fx, 0, none⟩))] (fun s G => G.c.get lx = some (.cells true 22 [s.2]) ∧ strOw G.c s.2 (acc ++ ((if fi then [a] else []) ++ (es.take s.1).flatMap fun e => eachL f nds e.2 (a ++ enc e.1)).map bs) ∧ inS (n0 ≤ ·) s.2 ∧ ChgT WT n0 H0.c G.c ∧ s.1 ≤ es.length) (fun s => es.length - s.1) (0, lv1) (Sb.cons rfl (Sb.cons rfl (Sb.cons rfl (Sb.cons rfl (Sb.cons rfl (Sb.cons rfl (Sb.nil _))))))) ⟨hp, by simpa using hl, hln, g, Nat.zero_le _⟩ (by show es.length - 0 < 9223372036854775808; omega) ?_
      clear hp hl hln g
      rintro ⟨k, lv2⟩ G2 ⟨hp, hl, hln, g, hk⟩
      simp only at hp hl hln hk
      have hedg : edRow G2.c nvs[i].2 es := ChgT.rw g hed (by decide)
      refine XC.then_ops ?_
      refine XO.op (o_lss rfl rfl rfl) <| XO.nil <| ?_
      refine XC.pushIf rfl (fun hc45 => ?_) (fun hc45 => ?_)
      · skip
        have hk2 : k < es.length := by omega
        have hst : (es.take (k + 1)).flatMap (fun e => eachL f nds e.2 (a ++ enc e.1)) = (es.take k).flatMap (fun e => eachL f nds e.2 (a ++ enc e.1)) ++ eachL f nds es[k].2 (a ++ enc es[k].1) := by rw [List.take_succ_eq_append_getElem hk2, List.flatMap_append, List.flatMap_cons, List.flatMap_nil, List.append_nil]
        have hsz : ((es.take (k + 1)).flatMap (fun e => eachL f nds e.2 (a ++ enc e.1))).length ≤ (es.flatMap (fun e => eachL f nds e.2 (a ++ enc e.1))).length := by
          conv => rhs; rw [← List.take_append_drop (k + 1) es]
          rw [List.flatMap_append, List.length_append]
          omega
        rw [hst, List.length_append] at hsz
        rw [List.length_append] at hacc
        have henl := enc_len es[k].1
        refine XC.then_skip ?_
        refine XC.then_block ?_
        refine XC.then_ops ?_
        refine XO.op (o_ix hedg rfl rfl hk2) <| XO.op (o_ld hedg rfl (by show k * 2 + 2 ≤ _; omega) (by omega) (flat_part edCs_len hk2)) <| ?_
        have lt_hp := HC.wf.lt (g.wf w0) hp
        have lt_hl := hl.rw.lt (g.wf w0)
        have lt_hedg := hedg.lt (g.wf w0)
        refine XO.nwp (o_new) (g.wf w0) ?_
        intro b11 H3 n11 g1 a11
        have m11 := n11
        replace n11 := Nat.le_trans g.next n11
        replace hp := Gr.at g1 hp
        replace hl := hl.gr g1
        replace hedg := hedg.gr g1
        replace g := g.tr g1
        refine XO.up (o_set rfl rfl a11 rfl rfl rfl) (a11) ?_
        intro H4 g1 us3
        replace hp := Chg.at g1 hp (by show ¬ _ = _; omega)
        replace hl := hl.chg g1 (fun b hb => by have := lt_hl b hb; show ¬ _ = _; omega)
        replace hedg := hedg.chg g1 (fun b hb => by have := lt_hedg b hb; show ¬ _ = _; omega)
        replace g := Chg.th g w0 g1 (fun q hq => .inr (hq ▸ n11))
        replace a11 := us3
        clear us3
        refine XO.nil <| ?_
        refine XC.ops ?_
        refine XO.op (o_get rfl (ChgT.atc g hfx (by decide)) rfl) <| XO.op (o_fieldAddr rfl) <| XO.op (o_get rfl a11 rfl) <| XO.op (o_move rfl) <| XO.op (o_fieldAddr rfl) <| XO.op (o_get rfl a11 rfl) <| XO.op (o_convS rfl) <| XO.op (o_addB rfl rfl (by omega)) <| XO.op (o_move rfl) <| XO.op (o_add (r := ((d + 1 : Nat) : Int)) rfl rfl (by rw [w64 (by omega) (by omega)]; omega)) <| ?_
        refine XO.cv (ih (g.wf w0) (hG.chgT g (by decide) (by decide) (by decide)) (ChgT.atc g hox (by decide)) hp (ChgT.atc g hgx (by decide)) (ChgT.atc g hfx (by decide)) hl hn hln (Nat.le_trans hnx g.next) (hde _ (List.getElem_mem hk2)) (by omega) (by rw [List.length_append]; omega) (by simp only [List.length_append, List.length_map]; omega)) rfl rfl ?_
        rintro v58 H5 ⟨lv3, hp3, hl3, g2, hln3⟩
        replace g := ChgT.trans' g g2
        refine XO.nil <| ?_
        refine blk_n ?_
        refine then_n ?_
        refine XC.ops ?_
        refine XO.op (o_add rfl rfl (w64 (by omega) (by omega))) <| XO.op (o_move rfl) <| XO.nil <| ?_
        exact ⟨(k + 1, lv3), by show es.length - (k + 1) < es.length - k; omega, Sb.cons rfl (Sb.cons rfl (Sb.cons rfl (Sb.cons rfl (Sb.cons rfl (Sb.cons rfl (Sb.nil _)))))), hp3, by simp only; rw [hst]; simpa only [List.map_append, List.append_assoc] using hl3, hln3, g, hk2⟩
      · skip
        have hall : es.take k = es := List.take_of_length_le (by omega)
        refine XC.then_exit ?_
        refine blk_x rfl ?_
        exact ⟨_, rfl, lv2, hp, by rw [hall] at hl; exact hl, g, hln⟩
theorem some_rn {C : HC} (w0 : C.wf) {f gb : Nat} {nv : Value} {nvs : List (Bool × Value)} {nds : List Nd} (hG : GAt C gb nv nvs nds) (hd : Deep f nds 0) (hf : f ≤ 13) (hw : (eachL f nds 0 []).length ≤ 60) : Rn (cf (n + f + 2)) 80 [.pointer (some ⟨gb, 0, none⟩)] C fun u D => ∃ v, u = .tuple #[v, .bool true] ∧ strOw D v ((eachL f nds 0 []).map bs) ∧ newIn C v ∧ Gr C D := by
  refine Rn.enter rfl rfl rfl fun H0 hH => ?_
  subst hH
  have g := Chg.refl (S := fun _ => False) H0.c
  refine XC.then_ops ?_
  refine XO.nwp (o_box rfl) (g.wf w0) ?_
  intro b1 H1 n1 g1 a1
  have m1 := n1
  replace n1 := Nat.le_trans g.next n1
  replace g := g.tr g1
  refine XO.op (o_move rfl) <| XO.op (o_move rfl) <| XO.nil <| ?_
  refine XC.then_ops ?_
  have lt_a1 := HC.wf.lt (g.wf w0) a1
  refine XO.nwp (o_new) (g.wf w0) ?_
  intro b4 H2 n4 g1 a4
  have m4 := n4
  replace n4 := Nat.le_trans g.next n4
  replace a1 := Gr.at g1 a1
  replace g := g.tr g1
  refine XO.nil <| ?_
  refine XC.then_ops ?_
  have lt_a1 := HC.wf.lt (g.wf w0) a1
  have lt_a4 := HC.wf.lt (g.wf w0) a4
  refine XO.nwp (o_new) (g.wf w0) ?_
  intro b5 H3 n5 g1 a5
  have m5 := n5
  replace n5 := Nat.le_trans g.next n5
  replace a1 := Gr.at g1 a1
  replace a4 := Gr.at g1 a4
  replace g := g.tr g1
  refine XO.up (o_set rfl rfl a5 rfl rfl rfl) (a5) ?_
  intro H4 g1 us1
  replace a1 := Chg.at g1 a1 (by show ¬ _ = _; omega)
  replace a4 := Chg.at g1 a4 (by show ¬ _ = _; omega)
  replace g := Chg.th g w0 g1 (fun q hq => .inr (hq ▸ n5))
  replace a5 := us1
  clear us1
  refine XO.nil <| ?_
  refine XC.then_ops ?_
  have lt_a1 := HC.wf.lt (g.wf w0) a1
  have lt_a4 := HC.wf.lt (g.wf w0) a4
  have lt_a5 := HC.wf.lt (g.wf w0) a5
  refine XO.nwp (o_new) (g.wf w0) ?_
  intro b6 H5 n6 g1 a6
  have m6 := n6
  replace n6 := Nat.le_trans g.next n6
  replace a1 := Gr.at g1 a1
  replace a4 := Gr.at g1 a4
  replace a5 := Gr.at g1 a5
  replace g := g.tr g1
  refine XO.nil <| ?_
  refine XC.then_ops ?_
  refine XO.op (o_func rfl rfl) <| ?_
  refine XO.up (o_set rfl rfl a6 rfl rfl rfl) (a6) ?_
  intro H6 g1 us2
  replace a1 := Chg.at g1 a1 (by show ¬ _ = _; omega)
  replace a4 := Chg.at g1 a4 (by show ¬ _ = _; omega)
  replace a5 := Chg.at g1 a5 (by show ¬ _ = _; omega)
  replace g := Chg.th g w0 g1 (fun q hq => .inr (hq ▸ n6))
  replace a6 := us2
  clear us2
  refine XO.nil <| ?_
  refine XC.then_ops ?_
  refine XO.op (o_get rfl a6 rfl) <| ?_
  refine XO.cv (some1_rn (n := n) f (n0 := H0.c.next) (i := 0) (d := 0) (a := []) (acc := []) (g.wf w0) (hG.gr g) a5 a4 a1 a6 Ow.nil n4 inS_nil g.next hd (by omega) (by show 0 + _ < _; omega) (by show 0 + _ ≤ _; omega)) rfl rfl ?_
  rintro v9 H7 ⟨lv, hp, hl, g2, hln⟩
  replace a5 := ChgT.atc g2 a5 (by decide)
  replace g := Chg.th g w0 g2 (fun q hq => .inr hq.1)
  refine XO.nil <| ?_
  refine XC.then_draw ?_
  refine XD.pure (o_get rfl hp rfl) <| XD.pure (o_get rfl a5 rfl) <| XD.pure (o_move rfl) <| XD.gt rfl <| XD.pure (o_get rfl hp rfl) <| XD.gt rfl <| XD.pure (o_len hl.rw rfl) <| XD.gt rfl <| XD.pure (o_leq (q := true) rfl rfl (decide_eq_true (by simp only [List.nil_append, List.length_map]; omega))) <| XD.pure (o_pick_t rfl rfl) <| XD.pure (o_move rfl) <| ?_
  refine XD.pure (o_move rfl) <| XD.nil <| ?_
  refine XC.ret ?_
  refine ⟨_, rfl, ?_⟩
  exact ⟨lv, rfl, hl, hln, g⟩
end
end Go.Proofs.Ytffokmamcempgaa.P
