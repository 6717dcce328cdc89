/- Images read (package pack), by our machine's rules. -/
import Derived.Test.YtffokmamcempgaaEnc
import Derived.Test.YtffokmamcempgaaGraph6
namespace Go.Proofs.Ytffokmamcempgaa.P
open Go Go.RowKit Go.Proofs.Ytffokmamcempgaa.AM
set_option linter.unusedVariables false
set_option linter.unusedSimpArgs false
set_option maxRecDepth 100000
section
variable {n : Nat} {C : HC}
theorem gwords_rn (w0 : C.wf) {f gb : Nat} {nds : List Nd} (hG : Graphs C gb nds) (hd : Deep f nds 0) (hf : 4 * f < 1000000) (hw : (eachL f nds 0 []).length < 1000000) : Rn (cf (n + f + 4)) 40 [.pointer (some ⟨gb, 0, none⟩)] C fun v D => strOw D v ((eachL f nds 0 []).map bs) ∧ newIn C v ∧ Gr C D := by
  obtain ⟨nv, nvs, hG⟩ := hG
  refine Rn.enter rfl rfl rfl fun H0 hH => ?_
  subst hH
  have g := Chg.refl (S := fun _ => False) H0.c
  refine XC.then_ops ?_
  refine XO.op (o_move rfl) <| XO.nil <| ?_
  refine XC.then_ops ?_
  refine XO.nwp (o_new) (g.wf w0) ?_
  intro b3 H1 n3 g1 a3
  have m3 := n3
  replace n3 := Nat.le_trans g.next n3
  replace g := g.tr g1
  refine XO.nil <| ?_
  refine XC.then_ops ?_
  refine XO.op (o_move rfl) <| XO.op (o_func rfl rfl) <| ?_
  refine XO.ca (each_rn (n := n) f (g.wf w0) (hG.gr g) (n0 := H0.c.next) (i := 0) (a := []) (acc := []) a3 Ow.nil n3 inS_nil g.next hd (by show 0 + _ < _; omega) (by show 0 + _ < _; omega)) rfl ?_
  rintro v6 H2 ⟨rfl, lv, hp, hl, g2, hln⟩
  replace g := Chg.th g w0 g2 (fun q hq => .inr hq.1)
  refine XO.nil <| ?_
  refine XC.then_ops ?_
  refine XO.op (o_get rfl hp rfl) <| XO.op (o_move rfl) <| XO.nil <| ?_
  refine XC.ret ?_
  refine ⟨_, rfl, ?_⟩
  exact ⟨hl, hln, g⟩
/-! reading numbers -/
theorem rnum_uc {rb : Nat} {bv : Value} {b : Str} (hb : bRow C bv b) (hl : b.length < 1000000) {p s : Nat} (hr : C.get rb = some (.cells true 92 [bv, .int .i64 (p : Int), .bool false])) (hs : 1 ≤ s) (hs4 : s ≤ 4) (hp : p + s ≤ b.length) :
    Uc (cf (n + 2)) 58 [.pointer (some ⟨rb, 0, none⟩), .int .i64 (s : Int)] C (.int .i64 (numL ((b.drop p).take s) : Int)) rb (.cells true 92 [bv, .int .i64 ((p + s : Nat) : Int), .bool false]) := by
  obtain ⟨x, y, hxy⟩ := hb.sl
  refine Uc.enter rfl rfl rfl fun H0 hH => ?_
  subst hH
  refine XC.then_ops ?_
  refine XO.op (o_move rfl) <| XO.nil <| ?_
  refine XC.then_draw ?_
  refine XD.pure (o_move rfl) <| XD.pure (o_nilCheck rfl) <| XD.pure (o_fieldAddr rfl) <| XD.pure (o_get rfl hr rfl) <| XD.pure (o_move rfl) <| XD.pure (o_nilCheck rfl) <| XD.pure (o_fieldAddr rfl) <| XD.pure (o_get rfl hr rfl) <| XD.pure (o_move rfl) <| XD.pu (num_pu hb hl hs hs4 hp) rfl <| XD.pure (o_move rfl) <| XD.pure (o_extract rfl rfl) <| XD.pure (o_extract rfl rfl) <| ?_
  refine XD.pure (o_move rfl) <| XD.pure (o_move rfl) <| XD.nil <| ?_
  refine XC.assoc ?_
  refine XC.then_ops ?_
  refine XO.op (o_move rfl) <| XO.op (o_not rfl) <| XO.nil <| ?_
  refine XC.push_f (rfl) ?_
  refine XC.then_skip ?_
  refine XC.then_ops ?_
  refine XO.op (o_move rfl) <| XO.op (o_nilCheck rfl) <| XO.op (o_fieldAddr rfl) <| XO.op (o_get rfl hr rfl) <| XO.op (o_move rfl) <| XO.op (o_add (r := ((p + s : Nat) : Int)) rfl rfl (by rw [w64 (by omega) (by omega)]; omega)) <| XO.op (o_nilCheck rfl) <| XO.op (o_fieldAddr rfl) <| XO.op (o_set rfl rfl hr rfl rfl (by rw [hxy]; rfl)) <| XO.nil <| ?_
  refine XC.then_ops ?_
  refine XO.op (o_move rfl) <| XO.op (o_move rfl) <| XO.nil <| ?_
  refine XC.ret ?_
  refine ⟨_, rfl, ?_⟩
  exact ⟨rfl, by rw [hxy]; rfl⟩
/-- What is read of an edge. -/
theorem numB_take {x : Int} {s : Nat} {a b : Str} : ((a ++ numB x s ++ b).drop a.length).take s = numB x s := by
  rw [List.append_assoc, List.drop_left, List.take_append_of_le_length (by rw [numB_len]; exact Nat.le_refl _), List.take_of_length_le (by rw [numB_len]; exact Nat.le_refl _)]
abbrev rdCs (bv : Value) (p : Nat) : List Value := [bv, .int .i64 (p : Int), .bool false]
/-- The cells of a node that was read. -/
theorem rnode_rn (w0 : C.wf) {rb : Nat} {bv : Value} {b : Str} (hb : bRow C bv b) (hl : b.length < 1000000) {pre post : Str} {nd : Nd} (hbe : b = pre ++ ndB nd ++ post) (hr : C.get rb = some (.cells true 92 (rdCs bv pre.length))) (hnl : nd.es.length < 65536) (hrun : ∀ e ∈ nd.es, 0 ≤ e.1 ∧ e.1 ≤ 1114111 ∧ e.2 < 65536) :
    Rn (cf (n + 3)) 59 [.pointer (some ⟨rb, 0, none⟩)] C fun v D => ∃ ev, v = .agg ⟨ndCs (nd.fin, ev)⟩ ∧ edOw D ev nd.es ∧ newIn C ev ∧ D.get rb = some (.cells true 92 (rdCs bv (pre.length + (ndB nd).length))) ∧ Chg (· = rb) C D := by
  have hrb := w0.lt hr
  have hbne := hb.ne hr (fun own ds e => by cases e)
  have hlen : b.length = pre.length + (ndB nd).length + post.length := by rw [hbe, List.length_append, List.length_append]
  rw [ndB_len] at hlen
  have e1 : (b.drop pre.length).take 1 = numB (fin01 nd.fin) 1 := by rw [hbe]; simp only [ndB, List.append_assoc]; rw [List.drop_left, List.take_append_of_le_length (by rw [numB_len]; exact Nat.le_refl _), List.take_of_length_le (by rw [numB_len]; exact Nat.le_refl _)]
  have e2 : (b.drop (pre.length + 1)).take 2 = numB (nd.es.length : Int) 2 := by
    have : b = (pre ++ numB (fin01 nd.fin) 1) ++ numB (nd.es.length : Int) 2 ++ (nd.es.flatMap edB ++ post) := by rw [hbe]; simp only [ndB, List.append_assoc]
    have h := @numB_take (nd.es.length : Int) 2 (pre ++ numB (fin01 nd.fin) 1) (nd.es.flatMap edB ++ post)
    rw [← this, List.length_append, numB_len] at h
    exact h
  have e3 : ∀ (k : Nat) (hk : k < nd.es.length), (b.drop (pre.length + 3 + 6 * k)).take 4 = numB nd.es[k].1 4 ∧ (b.drop (pre.length + 3 + 6 * k + 4)).take 2 = numB (nd.es[k].2 : Int) 2 := fun k hk => by
    have hsp : nd.es.flatMap edB = (nd.es.take k).flatMap edB ++ numB nd.es[k].1 4 ++ numB (nd.es[k].2 : Int) 2 ++ (nd.es.drop (k + 1)).flatMap edB := by
      conv => lhs; rw [← List.take_append_drop k nd.es, List.drop_eq_getElem_cons hk]
      simp only [List.flatMap_append, List.flatMap_cons, edB, List.append_assoc]
    have hln : (pre ++ numB (fin01 nd.fin) 1 ++ numB (nd.es.length : Int) 2 ++ (nd.es.take k).flatMap edB).length = pre.length + 3 + 6 * k := by simp only [List.length_append, numB_len, edsB_len, List.length_take]; omega
    constructor
    · have : b = (pre ++ numB (fin01 nd.fin) 1 ++ numB (nd.es.length : Int) 2 ++ (nd.es.take k).flatMap edB) ++ numB nd.es[k].1 4 ++ (numB (nd.es[k].2 : Int) 2 ++ (nd.es.drop (k + 1)).flatMap edB ++ post) := by rw [hbe, ndB, hsp]; simp only [List.append_assoc]
      have h := @numB_take nd.es[k].1 4 (pre ++ numB (fin01 nd.fin) 1 ++ numB (nd.es.length : Int) 2 ++ (nd.es.take k).flatMap edB) (numB (nd.es[k].2 : Int) 2 ++ (nd.es.drop (k + 1)).flatMap edB ++ post)
      rwa [← this, hln] at h
    · have : b = (pre ++ numB (fin01 nd.fin) 1 ++ numB (nd.es.length : Int) 2 ++ (nd.es.take k).flatMap edB ++ numB nd.es[k].1 4) ++ numB (nd.es[k].2 : Int) 2 ++ ((nd.es.drop (k + 1)).flatMap edB ++ post) := by rw [hbe, ndB, hsp]; simp only [List.append_assoc]
      have h := @numB_take (nd.es[k].2 : Int) 2 (pre ++ numB (fin01 nd.fin) 1 ++ numB (nd.es.length : Int) 2 ++ (nd.es.take k).flatMap edB ++ numB nd.es[k].1 4) ((nd.es.drop (k + 1)).flatMap edB ++ post)
      rw [← this, List.length_append, hln, numB_len] at h
      exact h
  have n1 : numL (numB (fin01 nd.fin) 1) = if nd.fin then 1 else 0 := by
    cases nd.fin
    · exact numB_num (x := 0) (s := 1) (by decide) (by decide)
    · exact numB_num (x := 1) (s := 1) (by decide) (by decide)
  have nn2 : numL (numB (nd.es.length : Int) 2) = nd.es.length := numB_num (s := 2) (by omega) (by decide)
  obtain ⟨bx, by_, hxy⟩ := hb.sl
  refine Rn.enter rfl rfl rfl fun H0 hH => ?_
  subst hH
  have g := Chg.refl (S := (· = rb)) H0.c
  have hroom : room = 70368744177664 := rfl
  refine XC.then_ops ?_
  have lt_hr := HC.wf.lt (g.wf w0) hr
  refine XO.nwp (o_new) (g.wf w0) ?_
  intro b2 H1 n2 g1 a2
  have m2 := n2
  replace n2 := Nat.le_trans g.next n2
  replace hr := Gr.at g1 hr
  replace g := g.tr g1
  refine XO.nil <| ?_
  refine XC.then_ops ?_
  refine XO.op (o_move rfl) <| ?_
  refine XO.ca ((rnum_uc (n := n) (hb.chg g hbne) hl (p := pre.length) (s := 1) hr (by decide) (by decide) (by omega)).rn hr) rfl ?_
  rintro v7 H2 ⟨rfl, g2, hr1⟩
  replace a2 := g2.at a2 (by show ¬ _ = _; omega)
  replace g := g.trans g2
  replace hr := hr1
  refine XO.op (o_move rfl) <| XO.nil <| ?_
  refine XC.then_ops ?_
  refine XO.op (o_move rfl) <| XO.op (o_eql (q := nd.fin) rfl rfl (by rw [e1, n1]; cases nd.fin <;> rfl)) <| XO.op (o_build rfl rfl) <| ?_
  have lt_hr := HC.wf.lt (g.wf w0) hr
  have lt_a2 := HC.wf.lt (g.wf w0) a2
  refine XO.nwp (o_new) (g.wf w0) ?_
  intro b4 H3 n4 g1 a4
  have m4 := n4
  replace n4 := Nat.le_trans g.next n4
  replace hr := Gr.at g1 hr
  replace a2 := Gr.at g1 a2
  replace g := g.tr g1
  refine XO.up (o_set rfl rfl a4 rfl rfl rfl) (a4) ?_
  intro H4 g1 us1
  replace hr := Chg.at g1 hr (by show ¬ _ = _; omega)
  replace a2 := Chg.at g1 a2 (by show ¬ _ = _; omega)
  replace g := Chg.th g w0 g1 (fun q hq => .inr (hq ▸ n4))
  replace a4 := us1
  clear us1
  have n4' := n4
  have n2' := n2
  refine XO.nil <| ?_
  refine XC.then_ops ?_
  refine XO.op (o_move rfl) <| XO.op (o_move rfl) <| XO.op (o_nilCheck rfl) <| XO.op (o_fieldAddr rfl) <| XO.op (o_get rfl hr rfl) <| XO.op (o_move rfl) <| ?_
  apply XO.sco (j := 3) (g := 16) (d := 19) (hg := rfl)
  · intro hg16
    refine XO.gt rfl <| XO.op (o_move rfl) <| XO.gt rfl <| XO.op (o_gtr (q := false) rfl rfl (by rw [e1, n1]; cases nd.fin <;> rfl)) <| XO.op (o_pick_f rfl rfl) <| XO.nil <| ?_
    exact ⟨rfl, rfl, by repeat (first | exact Sb.refl _ | refine Sb.pt ?_ rfl)⟩
  · intro hg16
    refine XO.pass rfl rfl <| XO.pass rfl rfl <| XO.op (o_pick_t rfl rfl) <| XO.nil <| ?_
    exact ⟨rfl, rfl, by repeat (first | exact Sb.refl _ | refine Sb.pt ?_ rfl)⟩
  refine XO.op (o_nilCheck rfl) <| XO.op (o_fieldAddr rfl) <| ?_
  refine XO.up (o_set (cs' := rdCs bv (pre.length + 1)) rfl rfl hr rfl rfl (by rw [hxy]; rfl)) hr ?_
  intro H5 g3 hr1
  replace a2 := g3.at a2 (by show ¬ _ = _; omega)
  replace a4 := g3.at a4 (by show ¬ _ = _; omega)
  replace g := g.trans g3
  replace hr := hr1
  refine XO.nil <| ?_
  refine XC.assoc ?_
  refine XC.then_ops ?_
  refine XO.op (o_move rfl) <| ?_
  refine XO.ca ((rnum_uc (n := n) (hb.chg g hbne) hl (p := pre.length + 1) (s := 2) hr (by decide) (by decide) (by omega)).rn hr) rfl ?_
  rintro v23 H5 ⟨rfl, g2, hr1⟩
  replace a2 := g2.at a2 (by show ¬ _ = _; omega)
  replace a4 := g2.at a4 (by show ¬ _ = _; omega)
  replace g := g.trans g2
  replace hr := hr1
  refine XO.op (o_move rfl) <| XO.nil <| ?_
  refine XC.then_block ?_
  refine XC.lp (σ := Nat × Value) (fun s => [(24, .int .i64 (s.1 : Int))]) [(0, .pointer (some ⟨rb, 0, none⟩)), (2, .pointer (some ⟨b2, 0, none⟩)), (4, .pointer (some ⟨b4, 0, none⟩)), (23, .int .i64 (nd.es.length : Int))] (fun s G => G.c.get rb = some (.cells true 92 (rdCs bv (pre.length + 3 + 6 * s.1))) ∧ G.c.get b2 = some (.cells true 97 [.bool false, .slice none 0 0]) ∧ G.c.get b4 = some (.cells true 97 [.bool nd.fin, s.2]) ∧ edOw G.c s.2 (nd.es.take s.1) ∧ newIn H0.c s.2 ∧ inS (fun b => ¬ b = b2 ∧ ¬ b = b4 ∧ ¬ b = rb) s.2 ∧ Chg (· = rb) H0.c G.c ∧ s.1 ≤ nd.es.length) (fun s => nd.es.length - s.1) (0, .slice none 0 0) (Sb.cons rfl (Sb.cons rfl (Sb.cons rfl (Sb.cons rfl (Sb.cons (by show some (Value.int IntKind.i64 (numL ((b.drop (pre.length + 1)).take 2) : Int)) = _; rw [e2, nn2]) (Sb.nil _)))))) ⟨hr, a2, a4, Ow.nil, inS_nil, inS_nil, g, Nat.zero_le _⟩ (by show nd.es.length - 0 < 9223372036854775808; omega) ?_
  clear hr a2 a4 g
  rintro ⟨k, ev⟩ G ⟨hr, a2, a4, he, hen, hne, g, hk⟩
  simp only at hr a2 a4 he hen hne hk
  refine XC.then_ops ?_
  refine XO.op (o_lss rfl rfl rfl) <| XO.nil <| ?_
  refine XC.pushIf rfl (fun hc25 => ?_) (fun hc25 => ?_)
  · skip
    have hk2 : k < nd.es.length := by omega
    obtain ⟨e4, e5⟩ := e3 k hk2
    obtain ⟨hr0, hr1, hr2⟩ := hrun _ (List.getElem_mem hk2)
    obtain ⟨z, hz⟩ := Int.eq_ofNat_of_zero_le hr0
    have n4 : numL (numB nd.es[k].1 4) = z := by rw [hz]; exact numB_num (s := 4) (by omega) (by decide)
    have n5 : numL (numB (nd.es[k].2 : Int) 2) = nd.es[k].2 := numB_num (s := 2) (by omega) (by decide)
    have htkl : (nd.es.take k).length = k := by rw [List.length_take]; omega
    have h4r : ∀ q, blockOf ev = some q → ¬ q = rb := fun q hq => (hne q hq).2.2
    refine XC.then_skip ?_
    refine XC.then_block ?_
    refine XC.assoc ?_
    refine XC.then_ops ?_
    refine XO.op (o_move rfl) <| XO.op (o_nilCheck rfl) <| XO.op (o_fieldAddr rfl) <| XO.op (o_get rfl hr rfl) <| XO.nil <| ?_
    refine XC.push_f (rfl) ?_
    refine XC.then_skip ?_
    refine XC.then_ops ?_
    refine XO.op (o_move rfl) <| ?_
    refine XO.ca ((rnum_uc (n := n) (hb.chg g hbne) hl (p := pre.length + 3 + 6 * k) (s := 4) hr (by decide) (by decide) (by omega)).rn hr) rfl ?_
    rintro v31 H6 ⟨rfl, g2, hr1⟩
    replace a2 := g2.at a2 (by show ¬ _ = _; omega)
    replace a4 := g2.at a4 (by show ¬ _ = _; omega)
    replace he := he.chg g2 h4r
    replace g := g.trans g2
    replace hr := hr1
    refine XO.op (o_move rfl) <| XO.nil <| ?_
    refine XC.then_ops ?_
    refine XO.op (o_move rfl) <| XO.op (o_move rfl) <| XO.op (o_nilCheck rfl) <| XO.op (o_fieldAddr rfl) <| XO.op (o_get rfl hr rfl) <| XO.op (o_move rfl) <| ?_
    apply XO.sco (j := 3) (g := 37) (d := 40) (hg := rfl)
    · intro hg37
      refine XO.gt rfl <| XO.op (o_move rfl) <| XO.gt rfl <| XO.op (o_gtr (q := false) rfl rfl (by rw [e4, n4]; exact decide_eq_false (by omega))) <| XO.op (o_pick_f rfl rfl) <| XO.nil <| ?_
      exact ⟨rfl, rfl, by repeat (first | exact Sb.refl _ | refine Sb.pt ?_ rfl)⟩
    · intro hg37
      refine XO.pass rfl rfl <| XO.pass rfl rfl <| XO.op (o_pick_t rfl rfl) <| XO.nil <| ?_
      exact ⟨rfl, rfl, by repeat (first | exact Sb.refl _ | refine Sb.pt ?_ rfl)⟩
    refine XO.op (o_nilCheck rfl) <| XO.op (o_fieldAddr rfl) <| ?_
    refine XO.up (o_set (cs' := rdCs bv (pre.length + 3 + 6 * k + 4)) rfl rfl hr rfl rfl (by rw [hxy]; rfl)) hr ?_
    intro H6 g3 hr1
    replace a2 := g3.at a2 (by show ¬ _ = _; omega)
    replace a4 := g3.at a4 (by show ¬ _ = _; omega)
    replace he := he.chg g3 h4r
    replace g := g.trans g3
    replace hr := hr1
    refine XO.nil <| ?_
    refine XC.draw ?_
    refine XD.pure (o_fieldAddr rfl) <| ?_
    refine XD.ldFp (v := ev) rfl a4 rfl ?_
    refine XD.pure (o_move rfl) <| XD.pure (o_convI (r := nd.es[k].1) rfl (by rw [e4, n4, hz]; simp [IntKind.wrap, IntKind.bits, IntKind.signed]; omega)) <| XD.pure (o_move rfl) <| ?_
    refine XD.ucFp (rnum_uc (n := n) (hb.chg g hbne) hl (p := pre.length + 3 + 6 * k + 4) (s := 2) hr (by decide) (by decide) (by omega)) rfl hr (fun q hq e => by rw [List.mem_singleton.1 hq] at e; omega) ?_
    intro H7 W7 g4 hr1
    replace a2 := g4.at a2 (by show ¬ _ = _; omega)
    replace a4 := g4.at a4 (by show ¬ _ = _; omega)
    replace he := he.chg g4 h4r
    replace g := g.trans g4
    replace hr := hr1
    refine XD.pure (o_build rfl rfl) <| ?_
    have lt_hr := HC.wf.lt (g.wf w0) hr
    have lt_a2 := HC.wf.lt (g.wf w0) a2
    have lt_a4 := HC.wf.lt (g.wf w0) a4
    have lt_he := he.rw.lt (g.wf w0)
    refine XD.nwsFp (o_buildSlice rfl rfl) rfl (g.wf w0) ?_
    intro b50 H7 n50 g1 a50
    have m50 := n50
    replace n50 := Nat.le_trans g.next n50
    replace hr := Gr.at g1 hr
    replace a2 := Gr.at g1 a2
    replace a4 := Gr.at g1 a4
    replace he := he.gr g1
    replace g := g.tr g1
    have lt_hr := HC.wf.lt (g.wf w0) hr
    have lt_a2 := HC.wf.lt (g.wf w0) a2
    have lt_a4 := HC.wf.lt (g.wf w0) a4
    have lt_he := he.rw.lt (g.wf w0)
    have lt_a50 := HC.wf.lt (g.wf w0) a50
    refine XD.app (he) (Rw.fresh (n := 1) rfl (by decide) a50) rfl rfl (by omega) rfl (by omega) (by omega) (g.wf w0) ?_
    intro b51 H8 n51 g1 a51 o51
    have m51 := n51
    replace n51 := Nat.le_trans g.next n51
    replace hr := g1.at hr (fun q => (hne _ q).2.2 rfl)
    replace a2 := g1.at a2 (fun q => (hne _ q).1 rfl)
    replace a4 := g1.at a4 (fun q => (hne _ q).2.1 rfl)
    replace g := Chg.th g w0 g1 (fun q hq => .inr (hen q hq))
    refine XD.pure (o_fieldAddr rfl) <| ?_
    refine XD.up (o_set (cs' := [.bool nd.fin, .slice (some ⟨b51, 0, none⟩) ((nd.es.take k).length + 1) U]) rfl rfl a4 rfl rfl (by obtain ⟨ex, ey, hev⟩ := he.rw.sl; rw [hev]; rfl)) a4 ?_
    intro H8 g5 a4'
    replace hr := g5.at hr (by show ¬ _ = _; omega)
    replace a2 := g5.at a2 (by show ¬ _ = _; omega)
    have o9 := o51.chg g5 (inS_at (by show ¬ _ = _; omega))
    replace g := Chg.th g w0 g5 (fun q hq => .inr (hq ▸ n4'))
    refine XD.nil <| ?_
    refine blk_n ?_
    refine then_n ?_
    refine XC.ops ?_
    refine XO.op (o_add rfl rfl (w64 (by omega) (by omega))) <| XO.op (o_move rfl) <| XO.nil <| ?_
    exact ⟨(k + 1, _), by show nd.es.length - (k + 1) < nd.es.length - k; omega, Sb.cons rfl (Sb.cons rfl (Sb.cons rfl (Sb.cons rfl (Sb.cons rfl (Sb.nil _))))), by simp only; rw [show pre.length + 3 + 6 * (k + 1) = pre.length + 3 + 6 * k + 4 + 2 by omega]; exact hr, a2, a4', by simp only; rw [List.take_succ_eq_append_getElem hk2]; exact Ow.snocF o9 (by show [Value.int IntKind.i32 nd.es[k].1, .int .i64 (numL ((b.drop (pre.length + 3 + 6 * k + 4)).take 2) : Int)] = _; rw [e5, n5]; rfl), inS_at n51, inS_at ⟨by omega, by omega, by omega⟩, g, hk2⟩
  · skip
    have hall : nd.es.take k = nd.es := List.take_of_length_le (by omega)
    have hkl : k = nd.es.length := by omega
    rw [hall] at he
    obtain ⟨ex, ey, hev⟩ := he.rw.sl
    refine XC.then_exit ?_
    refine blk_x rfl ?_
    refine then_n ?_
    refine XC.then_ops ?_
    refine XO.op (o_get (v := .agg ⟨[.bool nd.fin, ev]⟩) rfl a4 rfl) <| ?_
    refine XO.up (o_set (cs' := [.bool nd.fin, ev]) rfl rfl a2 rfl (by show ([Value.bool nd.fin, ev]).all scalar = true; rw [hev]; rfl) (by rw [hev]; rfl)) a2 ?_
    intro H8 g5 a2'
    replace hr := g5.at hr (by show ¬ _ = _; omega)
    have o9 := he.chg g5 (fun q hq => (hne q hq).1)
    replace g := Chg.th g w0 g5 (fun q hq => .inr (hq ▸ n2'))
    refine XO.nil <| ?_
    refine XC.ret ?_
    exact ⟨_, res_cell rfl a2' rfl, ev, rfl, o9, hen, by rw [ndB_len, ← hkl, show pre.length + (3 + 6 * k) = pre.length + 3 + 6 * k by omega]; exact hr, g⟩
end
end Go.Proofs.Ytffokmamcempgaa.P
