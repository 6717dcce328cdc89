/- Graphs as they lie, and their calls (package graph), by our machine's rules. -/
import Derived.Test.YtffokmamcempgaaGraph4
import Derived.Test.YtffokmamcempgaaPlace
namespace Go.Proofs.Ytffokmamcempgaa.P
open Go Go.RowKit Go.Proofs.Ytffokmamcempgaa.AM
set_option linter.unusedVariables false
set_option linter.unusedSimpArgs false
set_option maxRecDepth 100000
/-- A graph: its nodes. -/
structure GAt (C : HC) (gb : Nat) (nv : Value) (nvs : List (Bool × Value)) (nds : List Nd) : Prop where
  g : C.get gb = some (.cells true 119 [nv])
  n : Rw C 121 2 nv nds.length (nvs.map ndCs).flatten
  l : nvs.length = nds.length
  e : ∀ (i : Nat) (h : i < nvs.length) (h2 : i < nds.length), nvs[i].1 = nds[i].fin ∧ edRow C nvs[i].2 nds[i].es
  sm : nds.length < 1000000
  es : ∀ nd ∈ nds, nd.es.length < 1000000
def Graphs (C : HC) (gb : Nat) (nds : List Nd) : Prop := ∃ nv nvs, GAt C gb nv nvs nds
theorem GAt.gr {C D : HC} {gb : Nat} {nv : Value} {nvs : List (Bool × Value)} {nds : List Nd} (h : GAt C gb nv nvs nds) (g : Gr C D) : GAt D gb nv nvs nds :=
  ⟨Gr.at g h.g, h.n.gr g, h.l, fun i a b => ⟨(h.e i a b).1, (h.e i a b).2.gr g⟩, h.sm, h.es⟩
theorem Graphs.gr {C D : HC} {gb : Nat} {nds : List Nd} (h : Graphs C gb nds) (g : Gr C D) : Graphs D gb nds := by
  obtain ⟨nv, nvs, h⟩ := h
  exact ⟨nv, nvs, h.gr g⟩
def buildN (ls : List Str) : List Nd := if ls = [] then [⟨false, []⟩] else (bld (tot ls + 1) ls []).2.map (·.2)
theorem wl_map (ws : List ByteArray) : (ws.map (·.data.toList)).map bs = ws := by
  rw [List.map_map]
  exact List.map_id' ws
theorem Rs_of {ws : List ByteArray} (h : wordsOk ws = 0) (hn : ws ≠ []) : Rs (ws.map (·.data.toList)) := by
  obtain ⟨h1, h2, h3⟩ := wordsOk_pairs h
  refine ⟨by simpa using hn, fun r hr => ?_, ?_⟩
  · obtain ⟨w, hw, rfl⟩ := List.mem_map.1 hr
    exact (word_val (h2 w hw)).1
  · rw [List.pairwise_map]
    exact h3.imp fun {a b} hab => of_decide_eq_true hab
theorem res_cell {L : Lv} {H : Heap} {a b off : Nat} {m : Option Nat} {own : Bool} {e : TypeId} {cs : List Value} {v : Value} (h1 : lk L a = some (.pointer (some ⟨b, off, none⟩))) (h2 : H.c.get b = some (.cells own e cs)) (h3 : partOf m off cs = some v) : resL L H [.cell a m] = some [v] := by
  have h2 : H.get b = some (.cells own e cs) := h2
  simp only [resL, h1, h2, h3, Option.bind_some, Option.map_some]
section
variable {n : Nat} {C : HC}
theorem mem_tot {l : List Str} {x : Str} (h : x ∈ l) : x.length ≤ tot l := by
  induction l with
  | nil => cases h
  | cons y l ih =>
    simp only [tot, List.map_cons, List.sum_cons] at ih ⊢
    rcases List.mem_cons.1 h with rfl | h
    · omega
    · have := ih h; omega
theorem bld_es : ∀ (f : Nat) (rests : List Str) (st : St), Rs rests → ∀ N, 1000000 ≤ N → (∀ e ∈ st, e.2.es.length < N) → tot rests < N → ∀ e ∈ (bld f rests st).2, e.2.es.length < N
  | 0, rests, st, h, N, hN, hs, ht, e, he => hs e he
  | f + 1, rests, st, h, N, hN, hs, ht, e, he => by
    have hb := h.body
    have h2 := groups_tot (body rests).length (body rests) fun r hr => (hb.val r hr).2
    have h3 := tail_tot rests
    unfold bld at he
    split at he
    · exact hs e he
    · have key : ∀ (gs : List (Int × List Str)) (st : St), (∀ g ∈ gs, Rs g.2 ∧ tot g.2 < N) → (∀ e ∈ st, e.2.es.length < N) → (∀ e ∈ (bldL (bld f) gs st).2, e.2.es.length < N) ∧ (bldL (bld f) gs st).1.length = gs.length := by
        intro gs
        induction gs with
        | nil => intro st _ h; exact ⟨h, rfl⟩
        | cons g gs ih =>
          intro st hg h
          obtain ⟨k1, k2⟩ := hg g List.mem_cons_self
          have := ih (bld f g.2 st).2 (fun x hx => hg x (List.mem_cons_of_mem _ hx)) (bld_es f g.2 st k1 N hN h k2)
          obtain ⟨c, l⟩ := g
          exact ⟨this.1, by simp only [bldL, List.length_cons, this.2]⟩
      have hsum : ∀ (gs : List (Int × List Str)), gs.length ≤ (gs.map fun g => 1 + tot g.2).sum ∧ ∀ g ∈ gs, tot g.2 < (gs.map fun g => 1 + tot g.2).sum := by
        intro gs
        induction gs with
        | nil => exact ⟨Nat.le_refl _, fun g hg => by cases hg⟩
        | cons g gs ih =>
          simp only [List.map_cons, List.sum_cons, List.length_cons]
          refine ⟨by have := ih.1; omega, fun x hx => ?_⟩
          rcases List.mem_cons.1 hx with rfl | hx
          · omega
          · have := ih.2 x hx; omega
      obtain ⟨s1, s2⟩ := hsum (grs rests)
      have hgr : ((grs rests).map fun g => 1 + tot g.2).sum ≤ tot rests := Nat.le_trans h2 h3
      obtain ⟨k1, k2⟩ := key (grs rests) (st ++ [(rests, nd0)]) (fun g hg => ⟨(groups_mem _ _ hb g hg).1, by have := s2 g hg; omega⟩) (fun x hx => by
        rcases List.mem_append.1 hx with hx | hx
        · exact hs x hx
        · rw [List.mem_singleton.1 hx]; show 0 < N; omega)
      rcases List.mem_or_eq_of_mem_set he with he | he
      · exact k1 e he
      · rw [he]; show (bldL (bld f) (grs rests) _).1.length < N; omega
theorem build_rn (w0 : C.wf) {v : Value} {ls : List Str} (hr : strRow C v (ls.map bs)) (hok : wordsOk (ls.map bs) = 0) (ht : tot ls ≤ 100000) : Rn (cf (n + (tot ls + 1) + 4)) 65 [v] C fun u D => ∃ gb, u = .tuple #[.pointer (some ⟨gb, 0, none⟩), .int .i64 0] ∧ Graphs D gb (buildN ls) ∧ Gr C D := by
  obtain ⟨k1, k2, k3⟩ := wordsOk_pairs hok
  have hl : ls.length ≤ 60 := by simpa using k1
  have hsm : ∀ w ∈ ls.map bs, sm w := fun w hw => by
    obtain ⟨l, hl, rfl⟩ := List.mem_map.1 hw
    show l.length < _
    have := mem_tot hl
    omega
  refine Rn.enter rfl rfl rfl fun H0 hH => ?_
  subst hH
  have g := Chg.refl (S := fun _ => False) H0.c
  refine XC.then_ops ?_
  refine XO.op (o_move rfl) <| XO.op (o_move rfl) <| XO.nil <| ?_
  refine XC.assoc ?_
  refine XC.then_ops ?_
  refine XO.op (o_move rfl) <| ?_
  refine XO.ca (wgood_qu (n := n + tot ls + 1) (g.wf w0) (hr.gr g) (by rw [List.length_map]; omega) hsm) rfl ?_
  rintro v7 H1 ⟨rfl, g1⟩
  replace g := g.tr g1
  refine XO.op (o_move rfl) <| XO.nil <| ?_
  refine XC.assoc ?_
  refine XC.then_ops ?_
  refine XO.op (o_move rfl) <| XO.op (o_neq (q := false) rfl rfl (by rw [hok]; rfl)) <| XO.nil <| ?_
  refine XC.push_f (rfl) ?_
  refine XC.then_skip ?_
  refine XC.then_ops ?_
  refine XO.op (o_build rfl rfl) <| ?_
  refine XO.nwp (o_box rfl) (g.wf w0) ?_
  intro b12 H2 n12 g1 a12
  have m12 := n12
  replace n12 := Nat.le_trans g.next n12
  replace g := g.tr g1
  have lt_a12 := HC.wf.lt (g.wf w0) a12
  refine XO.nwm (o_makeMap) (g.wf w0) ?_
  intro b13 H3 n13 g1 a13
  have m13 := n13
  replace n13 := Nat.le_trans g.next n13
  replace a12 := Gr.at g1 a12
  replace g := g.tr g1
  refine XO.op (o_build rfl rfl) <| ?_
  have lt_a12 := HC.wf.lt (g.wf w0) a12
  have lt_a13 := HC.wf.lt (g.wf w0) a13
  refine XO.nwp (o_box rfl) (g.wf w0) ?_
  intro b15 H4 n15 g1 a15
  have m15 := n15
  replace n15 := Nat.le_trans g.next n15
  replace a12 := Gr.at g1 a12
  replace a13 := Gr.at g1 a13
  replace g := g.tr g1
  refine XO.op (o_move rfl) <| XO.nil <| ?_
  refine XC.assoc ?_
  refine XC.then_ops ?_
  refine XO.op (o_move rfl) <| XO.op (o_len (hr.gr g) rfl) <| XO.op (o_eq rfl rfl) <| XO.nil <| ?_
  refine XC.pushIf rfl (fun hc18 => ?_) (fun hc18 => ?_)
  · skip
    have hnil : ls = [] := by rw [List.length_map] at hc18; exact List.length_eq_zero_iff.1 (by omega)
    subst hnil
    refine XC.assoc ?_
    refine XC.then_ops ?_
    refine XO.op (o_move rfl) <| XO.op (o_nilCheck rfl) <| XO.op (o_fieldAddr rfl) <| XO.op (o_get rfl a15 rfl) <| XO.op (o_build rfl rfl) <| ?_
    have lt_a12 := HC.wf.lt (g.wf w0) a12
    have lt_a13 := HC.wf.lt (g.wf w0) a13
    have lt_a15 := HC.wf.lt (g.wf w0) a15
    refine XO.nws (o_buildSlice rfl rfl) (g.wf w0) ?_
    intro b24 H5 n24 g1 a24
    have m24 := n24
    replace n24 := Nat.le_trans g.next n24
    replace a12 := Gr.at g1 a12
    replace a13 := Gr.at g1 a13
    replace a15 := Gr.at g1 a15
    replace g := g.tr g1
    refine XO.op (o_nilCheck rfl) <| XO.op (o_fieldAddr rfl) <| ?_
    refine XO.up (o_set rfl rfl a12 rfl rfl rfl) (a12) ?_
    intro H6 g1 us1
    replace a13 := Chg.at g1 a13 (by show ¬ _ = _; omega)
    replace a15 := Chg.at g1 a15 (by show ¬ _ = _; omega)
    replace a24 := Chg.at g1 a24 (by show ¬ _ = _; omega)
    replace g := Chg.th g w0 g1 (fun q hq => .inr (hq ▸ n12))
    replace a12 := us1
    clear us1
    refine XO.nil <| ?_
    refine XC.assoc ?_
    refine XC.then_ops ?_
    refine XO.op (o_move rfl) <| XO.op (o_nilCheck rfl) <| XO.op (o_fieldAddr rfl) <| XO.op (o_get rfl a15 rfl) <| XO.op (o_move rfl) <| XO.op (o_move rfl) <| XO.nil <| ?_
    refine XC.then_ret ?_
    refine ⟨_, rfl, ?_⟩
    exact ⟨b12, rfl, ⟨_, [(false, .slice none 0 0)], ⟨a12, Rw.fresh rfl (Nat.le_refl _) a24, rfl, fun i a b => by
      have : i = 0 := by simp at a; omega
      subst this
      exact ⟨rfl, Rw.nil⟩, by decide, fun nd hnd => by rw [List.mem_singleton.1 hnd]; show 0 < _; omega⟩⟩, g⟩
  · skip
    have hne : ls ≠ [] := fun e => by subst e; exact hc18 rfl
    have hR : Rs ls := by
      have h := Rs_of hok (by simpa using hne)
      rwa [List.map_map, show ((fun x : ByteArray => x.data.toList) ∘ bs) = id from rfl, List.map_id] at h
    refine XC.then_skip ?_
    refine XC.then_ops ?_
    refine XO.op (o_move rfl) <| XO.op (o_move rfl) <| ?_
    refine XO.ca (node_rn (n := n) (tot ls + 1) (g.wf w0) (n0 := H0.c.next) (st := []) (nvs := []) ⟨a15, a12, a13, Ow.nil, rfl, fun i a b => absurd a (Nat.not_lt_zero _), fun x hx => (by cases hx), n12, n13, inS_nil⟩ (hr.gr g) hR (fun x hx => by have := mem_tot hx; omega) (by omega) (by show 0 + 1 + tot ls ≤ 900000; omega) g.next) rfl ?_
    rintro v33 H7 ⟨rfl, nv', nvs', hb, g2, hn2⟩
    have hbb := hb.b
    replace g := Chg.th g w0 g2 (fun q hq => .inr hq.1)
    refine XO.nil <| ?_
    refine XC.then_ops ?_
    refine XO.op (o_move rfl) <| XO.op (o_nilCheck rfl) <| XO.op (o_fieldAddr rfl) <| XO.op (o_get rfl hbb rfl) <| XO.op (o_move rfl) <| XO.op (o_move rfl) <| XO.nil <| ?_
    refine XC.ret ?_
    refine ⟨_, rfl, ?_⟩
    refine ⟨b12, rfl, ⟨nv', nvs', ?_⟩, g⟩
    have e : buildN ls = (bld (tot ls + 1) ls []).2.map (·.2) := by unfold buildN; rw [if_neg hne]
    have hlen := bld_len (tot ls + 1) ls [] hR
    rw [e]
    refine ⟨hb.g, by rw [List.length_map]; exact hb.n.rw, by rw [List.length_map]; exact hb.l, fun i a b => ?_, by rw [List.length_map]; simp only [List.length_nil] at hlen; omega, fun nd hnd => ?_⟩
    · rw [List.length_map] at b
      rw [List.getElem_map]
      exact hb.e i a b
    · obtain ⟨x, hx, rfl⟩ := List.mem_map.1 hnd
      exact bld_es (tot ls + 1) ls [] hR 1000000 (Nat.le_refl _) (fun e he => by cases he) (by omega) x hx
/-! a graph's calls -/
theorem nodes_pu {gb : Nat} {nds : List Nd} (h : Graphs C gb nds) : Pu (cf (n + 1)) 86 [.pointer (some ⟨gb, 0, none⟩)] C (.int .i64 (nds.length : Int)) := by
  obtain ⟨nv, nvs, h⟩ := h
  refine Pu.enter rfl rfl rfl fun H0 hH => ?_
  subst hH
  refine XC.then_ops ?_
  refine XO.op (o_move rfl) <| XO.nil <| ?_
  refine XC.assoc ?_
  refine XC.then_ops ?_
  refine XO.op (o_move rfl) <| XO.op (o_eqNil rfl rfl rfl) <| XO.nil <| ?_
  refine XC.push_f (rfl) ?_
  refine XC.then_skip ?_
  refine XC.then_ops ?_
  refine XO.op (o_move rfl) <| XO.op (o_nilCheck rfl) <| XO.op (o_fieldAddr rfl) <| XO.op (o_get rfl h.g rfl) <| XO.op (o_len h.n rfl) <| XO.op (o_move rfl) <| XO.nil <| ?_
  refine XC.ret ?_
  refine ⟨_, rfl, ?_⟩
  exact ⟨rfl, rfl⟩
theorem get_rn (w0 : C.wf) {gb : Nat} {nv : Value} {nvs : List (Bool × Value)} {nds : List Nd} (h : GAt C gb nv nvs nds) {i : Nat} (hi : i < nds.length) : Rn (cf (n + 2)) 82 [.pointer (some ⟨gb, 0, none⟩), .int .i64 (i : Int)] C fun v D => v = .agg ⟨ndCs (nvs[i]'(by rw [h.l]; exact hi))⟩ ∧ Gr C D := by
  have hi2 : i < nvs.length := by rw [h.l]; exact hi
  have hsm := h.sm
  obtain ⟨p, q, hpq⟩ := (h.e i hi2 hi).2.sl
  have hsc : (cellL (.agg ⟨ndCs nvs[i]⟩)).all scalar = true := by
    show ([Value.bool nvs[i].1, nvs[i].2]).all scalar = true
    rw [hpq]
    rfl
  refine Rn.enter rfl rfl rfl fun H0 hH => ?_
  subst hH
  have g := Chg.refl (S := fun _ => False) H0.c
  refine XC.then_ops ?_
  refine XO.nwp (o_new) (g.wf w0) ?_
  intro b4 H1 n4 g1 a4
  have m4 := n4
  replace n4 := Nat.le_trans g.next n4
  replace g := g.tr g1
  refine XO.nil <| ?_
  refine XC.assoc ?_
  refine XC.then_ops ?_
  refine XO.op (o_move rfl) <| XO.op (o_lss rfl rfl rfl) <| XO.op (o_move rfl) <| ?_
  apply XO.sco (j := 5) (g := 7) (d := 12) (hg := rfl)
  · intro hg7
    refine XO.gt rfl <| XO.op (o_move rfl) <| XO.gt rfl <| XO.op (o_move rfl) <| XO.gt rfl <| XO.pu (nodes_pu ⟨nv, nvs, h.gr g⟩) rfl <| XO.gt rfl <| XO.op (o_geq rfl rfl rfl) <| XO.op (o_pick_f rfl rfl) <| XO.nil <| ?_
    exact ⟨rfl, rfl, by repeat (first | exact Sb.refl _ | refine Sb.pt ?_ rfl)⟩
  · intro hg7
    refine XO.pass rfl rfl <| XO.pass rfl rfl <| XO.pass rfl rfl <| XO.pass rfl rfl <| XO.op (o_pick_t rfl rfl) <| XO.nil <| ?_
    exact ⟨rfl, rfl, by repeat (first | exact Sb.refl _ | refine Sb.pt ?_ rfl)⟩
  refine XO.nil <| ?_
  refine XC.push_f ((by show some (Value.bool (decide ((i : Int) < 0) || decide ((nds.length : Int) ≤ (i : Int)))) = _; rw [decide_eq_false (by omega), decide_eq_false (by omega)]; rfl)) ?_
  refine XC.then_skip ?_
  refine XC.then_ops ?_
  refine XO.op (o_move rfl) <| XO.op (o_nilCheck rfl) <| XO.op (o_fieldAddr rfl) <| XO.op (o_get rfl (h.gr g).g rfl) <| XO.op (o_move rfl) <| XO.op (o_ix (h.gr g).n rfl rfl hi) <| XO.op (o_ld (h.gr g).n rfl (by show i * 2 + 2 ≤ _; omega) (by omega) (flat_part ndCs_len hi2)) <| ?_
  refine XO.up (o_set rfl rfl a4 rfl hsc rfl) (a4) ?_
  intro H2 g1 us2
  replace g := Chg.th g w0 g1 (fun q hq => .inr (hq ▸ n4))
  replace a4 := us2
  clear us2
  refine XO.nil <| ?_
  refine XC.ret ?_
  exact ⟨_, res_cell rfl a4 rfl, rfl, g⟩
theorem final_rn (w0 : C.wf) {gb : Nat} {nds : List Nd} (h : Graphs C gb nds) {i : Nat} (hi : i < nds.length) : Qu (cf (n + 3)) 87 [.pointer (some ⟨gb, 0, none⟩), .int .i64 (i : Int)] C (.bool nds[i].fin) := by
  obtain ⟨nv, nvs, h⟩ := h
  have hi2 : i < nvs.length := by rw [h.l]; exact hi
  refine Rn.enter rfl rfl rfl fun H0 hH => ?_
  subst hH
  have g := Chg.refl (S := fun _ => False) H0.c
  refine XC.then_ops ?_
  refine XO.op (o_move rfl) <| XO.nil <| ?_
  refine XC.then_ops ?_
  refine XO.op (o_move rfl) <| XO.op (o_move rfl) <| ?_
  refine XO.ca (get_rn (g.wf w0) (h.gr g) hi) rfl ?_
  rintro v7 H1 ⟨rfl, g1⟩
  have gp := g
  replace g := g.tr g1
  refine XO.op (o_field rfl rfl) <| XO.op (o_move rfl) <| XO.nil <| ?_
  refine XC.ret ?_
  refine ⟨_, rfl, ?_⟩
  refine ⟨?_, g⟩
  rw [← (h.e i hi2 hi).1]
  rfl
theorem edges_scalar (es : List (Int × Nat)) : (es.map edCs).flatten.all scalar = true := by
  rw [List.all_eq_true]
  intro v hv
  rw [List.mem_flatten] at hv
  obtain ⟨l, hl, hv⟩ := hv
  obtain ⟨e, _, rfl⟩ := List.mem_map.1 hl
  simp only [edCs, List.mem_cons, List.not_mem_nil, or_false] at hv
  rcases hv with rfl | rfl <;> rfl
theorem cloneE_rn (w0 : C.wf) {v : Value} {l : List (Int × Nat)} (hr : edRow C v l) (hl : l.length < 1000000) : Rn (cf (n + 1)) 102 [v] C fun r D => edOw D r l ∧ newIn C r ∧ Gr C D := by
  rcases hr with ⟨rfl, hn, hc⟩ | ⟨b, off, cap, own, all, rfl, h0, hg, hcut⟩
  · skip
    refine Rn.enter rfl rfl rfl fun H0 hH => ?_
    subst hH
    have g := Chg.refl (S := fun _ => False) H0.c
    have hroom : room = 70368744177664 := rfl
    refine XC.then_ops ?_
    refine XO.op (o_move rfl) <| XO.nil <| ?_
    refine XC.assoc ?_
    refine XC.then_ops ?_
    refine XO.op (o_move rfl) <| XO.op (o_eqNil rfl rfl rfl) <| XO.nil <| ?_
    refine XC.push_t (rfl) ?_
    refine XC.assoc ?_
    refine XC.then_ops ?_
    refine XO.op (o_move rfl) <| XO.nil <| ?_
    refine XC.then_ret ?_
    refine ⟨_, rfl, ?_⟩
    exact ⟨.inl ⟨rfl, hn, hc⟩, inS_nil, g⟩
  · have hr : edRow C (.slice (some ⟨b, off, none⟩) l.length cap) l := .inr ⟨b, off, cap, own, all, rfl, h0, hg, hcut⟩
    refine Rn.enter rfl rfl rfl fun H0 hH => ?_
    subst hH
    have g := Chg.refl (S := fun _ => False) H0.c
    have hroom : room = 70368744177664 := rfl
    refine XC.then_ops ?_
    refine XO.op (o_move rfl) <| XO.nil <| ?_
    refine XC.assoc ?_
    refine XC.then_ops ?_
    refine XO.op (o_move rfl) <| XO.op (o_eqNil rfl rfl rfl) <| XO.nil <| ?_
    refine XC.push_f (rfl) ?_
    refine XC.then_skip ?_
    refine XC.then_ops ?_
    refine XO.nws (o_buildSlice rfl rfl) (g.wf w0) ?_
    intro b5 H1 n5 g1 a5
    have m5 := n5
    replace n5 := Nat.le_trans g.next n5
    replace g := g.tr g1
    refine XO.op (o_move rfl) <| ?_
    refine XO.appR (Ow.mk0 a5) (hr.gr g) rfl rfl (edges_scalar l) (by omega) (by omega) (g.wf w0) ?_
    intro v7 H2 o7 hb g2
    replace g := Chg.th g w0 g2 (fun q hq => .inr (by cases hq; exact n5))
    refine XO.op (o_move rfl) <| XO.nil <| ?_
    refine XC.ret ?_
    refine ⟨_, rfl, ?_⟩
    refine ⟨?_, ?_, g⟩
    · rw [Nat.zero_add] at o7
      exact o7
    · intro q hq
      rcases hb q hq with h | h
      · have := m5
        have := lt_new a5 (g1.wf w0)
        exact Nat.le_trans (Nat.le_trans n5 (Nat.le_of_lt this)) h
      · cases h; exact n5
theorem edges_rn (w0 : C.wf) {gb : Nat} {nds : List Nd} (h : Graphs C gb nds) {i : Nat} (hi : i < nds.length) : Rn (cf (n + 3)) 88 [.pointer (some ⟨gb, 0, none⟩), .int .i64 (i : Int)] C fun r D => edOw D r nds[i].es ∧ newIn C r ∧ Gr C D := by
  obtain ⟨nv, nvs, h⟩ := h
  have hi2 : i < nvs.length := by rw [h.l]; exact hi
  refine Rn.enter rfl rfl rfl fun H0 hH => ?_
  subst hH
  have g := Chg.refl (S := fun _ => False) H0.c
  refine XC.then_ops ?_
  refine XO.op (o_move rfl) <| XO.nil <| ?_
  refine XC.then_ops ?_
  refine XO.op (o_move rfl) <| XO.op (o_move rfl) <| ?_
  refine XO.ca (get_rn (g.wf w0) (h.gr g) hi) rfl ?_
  rintro v7 H1 ⟨rfl, g1⟩
  have gp := g
  replace g := g.tr g1
  refine XO.op (o_field (v := nvs[i].2) rfl rfl) <| ?_
  refine XO.ca (cloneE_rn (g.wf w0) (((h.gr g).e i hi2 hi).2) (h.es _ (List.getElem_mem hi))) rfl ?_
  rintro v9 H2 ⟨h1, h2, g1⟩
  have gp := g
  replace g := g.tr g1
  refine XO.op (o_move rfl) <| XO.nil <| ?_
  refine XC.ret ?_
  refine ⟨_, rfl, ?_⟩
  exact ⟨h1, h2.mono fun q hq => Nat.le_trans gp.next hq, g⟩
end
end Go.Proofs.Ytffokmamcempgaa.P
