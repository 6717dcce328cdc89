/- The least graph of words: its nodes are what the rests tell. (Plain facts.) -/
import Derived.Test.YtffokmamcempgaaQG
namespace Go.Proofs.Ytffokmamcempgaa.P
open Go Go.RowKit
set_option linter.unusedVariables false
set_option linter.unusedSimpArgs false
def totR (l : List Str) : Nat := (l.map fun r => (runes r).length).sum
theorem totR_append (a b : List Str) : totR (a ++ b) = totR a + totR b := by simp [totR]
theorem len_runes {l : Str} (h : Val l) : l.length ≤ 4 * (runes l).length := by
  induction hn : l.length using Nat.strongRecOn generalizing l with
  | ind n ih =>
    by_cases hl : l = []
    · subst hl; simp at hn; omega
    · obtain ⟨o, hv, _⟩ := h.step hl
      have hp := o.pos
      have hle := o.le
      have hlen := o.len
      have := ih _ (by rw [← hn, List.length_drop]; omega) hv rfl
      rw [runes_step hl, List.length_cons]
      rw [List.length_drop] at this
      omega
/-- A group's texts, their runes. -/
theorem grp_runes {r : Str} {l : List Str} (h : Bd (r :: l)) : ∀ y ∈ (r :: l).takeWhile (isP (hd r)), runes y = ((dec r).1 : Int) :: runes (y.drop (dec r).2) := fun y hy => by
  obtain ⟨hv, hn⟩ := h.val r List.mem_cons_self
  obtain ⟨ho, hv2, hne⟩ := hv.step hn
  obtain ⟨yv, yn⟩ := h.val y ((List.takeWhile_sublist _).subset hy)
  have h1 : isP (hd r) y = true := mem_tw hy
  have hd1 := ho.same y (List.isPrefixOf_iff_prefix.1 h1)
  rw [runes_step yn, hd1]
theorem totR_drop {k : Nat} {c : Int} : ∀ (m : List Str), (∀ y ∈ m, runes y = c :: runes (y.drop k)) → totR m = m.length + totR (m.map (·.drop k))
  | [], _ => rfl
  | y :: m, h => by
    have ih := totR_drop m fun x hx => h x (List.mem_cons_of_mem _ hx)
    have h1 := h y List.mem_cons_self
    simp only [totR, List.map_cons, List.sum_cons, List.length_cons] at ih ⊢
    rw [h1, List.length_cons, ih]
    omega
/-- What groups are. -/
theorem groups_all : ∀ (f : Nat) (l : List Str), Bd l → l.length ≤ f →
    ((groups f l).map fun g => 1 + totR g.2).sum ≤ totR l ∧ (groups f l).length ≤ l.length ∧ ((groups f l).flatMap fun g => g.2.map fun x => (Utf8.encode g.1).data.toList ++ x) = l ∧
    ∀ g ∈ groups f l, Rs g.2 ∧ g.2.length ≤ l.length ∧ 0 ≤ g.1 ∧ g.1 ≤ 1114111 ∧ 1 + tot g.2 ≤ tot l ∧ ∀ x ∈ g.2, ∃ y ∈ l, (runes y).length = (runes x).length + 1
  | f, [], h, _ => by cases f <;> simp [groups]
  | 0, r :: l, h, hl => by simp at hl
  | f + 1, r :: l, h, hl => by
    obtain ⟨h1, h2, h3, h4⟩ := grp_ok h
    have hr := grp_runes h
    have hsp := List.takeWhile_append_dropWhile (p := isP (hd r)) (l := r :: l)
    have hw : (r :: l).takeWhile (isP (hd r)) = r :: l.takeWhile (isP (hd r)) := by rw [List.takeWhile_cons, if_pos hd_isP]
    have hwl : 1 ≤ ((r :: l).takeWhile (isP (hd r))).length := by rw [hw]; simp
    have hdl : ((r :: l).takeWhile (isP (hd r))).length + ((r :: l).dropWhile (isP (hd r))).length = (r :: l).length := by rw [← List.length_append, hsp]
    have htr : totR (r :: l) = totR ((r :: l).takeWhile (isP (hd r))) + totR ((r :: l).dropWhile (isP (hd r))) := by rw [← totR_append, hsp]
    have hte := totR_drop _ hr
    have hgt := grp_tot (r := r) (l := l) fun x hx => (h.val x hx).2
    obtain ⟨hv, hn⟩ := h.val r List.mem_cons_self
    obtain ⟨ho, _, _⟩ := hv.step hn
    have hmax := ho.max
    have henc : (Utf8.encode ((dec r).1 : Int)).data.toList = hd r := ho.enc
    rw [List.length_cons] at hdl
    simp only [List.length_cons] at hl
    obtain ⟨i1, i2, i3, i4⟩ := groups_all f ((r :: l).dropWhile (isP (hd r))) h2 (by omega)
    have hsub : ∀ y ∈ (r :: l).dropWhile (isP (hd r)), y ∈ r :: l := fun y hy => (List.dropWhile_sublist _).subset hy
    rw [groups]
    refine ⟨?_, ?_, ?_, ?_⟩
    · rw [List.map_cons, List.sum_cons]
      simp only
      omega
    · rw [List.length_cons, List.length_cons]
      omega
    · rw [List.flatMap_cons, i3]
      simp only [henc, List.map_map]
      have : ((r :: l).takeWhile (isP (hd r))).map ((fun x => hd r ++ x) ∘ fun x => x.drop (dec r).2) = (r :: l).takeWhile (isP (hd r)) := by
        conv => rhs; rw [← List.map_id ((r :: l).takeWhile (isP (hd r)))]
        exact List.map_congr_left fun x hx => h3 x hx
      rw [this, hsp]
    · intro g hg
      rcases List.mem_cons.1 hg with rfl | hg
      · refine ⟨h1, by rw [List.length_map, List.length_cons]; omega, by simp only; omega, by simp only; omega, by simp only; omega, fun x hx => ?_⟩
        obtain ⟨y, hy, rfl⟩ := List.mem_map.1 hx
        exact ⟨y, (List.takeWhile_sublist _).subset hy, by rw [hr y hy, List.length_cons]⟩
      · obtain ⟨k1, k2, k3, k4, k5, k6⟩ := i4 g hg
        exact ⟨k1, by rw [List.length_cons]; omega, k3, k4, by omega, fun x hx => by obtain ⟨y, hy, hxy⟩ := k6 x hx; exact ⟨y, hsub y hy, hxy⟩⟩
/-- What the rests of a node tell. -/
theorem grs_all {R : List Str} (h : Rs R) : ((grs R).map fun g => 1 + totR g.2).sum ≤ totR R ∧ (grs R).length ≤ R.length ∧ ((grs R).flatMap fun g => g.2.map fun x => (Utf8.encode g.1).data.toList ++ x) = body R ∧
    ∀ g ∈ grs R, Rs g.2 ∧ g.2.length ≤ R.length ∧ 0 ≤ g.1 ∧ g.1 ≤ 1114111 ∧ 1 + tot g.2 ≤ tot R ∧ ∀ x ∈ g.2, ∃ y ∈ R, (runes y).length = (runes x).length + 1 := by
  obtain ⟨h1, h2, h3, h4⟩ := groups_all (body R).length (body R) h.body (Nat.le_refl _)
  have hs : List.Sublist (body R) R := by
    unfold P.body
    split
    · exact List.tail_sublist _
    · exact List.Sublist.refl _
  have hl := hs.length_le
  have ht : totR (body R) ≤ totR R := by
    unfold P.body
    split
    · cases R with
      | nil => simp
      | cons r l => simp [totR]
    · exact Nat.le_refl _
  have ht2 := tail_tot R
  refine ⟨Nat.le_trans h1 ht, by unfold grs; omega, h3, fun g hg => ?_⟩
  obtain ⟨k1, k2, k3, k4, k5, k6⟩ := h4 g hg
  exact ⟨k1, by omega, k3, k4, by omega, fun x hx => by obtain ⟨y, hy, hxy⟩ := k6 x hx; exact ⟨y, hs.subset hy, hxy⟩⟩
/-! what is built -/
def keys (st : St) : List (List Str) := st.map (·.1)
structure NodeOk (ks : List (List Str)) (e : List Str × Nd) : Prop where
  rs : Rs e.1
  fin : e.2.fin = fins e.1
  len : e.2.es.length = (grs e.1).length
  es : ∀ (k : Nat) (h : k < e.2.es.length) (h' : k < (grs e.1).length), e.2.es[k].1 = (grs e.1)[k].1 ∧ ks[e.2.es[k].2]? = some (grs e.1)[k].2
theorem pre_get {α : Type} {a b : List α} (h : a <+: b) {i : Nat} {x : α} (hx : a[i]? = some x) : b[i]? = some x := by
  obtain ⟨t, rfl⟩ := h
  obtain ⟨hi, _⟩ := List.getElem?_eq_some_iff.1 hx
  rw [List.getElem?_append_left hi]
  exact hx
theorem NodeOk.mono {ks ks' : List (List Str)} {e : List Str × Nd} (h : NodeOk ks e) (hp : ks <+: ks') : NodeOk ks' e := ⟨h.rs, h.fin, h.len, fun k a b => ⟨(h.es k a b).1, pre_get hp (h.es k a b).2⟩⟩
structure Exn (P : List Str → Prop) (st st' : St) : Prop where
  pre : keys st <+: keys st'
  old : ∀ j, j < st.length → st'[j]? = st[j]?
  new : ∀ j e, st'[j]? = some e → st.length ≤ j → NodeOk (keys st') e ∧ P e.1
theorem Exn.refl (P : List Str → Prop) (st : St) : Exn P st st := ⟨List.prefix_rfl, fun _ _ => rfl, fun j e h hj => by rw [List.getElem?_eq_none hj] at h; cases h⟩
theorem keys_len (st : St) : (keys st).length = st.length := List.length_map ..
theorem Exn.len {P : List Str → Prop} {a b : St} (h : Exn P a b) : a.length ≤ b.length := by
  have := h.pre.length_le
  rwa [keys_len, keys_len] at this
theorem Exn.trans {P : List Str → Prop} {a b c : St} (h : Exn P a b) (k : Exn P b c) : Exn P a c := by
  have hl := h.len
  refine ⟨h.pre.trans k.pre, fun j hj => (k.old j (by omega)).trans (h.old j hj), fun j e he hj => ?_⟩
  by_cases hb : j < b.length
  · rw [k.old j hb] at he
    obtain ⟨h1, h2⟩ := h.new j e he hj
    exact ⟨h1.mono k.pre, h2⟩
  · exact k.new j e he (by omega)
section
variable {P : List Str → Prop}
theorem bldL_all {b : List Str → St → Nat × St} : ∀ (gs : List (Int × List Str)) (st : St), (∀ g ∈ gs, ∀ st : St, Exn P st (b g.2 st).2 ∧ (keys (b g.2 st).2)[(b g.2 st).1]? = some g.2) →
    Exn P st (bldL b gs st).2 ∧ (bldL b gs st).1.length = gs.length ∧ ∀ (k : Nat) (h : k < (bldL b gs st).1.length) (h' : k < gs.length), (bldL b gs st).1[k].1 = gs[k].1 ∧ (keys (bldL b gs st).2)[(bldL b gs st).1[k].2]? = some gs[k].2
  | [], st, _ => ⟨Exn.refl P st, rfl, fun k h => absurd h (Nat.not_lt_zero _)⟩
  | (c, l) :: gs, st, h => by
    obtain ⟨h1, h2⟩ := h (c, l) List.mem_cons_self st
    obtain ⟨k1, k2, k3⟩ := bldL_all gs (b l st).2 fun g hg => h g (List.mem_cons_of_mem _ hg)
    refine ⟨h1.trans k1, by simp only [bldL, List.length_cons, k2], fun k hk hk' => ?_⟩
    cases k with
    | zero => exact ⟨rfl, pre_get k1.pre h2⟩
    | succ k => exact k3 k (by simpa [bldL] using hk) (by simpa using hk')
theorem bld_all (hP : ∀ R, P R → Rs R ∧ ∀ g ∈ grs R, P g.2) : ∀ (f : Nat) (R : List Str) (st : St), P R → tot R < f → Exn P st (bld f R st).2 ∧ (keys (bld f R st).2)[(bld f R st).1]? = some R
  | 0, R, st, h, hf => absurd hf (Nat.not_lt_zero _)
  | f + 1, R, st, h, hf => by
    obtain ⟨hR, hg⟩ := hP R h
    have hall := (grs_all hR).2.2.2
    unfold bld
    split
    · rename_i i hi
      refine ⟨Exn.refl P st, ?_⟩
      obtain ⟨h1, h2, _⟩ := List.findIdx?_eq_some_iff_getElem.1 hi
      have h3 : st[i].1 = R := of_decide_eq_true h2
      show (keys st)[i]? = some R
      rw [keys, List.getElem?_map, List.getElem?_eq_getElem h1, Option.map_some, h3]
    · rename_i hi
      obtain ⟨h1, h2, h3⟩ := bldL_all (P := P) (b := bld f) (grs R) (st ++ [(R, nd0)]) fun g hg' st => bld_all hP f g.2 st (hg g hg') (by have := (hall g hg').2.2.2.2.1; omega)
      simp only
      generalize bldL (bld f) (grs R) (st ++ [(R, nd0)]) = q at h1 h2 h3
      have hl := h1.len
      rw [List.length_append, List.length_cons, List.length_nil] at hl
      have hat : q.2[st.length]? = some (R, nd0) := by rw [h1.old _ (by simp), List.getElem?_append_right (Nat.le_refl _), Nat.sub_self]; rfl
      have hk : keys (q.2.set st.length (R, ⟨fins R, q.1⟩)) = keys q.2 := by
        apply List.ext_getElem?
        intro j
        rw [keys, keys, List.getElem?_map, List.getElem?_map, List.getElem?_set]
        split
        · rename_i e
          subst e
          rw [if_pos (by omega), hat]
          rfl
        · rfl
      have hpre : keys st <+: keys (st ++ [(R, nd0)]) := ⟨[R], by simp [keys]⟩
      refine ⟨⟨by rw [hk]; exact hpre.trans h1.pre, fun j hj => ?_, fun j e he hj => ?_⟩, ?_⟩
      · rw [List.getElem?_set_ne (by omega), h1.old j (by simp; omega), List.getElem?_append_left hj]
      · rw [hk]
        by_cases hjs : st.length = j
        · subst hjs
          rw [List.getElem?_set_self (by omega)] at he
          cases he
          exact ⟨⟨hR, rfl, h2, h3⟩, h⟩
        · rw [List.getElem?_set_ne hjs] at he
          exact h1.new j e he (by simp; omega)
      · rw [hk, keys, List.getElem?_map, hat]
        rfl
end
theorem bldL_lenR {b : List Str → St → Nat × St} : ∀ (gs : List (Int × List Str)) (st : St), (∀ g ∈ gs, ∀ st : St, (b g.2 st).2.length ≤ st.length + 1 + totR g.2) → (bldL b gs st).2.length ≤ st.length + (gs.map fun g => 1 + totR g.2).sum
  | [], st, _ => by simp [bldL]
  | (c, l) :: gs, st, h => by
    have h1 := h (c, l) List.mem_cons_self st
    have h2 := bldL_lenR gs (b l st).2 fun g hg => h g (List.mem_cons_of_mem _ hg)
    simp only [bldL, List.map_cons, List.sum_cons] at h1 h2 ⊢
    omega
theorem bld_lenR : ∀ (f : Nat) (rests : List Str) (st : St), Rs rests → (bld f rests st).2.length ≤ st.length + 1 + totR rests
  | 0, rests, st, h => by simp [bld]; omega
  | f + 1, rests, st, h => by
    unfold bld
    split
    · simp; omega
    · have hb := grs_all h
      have h1 := bldL_lenR (b := bld f) (grs rests) (st ++ [(rests, nd0)]) fun g hg st => bld_lenR f g.2 st (hb.2.2.2 g hg).1
      have h2 := hb.1
      simp only [List.length_set, List.length_append, List.length_cons, List.length_nil] at h1 ⊢
      omega
end Go.Proofs.Ytffokmamcempgaa.P
