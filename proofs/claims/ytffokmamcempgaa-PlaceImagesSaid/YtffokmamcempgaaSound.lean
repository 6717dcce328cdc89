/- The least graph of good words: it tells just them, it may be packed and read back. (Plain facts.) -/
import Derived.Test.YtffokmamcempgaaQG2
import Derived.Test.YtffokmamcempgaaDec2
import Derived.Test.YtffokmamcempgaaImg
namespace Go.Proofs.Ytffokmamcempgaa.P
open Go Go.RowKit
set_option linter.unusedVariables false
set_option linter.unusedSimpArgs false
theorem flat_congr {α β γ : Type} {F : α → List γ} {G : β → List γ} {a : List α} {b : List β} (hl : a.length = b.length) (h : ∀ (k : Nat) (h : k < a.length) (h' : k < b.length), F a[k] = G b[k]) : a.flatMap F = b.flatMap G := by
  rw [List.flatMap_def, List.flatMap_def]
  congr 1
  apply List.ext_getElem
  · rw [List.length_map, List.length_map, hl]
  · intro k h1 h2
    rw [List.getElem_map, List.getElem_map]
    exact h k _ _
def maxR (R : List Str) : Nat := (R.map fun r => (runes r).length).foldr max 0
theorem le_maxR {R : List Str} {r : Str} (h : r ∈ R) : (runes r).length ≤ maxR R := by
  unfold maxR
  induction R with
  | nil => cases h
  | cons x R ih =>
    rw [List.map_cons, List.foldr_cons]
    rcases List.mem_cons.1 h with rfl | h
    · exact Nat.le_max_left _ _
    · exact Nat.le_trans (ih h) (Nat.le_max_right _ _)
theorem maxR_lt {R : List Str} {m : Nat} (hm : 0 < m) (h : ∀ r ∈ R, (runes r).length < m) : maxR R < m := by
  unfold maxR
  induction R with
  | nil => exact hm
  | cons x R ih =>
    rw [List.map_cons, List.foldr_cons]
    exact Nat.max_lt.2 ⟨h x List.mem_cons_self, ih fun r hr => h r (List.mem_cons_of_mem _ hr)⟩
structure Pr (T : Nat) (R : List Str) : Prop where
  rs : Rs R
  short : ∀ r ∈ R, (runes r).length ≤ 12
  few : R.length ≤ 60
  tot : tot R ≤ T
theorem Pr.her {T : Nat} {R : List Str} (h : Pr T R) : Rs R ∧ ∀ g ∈ grs R, Pr T g.2 := by
  refine ⟨h.rs, fun g hg => ?_⟩
  obtain ⟨k1, k2, k3, k4, k5, k6⟩ := (grs_all h.rs).2.2.2 g hg
  have hf := h.few
  have ht := h.tot
  refine ⟨k1, fun x hx => ?_, by omega, by omega⟩
  obtain ⟨y, hy, hxy⟩ := k6 x hx
  have := h.short y hy
  omega
/-- What is known of the nodes built. -/
structure All (T : Nat) (st : St) : Prop where
  ok : ∀ (j : Nat) (e : List Str × Nd), st[j]? = some e → NodeOk (keys st) e ∧ Pr T e.1
section
variable {T : Nat} {st : St}
theorem nd_at {i : Nat} {e : List Str × Nd} (h : st[i]? = some e) : ndAt (st.map (·.2)) i = e.2 := by
  unfold ndAt
  rw [List.getD_eq_getElem?_getD, List.getElem?_map, h]
  rfl
theorem key_at {i : Nat} {R : List Str} (h : (keys st)[i]? = some R) : ∃ e, st[i]? = some e ∧ e.1 = R := by
  rw [keys, List.getElem?_map, Option.map_eq_some_iff] at h
  exact h
/-- An edge's group. -/
theorem All.edge (h : All T st) {i : Nat} {e : List Str × Nd} (he : st[i]? = some e) {x : Int × Nat} (hx : x ∈ e.2.es) : ∃ g ∈ grs e.1, x.1 = g.1 ∧ ∃ e', st[x.2]? = some e' ∧ e'.1 = g.2 := by
  obtain ⟨h1, h2⟩ := h.ok i e he
  obtain ⟨k, hk, rfl⟩ := List.getElem_of_mem hx
  have hk' : k < (grs e.1).length := by rw [← h1.len]; exact hk
  obtain ⟨a, b⟩ := h1.es k hk hk'
  exact ⟨_, List.getElem_mem hk', a, key_at b⟩
theorem All.deep (h : All T st) : ∀ (f i : Nat) (e : List Str × Nd), st[i]? = some e → (∀ r ∈ e.1, (runes r).length < f) → Deep f (st.map (·.2)) i
  | 0, i, e, he, hf => by
    obtain ⟨h1, h2⟩ := h.ok i e he
    obtain ⟨r, hr⟩ := List.exists_mem_of_ne_nil _ h1.rs.ne
    exact absurd (hf r hr) (Nat.not_lt_zero _)
  | f + 1, i, e, he, hf => by
    obtain ⟨h1, h2⟩ := h.ok i e he
    refine ⟨by rw [List.length_map]; exact (List.getElem?_eq_some_iff.1 he).1, fun x hx => ?_⟩
    rw [nd_at he] at hx
    obtain ⟨g, hg, _, e', he', hk⟩ := h.edge he hx
    refine All.deep h f x.2 e' he' fun r hr => ?_
    rw [hk] at hr
    obtain ⟨y, hy, hxy⟩ := ((grs_all h1.rs).2.2.2 g hg).2.2.2.2.2 r hr
    have := hf y hy
    omega
theorem body_split (R : List Str) : (if fins R then [[]] else []) ++ body R = R := by
  unfold P.body fins
  cases R with
  | nil => rfl
  | cons r l =>
    by_cases hr : r = []
    · subst hr; simp
    · have : decide ((r :: l).head? = some []) = false := by rw [decide_eq_false_iff_not]; simpa using hr
      rw [this]
      rfl
theorem All.each (h : All T st) : ∀ (f i : Nat) (e : List Str × Nd) (a : Str), st[i]? = some e → (∀ r ∈ e.1, (runes r).length < f) → eachL f (st.map (·.2)) i a = e.1.map (a ++ ·)
  | 0, i, e, a, he, hf => by
    obtain ⟨h1, h2⟩ := h.ok i e he
    obtain ⟨r, hr⟩ := List.exists_mem_of_ne_nil _ h1.rs.ne
    exact absurd (hf r hr) (Nat.not_lt_zero _)
  | f + 1, i, e, a, he, hf => by
    obtain ⟨h1, h2⟩ := h.ok i e he
    obtain ⟨g1, g2, g3, g4⟩ := grs_all h1.rs
    rw [eachL, nd_at he, h1.fin]
    have hfl : (e.2.es.flatMap fun x => eachL f (st.map (·.2)) x.2 (a ++ enc x.1)) = (grs e.1).flatMap fun g => (g.2.map fun x => (Utf8.encode g.1).data.toList ++ x).map (a ++ ·) := by
      refine flat_congr h1.len fun k hk hk' => ?_
      obtain ⟨c1, c2⟩ := h1.es k hk hk'
      obtain ⟨e', he', hke⟩ := key_at c2
      rw [All.each h f _ e' _ he' (fun r hr => by
        rw [hke] at hr
        obtain ⟨y, hy, hxy⟩ := (g4 _ (List.getElem_mem hk')).2.2.2.2.2 r hr
        have := hf y hy
        omega), hke, c1, List.map_map]
      refine List.map_congr_left fun x _ => ?_
      simp [enc, List.append_assoc]
    rw [hfl, ← List.map_flatMap, g3]
    conv => rhs; rw [← body_split e.1, List.map_append]
    congr 1
    split <;> simp
end
theorem sum_le {α : Type} {f : α → Nat} {b : Nat} : ∀ (l : List α), (∀ x ∈ l, f x ≤ b) → (l.map f).sum ≤ l.length * b
  | [], _ => by simp
  | x :: l, h => by
    have h1 := h x List.mem_cons_self
    have h2 := sum_le l fun y hy => h y (List.mem_cons_of_mem _ hy)
    rw [List.map_cons, List.sum_cons, List.length_cons, Nat.add_mul, Nat.one_mul]
    omega
theorem ndsB_le {b : Nat} : ∀ (l : List Nd), (∀ x ∈ l, x.es.length ≤ b) → (l.flatMap ndB).length ≤ l.length * (3 + 6 * b)
  | [], _ => by simp
  | x :: l, h => by
    have h1 := h x List.mem_cons_self
    have h2 := ndsB_le l fun y hy => h y (List.mem_cons_of_mem _ hy)
    rw [List.flatMap_cons, List.length_append, ndB_len, List.length_cons, Nat.add_mul, Nat.one_mul]
    omega
/-- Of good words the graph tells just them, may be packed and read back. -/
theorem sound_of {ls : List Str} (hok : wordsOk (ls.map bs) = 0) : (∃ rk, Sound ls rk 13) ∧ Packs ls ∧ ∀ nd ∈ buildN ls, nd.es.length < 65536 := by
  obtain ⟨h1, h2, h3⟩ := wordsOk_pairs hok
  rw [List.length_map] at h1
  have hw : ∀ r ∈ ls, Val r ∧ 1 ≤ (runes r).length ∧ (runes r).length ≤ 12 := fun r hr => word_val (h2 (bs r) (List.mem_map_of_mem hr))
  have htot : tot ls ≤ ls.length * 48 := sum_le ls fun r hr => by
    obtain ⟨a, _, c⟩ := hw r hr
    have := len_runes a
    omega
  have htotR : totR ls ≤ ls.length * 12 := sum_le ls fun r hr => (hw r hr).2.2
  by_cases hn : ls = []
  · subst hn
    have hb : buildN [] = [⟨false, []⟩] := rfl
    refine ⟨⟨fun _ => 0, ?_⟩, ?_, ?_⟩
    · refine ⟨hok, by simp [tot], fun h => ?_, ?_, ?_, ?_, by decide, ?_, by decide, ?_, by simp⟩
      · exact (h (by rw [hb]; exact ⟨rfl, rfl⟩)).elim
      · rw [hb]; intro nd hnd e he; rw [List.mem_singleton.1 hnd] at he; cases he
      · rw [hb]; decide
      · rw [hb]; decide
      · rw [hb]; exact ⟨by decide, fun e he => by cases he⟩
      · rw [hb]; rfl
    · refine ⟨hok, by simp [tot], ?_, ?_⟩
      · rw [hb]; intro nd hnd e he; rw [List.mem_singleton.1 hnd] at he; cases he
      · rw [hb, encB_len, bodyB_len]; decide
    · rw [hb]; intro nd hnd; rw [List.mem_singleton.1 hnd]; decide
  · have hP : Pr (tot ls) ls := ⟨by
      have := Rs_of (ws := ls.map bs) hok (by simpa using hn)
      rwa [List.map_map, show (fun x : ByteArray => x.data.toList) ∘ bs = id from rfl, List.map_id] at this, fun r hr => (hw r hr).2.2, h1, Nat.le_refl _⟩
    obtain ⟨k1, k2⟩ := bld_all (P := Pr (tot ls)) (fun R h => h.her) (tot ls + 1) ls [] hP (Nat.lt_succ_self _)
    have k3 := bld_lenR (tot ls + 1) ls [] hP.rs
    have k4 : (bld (tot ls + 1) ls []).1 = 0 := rfl
    have hb : buildN ls = (bld (tot ls + 1) ls []).2.map (·.2) := by unfold buildN; rw [if_neg hn]
    rw [k4] at k2
    rw [hb]
    generalize (bld (tot ls + 1) ls []).2 = st at k1 k2 k3 hb
    have hA : All (tot ls) st := ⟨fun j e he => k1.new j e he (Nat.zero_le _)⟩
    obtain ⟨e0, he0, hk0⟩ := key_at k2
    have h0 : 0 < st.length := (List.getElem?_eq_some_iff.1 he0).1
    simp only [List.length_nil] at k3
    have hmem : ∀ nd ∈ st.map (·.2), ∃ (i : Nat) (e : List Str × Nd), st[i]? = some e ∧ e.2 = nd := fun nd hnd => by
      obtain ⟨e, he, rfl⟩ := List.mem_map.1 hnd
      obtain ⟨i, hi, rfl⟩ := List.getElem_of_mem he
      exact ⟨i, _, List.getElem?_eq_getElem hi, rfl⟩
    have hesl : ∀ nd ∈ st.map (·.2), nd.es.length ≤ 60 := fun nd hnd => by
      obtain ⟨i, e, he, rfl⟩ := hmem nd hnd
      obtain ⟨a, b⟩ := hA.ok i e he
      have := (grs_all a.rs).2.1
      have := b.few
      rw [a.len]
      omega
    have hR : ∀ nd ∈ st.map (·.2), ∀ x ∈ nd.es, 0 ≤ x.1 ∧ x.1 ≤ 1114111 ∧ 1 ≤ x.2 ∧ x.2 < (st.map (·.2)).length := fun nd hnd x hx => by
      obtain ⟨i, e, he, rfl⟩ := hmem nd hnd
      obtain ⟨a, b⟩ := hA.ok i e he
      obtain ⟨g, hg, c1, e', he', c2⟩ := hA.edge he hx
      obtain ⟨d1, d2, d3, d4, d5, d6⟩ := (grs_all a.rs).2.2.2 g hg
      refine ⟨by rw [c1]; exact d3, by rw [c1]; exact d4, ?_, by rw [List.length_map]; exact (List.getElem?_eq_some_iff.1 he').1⟩
      rcases Nat.eq_zero_or_pos x.2 with hz | hz
      · rw [hz, he0] at he'
        cases he'
        have := b.tot
        rw [← c2, hk0] at d5
        omega
      · exact hz
    have hshort : ∀ r ∈ e0.1, (runes r).length < 13 := fun r hr => by rw [hk0] at hr; have := (hw r hr).2.2; omega
    refine ⟨⟨fun i => (st[i]?.map fun e => maxR e.1).getD 0, ⟨hok, by omega, fun _ => ?_, ?_, ?_, ?_, ?_, ?_, by decide, ?_, h1⟩⟩, ⟨hok, by omega, ?_, ?_⟩, fun nd hnd => by have := hesl nd hnd; omega⟩
    · rw [hb]
      refine ⟨fun i hi x hx => ?_, fun i hi => ?_⟩
      · rw [List.length_map] at hi
        have he := List.getElem?_eq_getElem hi
        rw [nd_at he] at hx
        obtain ⟨a, b⟩ := hA.ok i _ he
        obtain ⟨g, hg, c1, e', he', c2⟩ := hA.edge he hx
        obtain ⟨d1, d2, d3, d4, d5, d6⟩ := (grs_all a.rs).2.2.2 g hg
        refine ⟨by rw [List.length_map]; exact (List.getElem?_eq_some_iff.1 he').1, ?_⟩
        simp only [he, he', Option.map_some, Option.getD_some]
        rw [c2]
        have hlt : ∀ r ∈ g.2, (runes r).length < maxR st[i].1 := fun r hr => by
          obtain ⟨y, hy, hxy⟩ := d6 r hr
          have := le_maxR hy
          omega
        obtain ⟨r, hr⟩ := List.exists_mem_of_ne_nil _ d1.ne
        exact maxR_lt (by have := hlt r hr; omega) hlt
      · rw [List.length_map] at hi
        have he := List.getElem?_eq_getElem hi
        rw [nd_at he]
        obtain ⟨a, b⟩ := hA.ok i _ he
        rw [a.fin]
        cases hf : fins st[i].1 with
        | true => exact .inl rfl
        | false =>
          right
          intro hes
          have hgl := a.len
          rw [hes, List.length_nil] at hgl
          have hg0 : grs st[i].1 = [] := List.eq_nil_of_length_eq_zero hgl.symm
          have := (grs_all a.rs).2.2.1
          rw [hg0, List.flatMap_nil] at this
          have hs := body_split st[i].1
          rw [hf, ← this] at hs
          exact a.rs.ne hs.symm
    · rw [hb]; exact fun nd hnd x hx => (hR nd hnd x hx).2.2
    · rw [hb, List.length_map]; exact h0
    · rw [hb, List.length_map]; omega
    · simp only [he0, Option.map_some, Option.getD_some]
      exact Nat.le_of_lt_succ (maxR_lt (by decide) hshort)
    · rw [hb]; exact hA.deep 13 0 e0 he0 hshort
    · rw [hb, hA.each 13 0 e0 [] he0 hshort, hk0]
      simp
    · rw [hb]; exact fun nd hnd x hx => ⟨(hR nd hnd x hx).1, (hR nd hnd x hx).2.1⟩
    · rw [hb, encB_len, bodyB_len]
      have := ndsB_le _ hesl
      rw [List.length_map] at this
      omega
end Go.Proofs.Ytffokmamcempgaa.P
