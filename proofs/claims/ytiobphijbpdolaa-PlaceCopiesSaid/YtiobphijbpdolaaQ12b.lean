/- Plain facts on part, chapter 12: slices, lengths, merges of words in order. -/
import Derived.Test.YtiobphijbpdolaaQEv
import Derived.Test.YtiobphijbpdolaaPx6
import Derived.Test.YtiobphijbpdolaaPx8
import Derived.Test.YtiobphijbpdolaaPx9
import Derived.Test.YtiobphijbpdolaaPx5
namespace Go.Proofs.Ytiobphijbpdolaa.P
open Go.RowKit Go.Proofs.YtiobphijbpdolaaW.PrintWords Go.Proofs.YtiobphijbpdolaaW.PrintLast Go.Proofs.YtiobphijbpdolaaW.PrintMore
set_option linter.unusedVariables false

def ofI (cuts : List S24) (x : ByteArray) : Int := if isWord x then shardOf cuts (keyOf x) else -1
theorem ofI_is (cuts : List S24) (x : ByteArray) (hs : x.size ≤ 140737488355328) (hl : cuts.length ≤ 140737488355328) : part_Of.f cuts x = some (ofI cuts x) := by
  unfold part_Of.f
  rw [if_pos hs, if_pos hl]
  rfl
def inShard (cuts : List S24) (s : Int) (x : ByteArray) : Bool := decide (0 ≤ ofI cuts x) && decide (ofI cuts x = s)
def sliceL (cuts : List S24) (ws : List ByteArray) (s : Int) : List ByteArray := ws.filter (inShard cuts s)
theorem slice_loop (cuts : List S24) (ws : List ByteArray) (s : Int) (hl : cuts.length ≤ 140737488355328) (hw : ws.length ≤ 1000000) (hs : ∀ x ∈ ws, x.size ≤ 140737488355328) (d : Nat) : ∀ (i : Nat), i ≤ ws.length → ws.length - i = d →
    Ev (fun k => part_Slice.l0 k cuts s (sliceL cuts (ws.take i) s) ws (ws.length : Int) (i : Int)) (sliceL cuts ws s) := by
  induction d with
  | zero =>
    intro i hi hd
    have e : i = ws.length := by omega
    subst e
    exact Ev.step (f := fun _ => some (sliceL cuts (ws.take ws.length) s)) (fun k => by simp only [part_Slice.l0]; rw [if_neg (by omega)]) (ev_some (by rw [List.take_length]))
  | succ d ih =>
    intro i hi hd
    have hlt : i < ws.length := by omega
    have hr : rdOf ByteArray.empty ws (i : Int) = ws[i] := by simp [rdOf, hlt]
    have hO := ofI_is cuts ws[i] (hs _ (List.getElem_mem _)) hl
    have hlen : (sliceL cuts (ws.take i) s).length ≤ ws.length := by
      have h1 := List.length_filter_le (inShard cuts s) (ws.take i)
      rw [List.length_take] at h1
      unfold sliceL
      omega
    have e2 : sliceL cuts (ws.take (i + 1)) s = if inShard cuts s ws[i] then sliceL cuts (ws.take i) s ++ [ws[i]] else sliceL cuts (ws.take i) s := by
      unfold sliceL
      rw [List.take_succ_eq_append_getElem hlt, List.filter_append, List.filter_cons]
      cases inShard cuts s ws[i] <;> simp
    have := ih (i + 1) (by omega) (by omega)
    rw [e2] at this
    by_cases h1 : ofI cuts ws[i] ≥ 0
    · by_cases h2 : ofI cuts ws[i] = s
      · have hi2 : inShard cuts s ws[i] = true := by simp [inShard, h2]; omega
        rw [hi2, if_pos rfl] at this
        refine Ev.step (f := fun k => part_Slice.l0 k cuts s (sliceL cuts (ws.take i) s ++ [ws[i]]) ws (ws.length : Int) ((i + 1 : Nat) : Int)) (fun k => ?_) this
        simp only [part_Slice.l0]
        rw [if_pos (by omega), if_pos (by omega), if_pos (by omega), hr, hO, Option.bind_some, if_pos h1, if_pos h2, if_pos (by omega), wrap_small (by omega) (by omega)]
        rfl
      · have hi2 : inShard cuts s ws[i] = false := by simp [inShard, h2]
        rw [hi2, if_neg (by simp)] at this
        refine Ev.step (f := fun k => part_Slice.l0 k cuts s (sliceL cuts (ws.take i) s) ws (ws.length : Int) ((i + 1 : Nat) : Int)) (fun k => ?_) this
        simp only [part_Slice.l0]
        rw [if_pos (by omega), if_pos (by omega), if_pos (by omega), hr, hO, Option.bind_some, if_pos h1, if_neg h2, wrap_small (by omega) (by omega)]
        rfl
    · have hi2 : inShard cuts s ws[i] = false := by
        have : decide (0 ≤ ofI cuts ws[i]) = false := decide_eq_false h1
        simp [inShard, this]
      rw [hi2, if_neg (by simp)] at this
      refine Ev.step (f := fun k => part_Slice.l0 k cuts s (sliceL cuts (ws.take i) s) ws (ws.length : Int) ((i + 1 : Nat) : Int)) (fun k => ?_) this
      simp only [part_Slice.l0]
      rw [if_pos (by omega), if_pos (by omega), if_pos (by omega), hr, hO, Option.bind_some, if_neg h1, wrap_small (by omega) (by omega)]
      rfl
theorem slice_is (cuts : List S24) (ws : List ByteArray) (s : Int) (hl : cuts.length ≤ 140737488355328) (hw : ws.length ≤ 1000000) (hs : ∀ x ∈ ws, x.size ≤ 140737488355328) : Ev (fun k => part_Slice.f k cuts ws s) (sliceL cuts ws s) := by
  unfold part_Slice.f
  exact slice_loop cuts ws s hl hw hs ws.length 0 (by omega) (by omega)

/-! lengths of a shard -/
theorem size_toList (s : ByteArray) : s.toList = [] ↔ s.data.toList = [] := by
  rw [ByteArray.toList_eq]
def lensP (cuts : List S24) (s : Int) : Int × Int :=
  if s < 0 ∨ s > cuts.length then (1, 0) else (if 0 < s then (rd_T24 cuts (s - 1)).f0 else 1, if s < cuts.length then (if (rd_T24 cuts s).f1.toList = [] then wrap64 ((rd_T24 cuts s).f0 - 1) else (rd_T24 cuts s).f0) else 12)
theorem lens_is (cuts : List S24) (s : Int) (hl : cuts.length ≤ 140737488355328) : part_Lens.f 2 cuts s = some (lensP cuts s) := by
  unfold part_Lens.f lensP
  by_cases h0 : s < 0
  · rw [if_pos h0, if_pos (Or.inl h0)]
    simp only [part_Lens.j0, if_true]
  · rw [if_neg h0]
    by_cases h1 : s > cuts.length
    · rw [if_pos (Or.inr h1), show decide (s > (cuts.length : Int)) = true from decide_eq_true h1]
      simp only [part_Lens.j0, if_true]
    · rw [if_neg (by omega), show decide (s > (cuts.length : Int)) = false from decide_eq_false h1]
      simp only [part_Lens.j0, part_Lens.j1, Bool.false_eq_true, if_false]
      by_cases h2 : s > 0
      · rw [if_pos h2, if_pos (show 0 < s from h2), wrap_small (i := s - 1) (by omega) (by omega), if_pos (by omega), if_pos (by omega)]
        by_cases h3 : s < cuts.length
        · rw [if_pos h3, if_pos h3, if_pos (by omega)]
          split <;> rfl
        · rw [if_neg h3, if_neg h3]
      · rw [if_neg h2, if_neg (show ¬ 0 < s from h2)]
        by_cases h3 : s < cuts.length
        · rw [if_pos h3, if_pos h3, if_pos (by omega)]
          split <;> rfl
        · rw [if_neg h3, if_neg h3]
/-- Of cuts in order just the first are not above a key: as many as its shard's number. -/
theorem shard_prefix : ∀ (l : List S24) (x : S24), l.Pairwise (fun a b => keyLt a b = true) → ∀ i (h : i < l.length), (keyLt x l[i] = false ↔ (i : Int) < shardOf l x)
  | [], _, _, i, h => by simp at h
  | c :: l, x, hp, i, h => by
    have hp2 := (List.pairwise_cons.1 hp)
    have ih := shard_prefix l x hp2.2
    by_cases hc : keyLt x c = true
    · have hall : ∀ y ∈ c :: l, keyLt x y = true := by
        intro y hy
        rcases List.mem_cons.1 hy with rfl | hy
        · exact hc
        · exact keyLt_trans hc (hp2.1 y hy)
      have h0 : shardOf (c :: l) x = 0 := by
        unfold shardOf
        rw [List.filter_eq_nil_iff.2 (fun y hy => by simp [hall y hy])]
        rfl
      rw [h0, hall _ (List.getElem_mem _)]
      constructor
      · intro h; cases h
      · intro h; omega
    · have hc' : keyLt x c = false := by simpa using hc
      have h1 : shardOf (c :: l) x = shardOf l x + 1 := by
        unfold shardOf
        rw [List.filter_cons, if_pos (by simp [hc'])]
        simp
      cases i with
      | zero =>
        have := (shard_range l x).1
        simp only [List.getElem_cons_zero, hc', true_iff]
        omega
      | succ i =>
        have := ih i (by simpa using h)
        rw [List.getElem_cons_succ, this, h1]
        omega
theorem good_pairs {l : List S24} (h : goodCuts l = 0) : l.length ≤ 5 ∧ (∀ c ∈ l, keyOk c = true) ∧ l.Pairwise (fun a b => keyLt a b = true) := by
  unfold goodCuts at h
  by_cases h5 : 5 < l.length
  · rw [if_pos h5] at h; cases h
  · rw [if_neg h5] at h
    by_cases ha : l.all keyOk = true
    · rw [if_pos ha] at h
      by_cases hr : rising l = true
      · exact ⟨by omega, List.all_eq_true.1 ha, (rising_pairs l).1 hr⟩
      · rw [if_neg hr] at h; cases h
    · rw [if_neg ha] at h; cases h
theorem cmp_nil (a b : List UInt8) (h : b = []) : ¬ Lib.compareBytes a b < 0 := by
  subst h
  cases a <;> simp [Lib.compareBytes]
theorem keyLt_false {a b : S24} (h : keyLt a b = false) : b.f0 ≤ a.f0 := by
  have h' : ¬ keyCmp a b < 0 := of_decide_eq_false h
  unfold keyCmp at h'
  by_cases h2 : a.f0 < b.f0
  · rw [if_pos h2] at h'; omega
  · omega
theorem keyLt_true {a b : S24} (h : keyLt a b = true) : a.f0 < b.f0 ∨ a.f0 = b.f0 ∧ Lib.compareBytes a.f1.data.toList b.f1.data.toList < 0 := by
  have h' : keyCmp a b < 0 := of_decide_eq_true h
  unfold keyCmp at h'
  by_cases h2 : a.f0 < b.f0
  · exact Or.inl h2
  · rw [if_neg h2] at h'
    by_cases h3 : b.f0 < a.f0
    · rw [if_pos h3] at h'; omega
    · rw [if_neg h3] at h'
      exact Or.inr ⟨by omega, h'⟩
/-- A word of a shard has a length that the shard's words may have. -/
theorem lens_holds {cuts : List S24} (hg : goodCuts cuts = 0) {x : ByteArray} (hw : isWord x = true) : (lensP cuts (shardOf cuts (keyOf x))).1 ≤ lenOf (runesOf x) ∧ lenOf (runesOf x) ≤ (lensP cuts (shardOf cuts (keyOf x))).2 := by
  obtain ⟨h5, hok, hp⟩ := good_pairs hg
  have hr := shard_range cuts (keyOf x)
  have hpre := shard_prefix cuts (keyOf x) hp
  simp only [isWord, Bool.and_eq_true, decide_eq_true_eq] at hw
  have hkx : (keyOf x).f0 = lenOf (runesOf x) := rfl
  generalize shardOf cuts (keyOf x) = s at *
  unfold lensP
  rw [if_neg (by omega)]
  constructor
  · show (if 0 < s then (rd_T24 cuts (s - 1)).f0 else 1) ≤ _
    split
    · rename_i h
      obtain ⟨i, hi⟩ : ∃ i : Nat, s - 1 = (i : Int) := ⟨(s - 1).toNat, by omega⟩
      have hlt : i < cuts.length := by omega
      have hrd : rd_T24 cuts (s - 1) = cuts[i] := by rw [hi]; simp [rd_T24, hlt]
      rw [hrd, ← hkx]
      exact keyLt_false ((hpre i hlt).2 (by omega))
    · omega
  · show _ ≤ (if s < cuts.length then (if (rd_T24 cuts s).f1.toList = [] then wrap64 ((rd_T24 cuts s).f0 - 1) else (rd_T24 cuts s).f0) else 12)
    split
    · rename_i h
      obtain ⟨i, hi⟩ : ∃ i : Nat, s = (i : Int) := ⟨s.toNat, by omega⟩
      have hlt : i < cuts.length := by omega
      have hrd : rd_T24 cuts s = cuts[i] := by rw [hi]; simp [rd_T24, hlt]
      have hk := hok cuts[i] (List.getElem_mem _)
      simp only [keyOk, Bool.and_eq_true, decide_eq_true_eq] at hk
      have hn : keyLt (keyOf x) cuts[i] = true := by
        cases hb : keyLt (keyOf x) cuts[i] with
        | true => rfl
        | false => have := (hpre _ hlt).1 hb; omega
      rw [hrd, ← hkx]
      have hn := keyLt_true hn
      split
      · rename_i he
        rw [wrap_small (by omega) (by omega)]
        rcases hn with h | ⟨_, h⟩
        · omega
        · exact absurd h (cmp_nil _ _ ((size_toList _).1 he))
      · omega
    · omega

/-! words in order -/
theorem wordLt_trans {a b c : ByteArray} (h1 : wordLt a b = true) (h2 : wordLt b c = true) : wordLt a c = true := by
  simp only [wordLt, decide_eq_true_eq] at *
  exact cmp_trans _ _ _ h1 h2
theorem cmp_self : ∀ a : List UInt8, Lib.compareBytes a a = 0
  | [] => rfl
  | x :: a => by
    simp only [Lib.compareBytes, UInt8.lt_iff_toNat_lt]
    rw [if_neg (by omega), if_neg (by omega)]
    exact cmp_self a
theorem cmp_neg : ∀ a b : List UInt8, Lib.compareBytes a b = - Lib.compareBytes b a
  | [], [] => rfl
  | [], _ :: _ => rfl
  | _ :: _, [] => rfl
  | x :: a, y :: b => by
    simp only [Lib.compareBytes, UInt8.lt_iff_toNat_lt]
    by_cases h1 : x.toNat < y.toNat
    · rw [if_pos h1, if_neg (by omega), if_pos h1]
    · rw [if_neg h1]
      by_cases h2 : y.toNat < x.toNat
      · rw [if_pos h2, if_pos h2]; rfl
      · rw [if_neg h2, if_neg h2, if_neg h1]
        exact cmp_neg a b
theorem risingW_pairs : ∀ l : List ByteArray, risingW l = true ↔ l.Pairwise (fun a b => wordLt a b = true)
  | [] => by simp [risingW]
  | [a] => by simp [risingW]
  | a :: b :: l => by
    have ih := risingW_pairs (b :: l)
    rw [risingW, Bool.and_eq_true, ih, List.pairwise_cons (a := a)]
    constructor
    · rintro ⟨h1, h2⟩
      refine ⟨?_, h2⟩
      intro c hc
      rcases List.mem_cons.1 hc with rfl | hc
      · exact h1
      · exact wordLt_trans h1 ((List.pairwise_cons.1 h2).1 c hc)
    · rintro ⟨h1, h2⟩
      exact ⟨h1 b (by simp), h2⟩
theorem goodW_pairs {l : List ByteArray} (h : goodWords l = 0) : l.length ≤ 60 ∧ (∀ x ∈ l, isWord x = true) ∧ l.Pairwise (fun a b => wordLt a b = true) := by
  unfold goodWords at h
  by_cases h5 : 60 < l.length
  · rw [if_pos h5] at h; cases h
  · rw [if_neg h5] at h
    by_cases ha : l.all isWord = true
    · rw [if_pos ha] at h
      by_cases hr : risingW l = true
      · exact ⟨by omega, List.all_eq_true.1 ha, (risingW_pairs l).1 hr⟩
      · rw [if_neg hr] at h; cases h
    · rw [if_neg ha] at h; cases h
theorem merge_loop (p q : ByteArray → Bool) : ∀ (W acc : List ByteArray), W.Pairwise (fun a b => wordLt a b = true) → (∀ x ∈ W, ¬ (p x = true ∧ q x = true)) → acc.length + W.length ≤ 1000000 →
    Ev (fun k => list_Merge.l0 k (W.filter p) (W.filter q) acc) (acc ++ W.filter fun x => p x || q x)
  | [], acc, _, _, _ => by
    refine Ev.step (f := fun k => list_Merge.j1 k [] [] acc false) (fun k => by simp [list_Merge.l0]) ?_
    exact Ev.step (f := fun _ => some acc) (fun k => by simp [list_Merge.j1]) (ev_some (by simp))
  | x :: W, acc, hp, hd, hl => by
    have hp2 := List.pairwise_cons.1 hp
    have hl2 : acc.length + (W.length + 1) ≤ 1000000 := by simpa using hl
    have hd2 : ∀ y ∈ W, ¬ (p y = true ∧ q y = true) := fun y hy => hd y (List.mem_cons_of_mem _ hy)
    have hlt : ∀ y ∈ W, Lib.compareBytes x.data.toList y.data.toList < 0 := fun y hy => by have := hp2.1 y hy; simpa [wordLt] using this
    by_cases hpx : p x = true
    · have hqx : q x = false := by
        cases h : q x with
        | false => rfl
        | true => exact absurd ⟨hpx, h⟩ (hd x (by simp))
      have ih := merge_loop p q W (acc ++ [x]) hp2.2 hd2 (by simp <;> omega)
      rw [List.filter_cons_of_pos hpx, List.filter_cons_of_neg (by simp [hqx]), List.filter_cons_of_pos (by simp [hpx])]
      refine Ev.step (f := fun k => list_Merge.j1 k (x :: W.filter p) (W.filter q) acc true) (fun k => by simp only [list_Merge.l0]; rw [if_pos (by simp <;> omega)]) ?_
      refine Ev.step (f := fun k => list_Merge.j2 k (x :: W.filter p) (W.filter q) acc true) (fun k => ?_) ?_
      · simp only [list_Merge.j1, if_true]
        cases hb : W.filter q with
        | nil => rw [if_pos (by simp)]
        | cons y b =>
          have hy : y ∈ W := (List.mem_filter.1 (show y ∈ W.filter q by rw [hb]; simp)).1
          rw [if_neg (by simp <;> omega), if_pos (by simp <;> omega), if_pos (by simp <;> omega), if_pos (by simp <;> omega)]
          have e1 : rdOf ByteArray.empty (x :: W.filter p) 0 = x := rfl
          have e2 : rdOf ByteArray.empty (y :: b) 0 = y := rfl
          simp only [text_Compare.f, strings_Compare.f, Option.bind_some, e1, e2]
          rw [show decide (Lib.compareBytes x.data.toList y.data.toList < 0) = true from decide_eq_true (hlt y hy)]
      · refine Ev.step (f := fun k => list_Merge.l0 k (W.filter p) (W.filter q) (acc ++ [x])) (fun k => ?_) (ev_eq ih (by simp))
        simp only [list_Merge.j2, if_true]
        rw [if_pos (by simp <;> omega), if_pos (by omega), if_pos (by simp <;> omega)]
        rfl
    · by_cases hqx : q x = true
      · have ih := merge_loop p q W (acc ++ [x]) hp2.2 hd2 (by simp <;> omega)
        rw [List.filter_cons_of_neg hpx, List.filter_cons_of_pos hqx, List.filter_cons_of_pos (by simp [hqx])]
        refine Ev.step (f := fun k => list_Merge.j1 k (W.filter p) (x :: W.filter q) acc true) (fun k => ?_) ?_
        · simp only [list_Merge.l0]
          split
          · rfl
          · rw [show decide (((x :: W.filter q).length : Int) > 0) = true from decide_eq_true (by simp <;> omega)]
        · refine Ev.step (f := fun k => list_Merge.j2 k (W.filter p) (x :: W.filter q) acc false) (fun k => ?_) ?_
          · simp only [list_Merge.j1, if_true]
            rw [if_neg (by simp <;> omega)]
            cases ha : W.filter p with
            | nil => rw [if_neg (by simp)]
            | cons y b =>
              have hy : y ∈ W := (List.mem_filter.1 (show y ∈ W.filter p by rw [ha]; simp)).1
              rw [if_pos (by simp <;> omega), if_pos (by simp <;> omega), if_pos (by simp <;> omega)]
              have e1 : rdOf ByteArray.empty (x :: W.filter q) 0 = x := rfl
              have e2 : rdOf ByteArray.empty (y :: b) 0 = y := rfl
              simp only [text_Compare.f, strings_Compare.f, Option.bind_some, e1, e2]
              have h1 := hlt y hy
              rw [cmp_neg] at h1
              rw [show decide (Lib.compareBytes y.data.toList x.data.toList < 0) = false from decide_eq_false (by omega)]
          · refine Ev.step (f := fun k => list_Merge.l0 k (W.filter p) (W.filter q) (acc ++ [x])) (fun k => ?_) (ev_eq ih (by simp))
            simp only [list_Merge.j2, Bool.false_eq_true, if_false]
            cases ha : W.filter p with
            | nil =>
              rw [if_neg (by simp), if_pos (by simp <;> omega), if_pos (by omega), if_pos (by simp <;> omega)]
              rfl
            | cons y b =>
              have hy : y ∈ W := (List.mem_filter.1 (show y ∈ W.filter p by rw [ha]; simp)).1
              have e1 : rdOf ByteArray.empty (x :: W.filter q) 0 = x := rfl
              have e2 : rdOf ByteArray.empty (y :: b) 0 = y := rfl
              rw [if_pos (by simp <;> omega), if_pos (by simp <;> omega), if_pos (by simp <;> omega), e1, e2, if_neg ?_, if_pos (by omega), if_pos (by simp <;> omega)]
              · rfl
              · intro he
                have h1 := hlt y hy
                rw [ByteArray.toList_eq, ByteArray.toList_eq] at he
                rw [he, cmp_self] at h1
                omega
      · have ih := merge_loop p q W acc hp2.2 hd2 (by omega)
        rw [List.filter_cons_of_neg hpx, List.filter_cons_of_neg hqx, List.filter_cons_of_neg (by simp [hpx, hqx])]
        exact ih
theorem sameT_loop (a : List ByteArray) (hm : a.length ≤ 1000000) (d : Nat) : ∀ (i : Nat), i ≤ a.length → a.length - i = d → Ev (fun k => inkhornlaw0_SameTexts.l0 k a a (i : Int)) true := by
  induction d with
  | zero =>
    intro i hi hd
    exact Ev.step (f := fun _ => some true) (fun k => by simp only [inkhornlaw0_SameTexts.l0]; rw [if_neg (by omega)]) (ev_some rfl)
  | succ d ih =>
    intro i hi hd
    refine Ev.step (f := fun k => inkhornlaw0_SameTexts.l0 k a a ((i + 1 : Nat) : Int)) (fun k => ?_) (ih (i + 1) (by omega) (by omega))
    simp only [inkhornlaw0_SameTexts.l0]
    rw [if_pos (by omega), if_pos (by omega), if_pos (by omega), if_pos trivial, wrap_small (by omega) (by omega)]
    rfl
theorem sameT_self (a : List ByteArray) (hm : a.length ≤ 1000000) : Ev (fun k => inkhornlaw0_SameTexts.f k a a) true := by
  unfold inkhornlaw0_SameTexts.f
  exact ev_if_pos rfl (sameT_loop a hm a.length 0 (by omega) (by omega))
def shX (cuts : List S24) (ws : List ByteArray) (j : Nat) : List ByteArray := ws.filter fun x => decide (shardOf cuts (keyOf x) = (j : Int))
def shU (cuts : List S24) (ws : List ByteArray) (j : Nat) : List ByteArray := ws.filter fun x => decide (shardOf cuts (keyOf x) < (j : Int))
theorem filter_two {α : Type} (l : List α) (p q r : α → Bool) (h : ∀ x ∈ l, r x = (p x || q x)) (hd : ∀ x ∈ l, ¬ (p x = true ∧ q x = true)) : (l.filter r).length = (l.filter p).length + (l.filter q).length := by
  induction l with
  | nil => rfl
  | cons x l ih =>
    have ih := ih (fun y hy => h y (List.mem_cons_of_mem _ hy)) (fun y hy => hd y (List.mem_cons_of_mem _ hy))
    have h1 := h x (by simp)
    have h2 := hd x (by simp)
    simp only [List.filter_cons, h1]
    cases hp : p x <;> cases hq : q x
    · simpa using ih
    · simp; omega
    · simp; omega
    · exact absurd ⟨hp, hq⟩ h2
end Go.Proofs.Ytiobphijbpdolaa.P
