/- inkhornlaw12.PartFar returns true, whatever the cuts, the word and the text. -/
import Derived.Test.YtiobphijbpdolaaQ12b
import Derived.Test.YtiobphijbpdolaaPx17
import Derived.Test.YtiobphijbpdolaaKinds
namespace Go.Proofs.Ytiobphijbpdolaa.P
open Go.RowKit Go.Proofs.YtiobphijbpdolaaW.PrintWords Go.Proofs.YtiobphijbpdolaaW.PrintLast Go.Proofs.YtiobphijbpdolaaW.PrintMore
set_option linter.unusedVariables false
set_option linter.unusedSimpArgs false

/-- A value of the rows at place i, behind k runes: no less than the difference, no more than the sum. -/
def Bd (i k v : Int) : Prop := i - k ≤ v ∧ k - i ≤ v ∧ v ≤ i + k
theorem mn_lo {a b c : Int} (h1 : c ≤ a) (h2 : c ≤ b) : c ≤ mn a b := by unfold mn; split <;> assumption
theorem mn_hi {a b c : Int} (h1 : a ≤ c) : mn a b ≤ c := by unfold mn; split <;> omega
theorem editV_bound {i k left was x r q : Int} (hi : 0 ≤ i) (hk : 0 ≤ k) (hM : i + k ≤ 1000000000) (hl : Bd i (k + 1) left) (hw : Bd i k was) (hx : Bd (i + 1) k x) : Bd (i + 1) (k + 1) (editV r q left was x) := by
  obtain ⟨l1, l2, l3⟩ := hl
  obtain ⟨w1, w2, w3⟩ := hw
  obtain ⟨x1, x2, x3⟩ := hx
  unfold editV
  rw [wrap_small (i := x + 1) (by omega) (by omega), wrap_small (i := left + 1) (by omega) (by omega), wrap_small (i := was + 1) (by omega) (by omega)]
  refine ⟨?_, ?_, ?_⟩
  · refine mn_lo (mn_lo (by omega) (by omega)) ?_
    split <;> omega
  · refine mn_lo (mn_lo (by omega) (by omega)) ?_
    split <;> omega
  · exact mn_hi (mn_hi (by omega))
theorem editIn_length (r : Int) : ∀ (a rest : List Int) (left was : Int), (editIn r a left was rest).length = min a.length rest.length
  | [], _, _, _ => by simp [editIn]
  | q :: a, [], _, _ => by simp [editIn]
  | q :: a, x :: rest, _, _ => by simp [editIn, editIn_length r a rest]
theorem editIn_bound (r : Int) : ∀ (a rest : List Int) (i k left was : Int), 0 ≤ i → 0 ≤ k → i + a.length + k ≤ 1000000000 → Bd i (k + 1) left → Bd i k was → (∀ (j : Nat) (h : j < rest.length), Bd (i + 1 + j) k rest[j]) →
    ∀ (j : Nat) (h : j < (editIn r a left was rest).length), Bd (i + 1 + j) (k + 1) (editIn r a left was rest)[j]
  | [], _, _, _, _, _, _, _, _, _, _, _, j, h => by simp [editIn] at h
  | q :: a, [], _, _, _, _, _, _, _, _, _, _, j, h => by simp [editIn] at h
  | q :: a, x :: rest, i, k, left, was, hi, hk, hM, hl, hw, hr, j, h => by
    have hM2 : i + ((a.length : Int) + 1) + k ≤ 1000000000 := by simpa using hM
    have hx : Bd (i + 1) k x := by have := hr 0 (by simp); simpa using this
    have hv := editV_bound (r := r) (q := q) hi hk (by omega) hl hw hx
    have ih := editIn_bound r a rest (i + 1) k (editV r q left was x) x (by omega) hk (by omega) hv hx (fun j hj => by
      have := hr (j + 1) (by simpa using hj)
      rw [List.getElem_cons_succ] at this
      rwa [show i + 1 + ((j + 1 : Nat) : Int) = i + 1 + 1 + (j : Int) by omega] at this)
    cases j with
    | zero => simpa [editIn] using hv
    | succ j =>
      have := ih j (by simpa [editIn] using h)
      simp only [editIn, List.getElem_cons_succ]
      rwa [show i + 1 + ((j + 1 : Nat) : Int) = i + 1 + 1 + (j : Int) by omega]
def RowBd (n : Nat) (k : Int) (row : List Int) : Prop := row.length = n + 1 ∧ ∀ (j : Nat) (h : j < row.length), Bd j k row[j]
theorem editRow_bound (r : Int) (a row : List Int) (k : Int) (hk : 0 ≤ k) (hM : a.length + k ≤ 1000000000) (h : RowBd a.length k row) : RowBd a.length (k + 1) (editRow a k r row) := by
  obtain ⟨hl, hb⟩ := h
  cases row with
  | nil => simp at hl
  | cons x row =>
    have hl' : row.length = a.length := by simpa using hl
    have hx : Bd 0 k x := hb 0 (by simp)
    have h0 : Bd 0 (k + 1) (wrap64 (k + 1)) := by rw [wrap_small (by omega) (by omega)]; unfold Bd; omega
    have e : editRow a k r (x :: row) = wrap64 (k + 1) :: editIn r a (wrap64 (k + 1)) x row := rfl
    rw [e]
    refine ⟨by simp [editIn_length, hl'], fun j hj => ?_⟩
    cases j with
    | zero => exact h0
    | succ j =>
      have := editIn_bound r a row 0 k (wrap64 (k + 1)) x (by omega) hk (by omega) h0 hx (fun j hj => by
        have := hb (j + 1) (by simpa using hj)
        rw [List.getElem_cons_succ] at this
        rwa [show ((j + 1 : Nat) : Int) = 0 + 1 + (j : Int) by omega] at this) j (by simpa using hj)
      rw [List.getElem_cons_succ, show ((j + 1 : Nat) : Int) = 0 + 1 + (j : Int) by omega]
      exact this
theorem editRows_bound (a : List Int) : ∀ (b row : List Int) (k : Int), 0 ≤ k → a.length + k + b.length ≤ 1000000000 → RowBd a.length k row → RowBd a.length (k + b.length) (editRows a k b row)
  | [], row, k, _, _, h => by simpa [editRows] using h
  | r :: b, row, k, hk, hM, h => by
    have hM2 : (a.length : Int) + k + ((b.length : Int) + 1) ≤ 1000000000 := by simpa using hM
    have := editRows_bound a b _ (k + 1) (by omega) (by omega) (editRow_bound r a row k hk (by omega) h)
    rw [editRows, List.length_cons, show k + ((b.length + 1 : Nat) : Int) = k + 1 + (b.length : Int) by omega]
    exact this
theorem runes_dist (a b : List Int) (ha : a.length ≤ 1000000) (hb : b.length ≤ 1000000) : ∃ d, edit_Runes.f a b = some d ∧ Bd a.length b.length d := by
  have h := editRows_bound a b (iota (a.length + 1)) 0 (by omega) (by omega) ⟨by simp [iota], fun j hj => by simp [iota, Bd]⟩
  rw [Int.zero_add] at h
  obtain ⟨hl, hbd⟩ := h
  refine ⟨rd (editRows a 0 b (iota (a.length + 1))) (a.length : Int), ?_, ?_⟩
  · unfold edit_Runes.f edit_rows.f
    rw [if_pos ⟨ha, hb⟩, Option.bind_some, if_pos (by omega), if_pos (by omega)]
  · have := hbd a.length (by omega)
    simpa [rd, show a.length < (editRows a 0 b (iota (a.length + 1))).length by omega] using this
theorem dist_is (s t : ByteArray) (hs : s.size ≤ 100) (ht : t.size ≤ 100) (h1 : 0 ≤ lenOf (runesOf s)) (h2 : 0 ≤ lenOf (runesOf t)) : ∃ d, edit_Distance.f s t = some d ∧ Bd (lenOf (runesOf s)) (lenOf (runesOf t)) d := by
  have c1 : (runesOf s).contains 65533 = false := by
    cases h : (runesOf s).contains 65533 with
    | false => rfl
    | true => unfold lenOf at h1; rw [if_pos h] at h1; omega
  have c2 : (runesOf t).contains 65533 = false := by
    cases h : (runesOf t).contains 65533 with
    | false => rfl
    | true => unfold lenOf at h2; rw [if_pos h] at h2; omega
  have e1 : lenOf (runesOf s) = (runesOf s).length := by unfold lenOf; rw [if_neg (by rw [c1]; decide)]
  have e2 : lenOf (runesOf t) = (runesOf t).length := by unfold lenOf; rw [if_neg (by rw [c2]; decide)]
  have l1 := lenOf_le s
  have l2 := lenOf_le t
  obtain ⟨d, hd, hb⟩ := runes_dist (runesOf s) (runesOf t) (by omega) (by omega)
  refine ⟨d, ?_, by rw [e1, e2]; exact hb⟩
  have r1 : text_Runes.f s = some (runesOf s, true) := by unfold text_Runes.f; rw [if_pos (by omega), if_neg (by rw [c1]; decide)]
  have r2 : text_Runes.f t = some (runesOf t, true) := by unfold text_Runes.f; rw [if_pos (by omega), if_neg (by rw [c2]; decide)]
  unfold edit_Distance.f
  rw [r1, r2]
  simp only [Option.bind_some, if_true]
  rw [hd]
  rfl
theorem far_awake (l : List S24) (a b : ByteArray) : Ev (fun k => inkhornlaw12_PartFar.j0 k l a b true) true :=
  Ev.step (f := fun _ => some true) (fun k => by simp only [inkhornlaw12_PartFar.j0, if_true]; rfl) (ev_some rfl)
theorem PartFar_pure (l : List S24) (a b : ByteArray) (hs : ∀ c ∈ l, c.f1.size ≤ 140737488355328) (hl : l.length ≤ 140737488355328) : Ev (fun k => inkhornlaw12_PartFar.f k l a b) true := by
  unfold inkhornlaw12_PartFar.f
  refine ev_bind (ev_at (inkhornlaw12_great.mono _) (great_is l)) ?_
  cases greatKeys l with
  | true => exact ev_if_pos rfl (far_awake l a b)
  | false =>
  refine ev_if_neg (by decide) ?_
  by_cases ha : (a.size : Int) > 100
  · exact ev_if_pos ha (far_awake l a b)
  refine ev_if_neg ha ?_
  by_cases hb : (b.size : Int) > 100
  · exact ev_if_pos hb (far_awake l a b)
  refine ev_if_neg hb ?_
  refine ev_bind (ev_at (part_Good.mono _) (good_is l hs)) ?_
  by_cases hg : goodCuts l = 0
  case neg => exact ev_if_neg hg (far_awake l a b)
  refine ev_if_pos hg ?_
  refine ev_bind (ev_const (text_Word_is a (by omega))) ?_
  cases hw : isWord a with
  | false => exact ev_if_neg (by decide) (far_awake l a b)
  | true =>
  refine ev_if_pos rfl ?_
  have hA : text_Asked.f b = some (decide (0 ≤ lenOf (runesOf b)) && decide (lenOf (runesOf b) ≤ 16)) := by
    unfold text_Asked.f text_Len.f
    rw [if_pos (by omega), Option.bind_some]
    by_cases h : lenOf (runesOf b) ≥ 0
    · rw [if_pos h, show decide (0 ≤ lenOf (runesOf b)) = true from decide_eq_true h, Bool.true_and]
    · rw [if_neg h, show decide (0 ≤ lenOf (runesOf b)) = false from decide_eq_false h, Bool.false_and]
  refine ev_bind (ev_const hA) ?_
  by_cases h0 : 0 ≤ lenOf (runesOf b)
  case neg =>
    rw [show decide (0 ≤ lenOf (runesOf b)) = false from decide_eq_false h0]
    exact far_awake l a b
  by_cases h16 : lenOf (runesOf b) ≤ 16
  case neg =>
    rw [show decide (lenOf (runesOf b) ≤ 16) = false from decide_eq_false h16, Bool.and_false]
    exact far_awake l a b
  rw [show decide (0 ≤ lenOf (runesOf b)) = true from decide_eq_true h0, show decide (lenOf (runesOf b) ≤ 16) = true from decide_eq_true h16]
  have hle := lens_holds hg hw
  have hiw := hw
  simp only [isWord, Bool.and_eq_true, decide_eq_true_eq] at hiw
  obtain ⟨d, hd, hb1, hb2, hb3⟩ := dist_is a b (by omega) (by omega) (by omega) h0
  have hof : part_Of.f l a = some (shardOf l (keyOf a)) := by rw [ofI_is l a (by omega) hl]; unfold ofI; rw [hw, if_pos rfl]
  refine Ev.step (f := fun k => (part_Least.f k l (shardOf l (keyOf a)) (lenOf (runesOf b))).bind fun t => if t ≥ 0 then (if d ≥ t then some true else some false) else some false) (fun k => ?_) ?_
  · simp only [inkhornlaw12_PartFar.j0, Bool.and_self, Bool.not_true, Bool.false_eq_true, if_false]
    rw [hof, Option.bind_some, show text_Len.f b = some (lenOf (runesOf b)) from if_pos (by omega), Option.bind_some]
    simp only [hd, Option.bind_some]
    rfl
  · obtain ⟨lo, hi, hlh⟩ : ∃ lo hi, lensP l (shardOf l (keyOf a)) = (lo, hi) := ⟨_, _, rfl⟩
    rw [hlh] at hle
    have hL : Ev (fun k => part_Least.f k l (shardOf l (keyOf a)) (lenOf (runesOf b))) (if lenOf (runesOf b) < lo then lo - lenOf (runesOf b) else if lenOf (runesOf b) > hi then lenOf (runesOf b) - hi else 0) := by
      unfold part_Least.f
      refine ev_bind (ev_at (part_Lens.mono _ _) (lens_is l _ hl)) ?_
      rw [hlh]
      refine ev_if_neg (by simp only; omega) ?_
      refine ev_ite (fun h => ev_some (by rw [wrap_small (by omega) (by omega)])) (fun h => ?_)
      exact ev_ite (fun h => ev_some (by rw [wrap_small (by omega) (by omega)])) (fun h => ev_some rfl)
    simp only at hle
    exact ev_bind hL (ev_if_pos (by split <;> try (split)
                                    all_goals omega) (ev_if_pos (by split <;> try (split)
                                                                    all_goals omega) (ev_some rfl)))
theorem PartFar_walk (A0 : Option Addr) (c0 : Nat) (l0 : List S24) (a1 a2 : ByteArray) (w : World) (hr0 : Kd.C k24 w A0 l0.length l0) (hc0 : l0.length ≤ c0) (f0 : F22 l0) (f1 : a1.size ≤ 140737488351232) (f2 : a2.size ≤ 140737488351232) :
    Calls Try.prog 8 #[.slice A0 l0.length c0, .string a1, .string a2] w fun e w' => e = .returned (.bool true) ∧ Below w.heap.size w w' := by
  have hs : ∀ c ∈ l0, c.f1.size ≤ 140737488355328 := fun c hc => by have := (f0.2 c hc).2; unfold F9 at this; omega
  have hl : l0.length ≤ 140737488355328 := by have := f0.1; omega
  obtain ⟨k, hk⟩ := (PartFar_pure l0 a1 a2 hs hl).rounds
  exact inkhornlaw12_PartFar.calls k A0 c0 l0 a1 a2 true w hr0 hc0 hk
end Go.Proofs.Ytiobphijbpdolaa.P
