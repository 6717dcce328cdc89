/- Enough rounds, and the plain facts on which words are good and which texts are too many. -/
import Derived.Test.YtiobphijbpdolaaPx15
import Derived.Test.YtiobphijbpdolaaQ12
import Derived.Test.YtiobphijbpdolaaPx7
import Derived.Test.YtiobphijbpdolaaPx2
namespace Go.Proofs.Ytiobphijbpdolaa.P
open Go.RowKit Go.Proofs.YtiobphijbpdolaaW.PrintWords Go.Proofs.YtiobphijbpdolaaW.PrintLast Go.Proofs.YtiobphijbpdolaaW.PrintMore
set_option linter.unusedVariables false

theorem ev_if_pos {α : Type} {p : Prop} [Decidable p] (hp : p) {a b : Nat → Option α} {r : α} (h : Ev a r) : Ev (fun k => if p then a k else b k) r := by simpa [hp] using h
theorem ev_if_neg {α : Type} {p : Prop} [Decidable p] (hp : ¬ p) {a b : Nat → Option α} {r : α} (h : Ev b r) : Ev (fun k => if p then a k else b k) r := by simpa [hp] using h
theorem ev_ite {α : Type} {p : Prop} [Decidable p] {a b : Nat → Option α} {r r' : α} (h : p → Ev a r) (h' : ¬ p → Ev b r') : Ev (fun k => if p then a k else b k) (if p then r else r') := by
  by_cases hp : p
  · simpa [hp] using h hp
  · simpa [hp] using h' hp
theorem ev_bind {α β : Type} {g : Nat → Option α} {f : Nat → α → Option β} {a : α} {r : β} (h : Ev g a) (k : Ev (fun n => f n a) r) : Ev (fun n => (g n).bind (f n)) r := Ev.bind h k
theorem ev_some {α : Type} {r r' : α} (h : r = r') : Ev (fun _ => some r) r' := h ▸ Ev.now r
theorem ev_const {α : Type} {g : Option α} {r : α} (h : g = some r) : Ev (fun _ => g) r := ⟨0, fun _ _ => h⟩
theorem ev_eq {α : Type} {g : Nat → Option α} {r r' : α} (h : Ev g r) (e : r = r') : Ev g r' := e ▸ h
theorem ev_at {α : Type} {g : Nat → Option α} (hg : ∀ k, LeO (g k) (g (k + 1))) {k : Nat} {r : α} (h : g k = some r) : Ev g r := Ev.of hg h

/-! words -/
def wordLt (a b : ByteArray) : Bool := decide (Lib.compareBytes a.data.toList b.data.toList < 0)
def risingW : List ByteArray → Bool
  | a :: b :: l => wordLt a b && risingW (b :: l)
  | _ => true
def goodWords (l : List ByteArray) : Int := if 60 < l.length then 3 else if l.all isWord then (if risingW l then 0 else 7) else 6
theorem goodW_l1 (l : List ByteArray) (hl : l.length ≤ 60) (d : Nat) : ∀ (i : Nat), 1 ≤ i → i ≤ l.length + 1 → l.length + 1 - i = d →
    Ev (fun k => list_Good.l1 k l (i : Int)) (if risingW (l.drop (i - 1)) then 0 else 7) := by
  induction d with
  | zero =>
    intro i h1 hi hd
    refine Ev.step (f := fun _ => some 0) (fun k => by simp only [list_Good.l1]; rw [if_neg (by omega)]) (ev_some ?_)
    rw [List.drop_of_length_le (by omega)]; rfl
  | succ d ih =>
    intro i h1 hi hd
    by_cases hlt : i < l.length
    · have hr : rdOf ByteArray.empty l ((i : Int) - 1) = l[i - 1] := by
        have : ((i : Int) - 1).toNat = i - 1 := by omega
        simp [rdOf, this, show i - 1 < l.length by omega]
      have hr2 : rdOf ByteArray.empty l (i : Int) = l[i] := by simp [rdOf, hlt]
      have e1 : l.drop (i - 1) = l[i - 1] :: l[i] :: l.drop (i + 1) := by
        rw [List.drop_eq_getElem_cons (by omega : i - 1 < l.length), show i - 1 + 1 = i by omega, List.drop_eq_getElem_cons hlt]
      rw [e1, risingW]
      by_cases hc : Lib.compareBytes l[i - 1].data.toList l[i].data.toList ≥ 0
      · refine Ev.step (f := fun _ => some 7) (fun k => ?_) (ev_some ?_)
        · simp only [list_Good.l1]
          rw [wrap_small (i := (i : Int) - 1) (by omega) (by omega), if_pos (by omega), if_pos (by omega), if_pos (by omega), if_pos (by omega), hr, hr2]
          simp only [text_Compare.f, strings_Compare.f, Option.bind_some]
          rw [if_pos hc]
        · have : wordLt l[i - 1] l[i] = false := by unfold wordLt; simp; omega
          simp [this]
      · have := ih (i + 1) (by omega) (by omega) (by omega)
        refine Ev.step (f := fun k => list_Good.l1 k l ((i + 1 : Nat) : Int)) (fun k => ?_) (ev_eq this ?_)
        · simp only [list_Good.l1]
          rw [wrap_small (i := (i : Int) - 1) (by omega) (by omega), if_pos (by omega), if_pos (by omega), if_pos (by omega), if_pos (by omega), hr, hr2]
          simp only [text_Compare.f, strings_Compare.f, Option.bind_some]
          rw [if_neg hc, wrap_small (by omega) (by omega)]
          rfl
        · have h2 : wordLt l[i - 1] l[i] = true := by unfold wordLt; simp; omega
          rw [h2, show i + 1 - 1 = i by omega, List.drop_eq_getElem_cons hlt, Bool.true_and]
    · refine Ev.step (f := fun _ => some 0) (fun k => by simp only [list_Good.l1]; rw [if_neg (by omega)]) (ev_some ?_)
      have : (l.drop (i - 1)).length ≤ 1 := by rw [List.length_drop]; omega
      match h : l.drop (i - 1), this with
      | [], _ => rfl
      | [_], _ => rfl
theorem goodW_l0 (l : List ByteArray) (hl : l.length ≤ 60) (hs : ∀ s ∈ l, s.size ≤ 140737488355328) (d : Nat) : ∀ (i : Nat), i ≤ l.length → l.length - i = d →
    Ev (fun k => list_Good.l0 k l l (l.length : Int) (i : Int)) (if (l.drop i).all isWord then (if risingW l then 0 else 7) else 6) := by
  induction d with
  | zero =>
    intro i hi hd
    have e : i = l.length := by omega
    subst e
    refine Ev.step (f := fun k => list_Good.l1 k l ((1 : Nat) : Int)) (fun k => by simp only [list_Good.l0]; rw [if_neg (by omega)]; rfl) (ev_eq (goodW_l1 l hl l.length 1 (by omega) (by omega) (by omega)) ?_)
    simp
  | succ d ih =>
    intro i hi hd
    have hlt : i < l.length := by omega
    have hr : rdOf ByteArray.empty l (i : Int) = l[i] := by simp [rdOf, hlt]
    have hW := text_Word_is l[i] (hs _ (List.getElem_mem _))
    rw [List.drop_eq_getElem_cons hlt, List.all_cons]
    cases hw : isWord l[i] with
    | false =>
      refine Ev.step (f := fun _ => some 6) (fun k => ?_) (ev_some (by simp))
      simp only [list_Good.l0]
      rw [if_pos (by omega), if_pos (by omega), if_pos (by omega), hr, hW, hw]
      rfl
    | true =>
      refine Ev.step (f := fun k => list_Good.l0 k l l (l.length : Int) ((i + 1 : Nat) : Int)) (fun k => ?_) (ev_eq (ih (i + 1) (by omega) (by omega)) (by simp))
      simp only [list_Good.l0]
      rw [if_pos (by omega), if_pos (by omega), if_pos (by omega), hr, hW, hw, wrap_small (by omega) (by omega)]
      rfl
theorem goodW_is (l : List ByteArray) (hs : ∀ s ∈ l, s.size ≤ 140737488355328) : Ev (fun k => list_Good.f k l) (goodWords l) := by
  unfold list_Good.f goodWords
  by_cases h : 60 < l.length
  · rw [if_pos h]
    exact ev_if_pos (by omega) (Ev.now _)
  · rw [if_neg h]
    exact ev_if_neg (by omega) (ev_eq (goodW_l0 l (by omega) hs l.length 0 (by omega) (by omega)) (by rw [List.drop_zero]))

theorem texts_loop (l : List ByteArray) (hl : l.length ≤ 80) (d : Nat) : ∀ (i : Nat), i ≤ l.length → l.length - i = d →
    Ev (fun k => inkhornlaw0_GreatTexts.l0 k l (i : Int)) ((l.drop i).any fun s => decide (100 < s.size)) := by
  induction d with
  | zero =>
    intro i hi hd
    have e : i = l.length := by omega
    subst e
    refine Ev.step (f := fun k => inkhornlaw0_GreatTexts.j1 k l (l.length : Int) false) (fun k => by simp only [inkhornlaw0_GreatTexts.l0]; rw [if_neg (by omega)]) ?_
    exact Ev.step (f := fun _ => some false) (fun k => by simp only [inkhornlaw0_GreatTexts.j1]; rw [if_neg (by simp)]; simp; omega) (ev_some (by simp))
  | succ d ih =>
    intro i hi hd
    have hlt : i < l.length := by omega
    have hr : rdOf ByteArray.empty l (i : Int) = l[i] := by simp [rdOf, hlt]
    refine Ev.step (f := fun k => inkhornlaw0_GreatTexts.j1 k l (i : Int) true) (fun k => by simp only [inkhornlaw0_GreatTexts.l0]; rw [if_pos (by omega), show decide ((l.length : Int) ≤ 80) = true from decide_eq_true (by omega)]) ?_
    rw [List.drop_eq_getElem_cons hlt, List.any_cons]
    by_cases hb : 100 < l[i].size
    · refine Ev.step (f := fun _ => some true) (fun k => ?_) (ev_some (by simp [hb]))
      simp only [inkhornlaw0_GreatTexts.j1, if_true]
      rw [if_pos (by omega), if_pos (by omega), hr, if_pos (by omega)]
    · refine Ev.step (f := fun k => inkhornlaw0_GreatTexts.l0 k l ((i + 1 : Nat) : Int)) (fun k => ?_) (ev_eq (ih (i + 1) (by omega) (by omega)) (by simp [hb]))
      simp only [inkhornlaw0_GreatTexts.j1, if_true]
      rw [if_pos (by omega), if_pos (by omega), hr, if_neg (by omega), wrap_small (by omega) (by omega)]
      rfl
def greatTexts (l : List ByteArray) : Bool := decide (80 < l.length) || l.any fun s => decide (100 < s.size)
theorem texts_is (l : List ByteArray) (hm : l.length ≤ 140737488355328) : Ev (fun k => inkhornlaw0_GreatTexts.f k l) (greatTexts l) := by
  unfold inkhornlaw0_GreatTexts.f greatTexts
  by_cases hl : l.length ≤ 80
  · have h80 : decide (80 < l.length) = false := by simp; omega
    rw [h80, Bool.false_or]
    exact ev_eq (texts_loop l hl l.length 0 (by omega) (by omega)) (by rw [List.drop_zero])
  · have h80 : decide (80 < l.length) = true := by simp; omega
    rw [h80, Bool.true_or]
    refine Ev.step (f := fun k => inkhornlaw0_GreatTexts.j1 k l 0 false) (fun k => by simp only [inkhornlaw0_GreatTexts.l0]; rw [if_pos (by omega)]; rw [show decide ((l.length : Int) ≤ 80) = false from decide_eq_false (by omega)]) ?_
    exact Ev.step (f := fun _ => some true) (fun k => by simp only [inkhornlaw0_GreatTexts.j1]; rw [if_neg (by simp)]; simp; omega) (ev_some rfl)
theorem low_is (x : Int) (n : Int) (h0 : 0 < n) (h1 : n ≤ 9223372036854775807) : inkhornlaw0_Low.f x n = some ((x % 18446744073709551616) % n) := by
  unfold inkhornlaw0_Low.f
  have hu : IntKind.u64.wrap n = n := by
    have : IntKind.u64.wrap n = n % 18446744073709551616 := rfl
    omega
  have hx : IntKind.u64.wrap x = x % 18446744073709551616 := rfl
  rw [hu, hx, if_neg (by omega), Int.tmod_eq_emod_of_nonneg (by omega)]
  have h3 := Int.emod_lt_of_pos (x % 18446744073709551616) h0
  have h4 := Int.emod_nonneg (x % 18446744073709551616) (show n ≠ 0 by omega)
  rw [wrap_small (by omega) (by omega)]
theorem low_range (x : Int) (n : Int) (h0 : 0 < n) : 0 ≤ (x % 18446744073709551616) % n ∧ (x % 18446744073709551616) % n < n :=
  ⟨Int.emod_nonneg _ (by omega), Int.emod_lt_of_pos _ h0⟩

end Go.Proofs.Ytiobphijbpdolaa.P
