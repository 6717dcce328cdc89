/- Words in order. (Plain facts.) -/
import Derived.Test.YtffokmamcempgaaQU
import Derived.Lib.Bytealg
namespace Go.Proofs.Ytffokmamcempgaa.P
open Go Go.RowKit
set_option linter.unusedVariables false
set_option linter.unusedSimpArgs false
theorem cmp_trans : ∀ a b c : List UInt8, Lib.compareBytes a b < 0 → Lib.compareBytes b c < 0 → Lib.compareBytes a c < 0
  | [], b, c => by
    intro h1 h2
    cases b with
    | nil => simp [Lib.compareBytes] at h1
    | cons y b =>
      cases c with
      | nil => simp [Lib.compareBytes] at h2
      | cons z c => simp [Lib.compareBytes]
  | x :: a, b, c => by
    intro h1 h2
    cases b with
    | nil => simp [Lib.compareBytes] at h1
    | cons y b =>
      cases c with
      | nil => simp [Lib.compareBytes] at h2
      | cons z c =>
        simp only [Lib.compareBytes] at h1 h2 ⊢
        simp only [UInt8.lt_iff_toNat_lt] at *
        by_cases hxy : x.toNat < y.toNat
        · by_cases hyz : y.toNat < z.toNat
          · rw [if_pos (by omega)]; decide
          · rw [if_neg hyz] at h2
            by_cases hzy : z.toNat < y.toNat
            · rw [if_pos hzy] at h2; simp at h2
            · rw [if_pos (by omega)]; decide
        · rw [if_neg hxy] at h1
          by_cases hyx : y.toNat < x.toNat
          · rw [if_pos hyx] at h1; simp at h1
          · rw [if_neg hyx] at h1
            by_cases hyz : y.toNat < z.toNat
            · rw [if_pos (by omega)]; decide
            · rw [if_neg hyz] at h2
              by_cases hzy : z.toNat < y.toNat
              · rw [if_pos hzy] at h2; simp at h2
              · rw [if_neg hzy] at h2
                rw [if_neg (by omega), if_neg (by omega)]
                exact cmp_trans a b c h1 h2
def wordLt (a b : ByteArray) : Bool := decide (Lib.compareBytes a.data.toList b.data.toList < 0)
def risingW : List ByteArray → Bool
  | a :: b :: l => wordLt a b && risingW (b :: l)
  | _ => true
theorem wordLt_trans {a b c : ByteArray} (h1 : wordLt a b = true) (h2 : wordLt b c = true) : wordLt a c = true := by
  simp only [wordLt, decide_eq_true_eq] at *
  exact cmp_trans _ _ _ h1 h2
theorem cmp_self : ∀ a : List UInt8, Lib.compareBytes a a = 0
  | [] => rfl
  | x :: a => by
    simp only [Lib.compareBytes, UInt8.lt_iff_toNat_lt]
    rw [if_neg (by omega), if_neg (by omega)]
    exact cmp_self a
theorem cmp_neg : ∀ a b : List UInt8, Lib.compareBytes a b = - Lib.compareBytes b a
  | [], [] => rfl
  | [], _ :: _ => rfl
  | _ :: _, [] => rfl
  | x :: a, y :: b => by
    simp only [Lib.compareBytes, UInt8.lt_iff_toNat_lt]
    by_cases h1 : x.toNat < y.toNat
    · rw [if_pos h1, if_neg (by omega), if_pos h1]
    · rw [if_neg h1]
      by_cases h2 : y.toNat < x.toNat
      · rw [if_pos h2, if_pos h2]; rfl
      · rw [if_neg h2, if_neg h2, if_neg h1]
        exact cmp_neg a b
theorem risingW_pairs : ∀ l : List ByteArray, risingW l = true ↔ l.Pairwise (fun a b => wordLt a b = true)
  | [] => by simp [risingW]
  | [a] => by simp [risingW]
  | a :: b :: l => by
    have ih := risingW_pairs (b :: l)
    rw [risingW, Bool.and_eq_true, ih, List.pairwise_cons (a := a)]
    constructor
    · rintro ⟨h1, h2⟩
      refine ⟨?_, h2⟩
      intro c hc
      rcases List.mem_cons.1 hc with rfl | hc
      · exact h1
      · exact wordLt_trans h1 ((List.pairwise_cons.1 h2).1 c hc)
    · rintro ⟨h1, h2⟩
      exact ⟨h1 b (by simp), h2⟩
def wordsOk (l : List ByteArray) : Int := if 60 < l.length then 3 else if l.all (fun w => isWordL w.data.toList) then (if risingW l then 0 else 7) else 6
theorem wordsOk_pairs {l : List ByteArray} (h : wordsOk l = 0) : l.length ≤ 60 ∧ (∀ x ∈ l, isWordL x.data.toList = true) ∧ l.Pairwise (fun a b => wordLt a b = true) := by
  unfold wordsOk at h
  split at h
  · cases h
  · rename_i hl
    split at h
    · rename_i ha
      split at h
      · rename_i hr
        exact ⟨by omega, fun x hx => List.all_eq_true.1 ha x hx, (risingW_pairs l).1 hr⟩
      · cases h
    · cases h
theorem wordsOk_of {l : List ByteArray} (h1 : l.length ≤ 60) (h2 : ∀ x ∈ l, isWordL x.data.toList = true) (h3 : l.Pairwise (fun a b => wordLt a b = true)) : wordsOk l = 0 := by
  unfold wordsOk
  rw [if_neg (by omega), if_pos (List.all_eq_true.2 h2), if_pos ((risingW_pairs l).2 h3)]
theorem wordsOk_filter {l : List ByteArray} (h : wordsOk l = 0) (p : ByteArray → Bool) : wordsOk (l.filter p) = 0 := by
  obtain ⟨h1, h2, h3⟩ := wordsOk_pairs h
  exact wordsOk_of (Nat.le_trans (List.length_filter_le _ _) h1) (fun x hx => h2 x (List.mem_filter.1 hx).1) (h3.filter _)
end Go.Proofs.Ytffokmamcempgaa.P
