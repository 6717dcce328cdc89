/- Chapter 1's own answer tells the length of a text as text.Len does. -/
import Derived.Test.YtiobphijbpdolaaQEv
import Derived.Test.YtiobphijbpdolaaPx19
namespace Go.Proofs.Ytiobphijbpdolaa.P
open Go.RowKit Go.Proofs.YtiobphijbpdolaaW.PrintWords Go.Proofs.YtiobphijbpdolaaW.PrintLast Go.Proofs.YtiobphijbpdolaaW.PrintMore
set_option linter.unusedVariables false
set_option linter.unusedSimpArgs false

theorem wrap32_small {x : Int} (h0 : -2147483648 ≤ x) (h1 : x ≤ 2147483647) : wrap32 x = x := by unfold wrap32; omega
def moreP (s : ByteArray) (i : Nat) : Int × Bool := if i < s.size ∧ 128 ≤ bt s i ∧ bt s i ≤ 191 then (bt s i - 128, true) else (0, false)
theorem more_is (s : ByteArray) (i : Nat) : inkhornref1_more.f s (i : Int) = some (moreP s i) := by
  unfold inkhornref1_more.f moreP
  have hb := bt_range s i
  by_cases h : i < s.size
  · rw [if_neg (by omega), if_pos (by omega), if_pos (by omega)]
    by_cases h1 : bt s i < 128
    · rw [if_pos h1, if_neg (by omega)]
    · rw [if_neg h1]
      by_cases h2 : bt s i > 191
      · rw [if_pos h2, if_neg (by omega)]
      · rw [if_neg h2, if_pos ⟨h, by omega, by omega⟩, wrap32_small (x := bt s i) (by omega) (by omega), wrap32_small (by omega) (by omega)]
  · rw [if_pos (by omega), if_neg (by omega)]
theorem more_range (s : ByteArray) (i : Nat) : 0 ≤ (moreP s i).1 ∧ (moreP s i).1 ≤ 63 := by
  unfold moreP
  split
  · simp only; omega
  · simp
def oneP (b0 : Int) (m1 m2 m3 : Int × Bool) : Int × Int :=
  if b0 < 128 then (b0, 1)
  else if 194 ≤ b0 ∧ b0 ≤ 223 ∧ m1.2 = true then ((b0 - 192) * 64 + m1.1, 2)
  else if 224 ≤ b0 ∧ b0 ≤ 239 ∧ m1.2 = true ∧ m2.2 = true then ((b0 - 224) * 4096 + m1.1 * 64 + m2.1, 3)
  else if 240 ≤ b0 ∧ b0 ≤ 244 ∧ m1.2 = true ∧ m2.2 = true ∧ m3.2 = true then ((b0 - 240) * 262144 + m1.1 * 4096 + m2.1 * 64 + m3.1, 4)
  else (0, 0)
theorem one_j1 (b0 x7 x9 x11 : Int) (k1 k2 k3 : Bool) (hb : 0 ≤ b0 ∧ b0 ≤ 255) (h1 : 0 ≤ x7 ∧ x7 ≤ 63) (h2 : 0 ≤ x9 ∧ x9 ≤ 63) (h3 : 0 ≤ x11 ∧ x11 ≤ 63) (h128 : ¬ b0 < 128) (hn : ¬ (194 ≤ b0 ∧ b0 ≤ 223 ∧ k1 = true)) (k : Nat) :
    inkhornref1_one.j1 (k + 1) b0 x7 k1 x9 k2 x11 k3 (decide (224 ≤ b0 ∧ b0 ≤ 239) && k1 && k2) = some (oneP b0 (x7, k1) (x9, k2) (x11, k3)) := by
  simp only [inkhornref1_one.j1, oneP]
  rw [if_neg h128, if_neg hn]
  by_cases h3b : 224 ≤ b0 ∧ b0 ≤ 239 ∧ k1 = true ∧ k2 = true
  · rw [if_pos h3b, h3b.2.2.1, h3b.2.2.2, if_pos (by simp; omega)]
    rw [wrap32_small (x := b0 - 224) (by omega) (by omega), wrap32_small (x := (b0 - 224) * 4096) (by omega) (by omega), wrap32_small (x := x7 * 64) (by omega) (by omega), wrap32_small (x := (b0 - 224) * 4096 + x7 * 64) (by omega) (by omega), wrap32_small (by omega) (by omega)]
  · rw [if_neg h3b, if_neg (by simp only [Bool.and_eq_true, decide_eq_true_eq]; exact fun h => h3b ⟨h.1.1.1, h.1.1.2, h.1.2, h.2⟩)]
    by_cases h4 : 240 ≤ b0 ∧ b0 ≤ 244 ∧ k1 = true ∧ k2 = true ∧ k3 = true
    · rw [if_pos h4, if_pos h4.1, if_pos h4.2.1, if_pos h4.2.2.1, if_pos h4.2.2.2.1, if_pos h4.2.2.2.2]
      rw [wrap32_small (x := b0 - 240) (by omega) (by omega), wrap32_small (x := (b0 - 240) * 262144) (by omega) (by omega), wrap32_small (x := x7 * 4096) (by omega) (by omega), wrap32_small (x := (b0 - 240) * 262144 + x7 * 4096) (by omega) (by omega), wrap32_small (x := x9 * 64) (by omega) (by omega), wrap32_small (x := (b0 - 240) * 262144 + x7 * 4096 + x9 * 64) (by omega) (by omega), wrap32_small (by omega) (by omega)]
    · rw [if_neg h4]
      repeat' split
      all_goals first | rfl | (exfalso; exact h4 ⟨by assumption, by assumption, by assumption, by assumption, by assumption⟩)
theorem one_j0 (b0 x7 x9 x11 : Int) (k1 k2 k3 : Bool) (hb : 0 ≤ b0 ∧ b0 ≤ 255) (h1 : 0 ≤ x7 ∧ x7 ≤ 63) (h2 : 0 ≤ x9 ∧ x9 ≤ 63) (h3 : 0 ≤ x11 ∧ x11 ≤ 63) (h128 : ¬ b0 < 128) (k : Nat) :
    inkhornref1_one.j0 (k + 2) b0 x7 k1 x9 k2 x11 k3 (decide (194 ≤ b0 ∧ b0 ≤ 223) && k1) = some (oneP b0 (x7, k1) (x9, k2) (x11, k3)) := by
  by_cases h : 194 ≤ b0 ∧ b0 ≤ 223 ∧ k1 = true
  · simp only [inkhornref1_one.j0, oneP]
    rw [if_neg h128, if_pos h, h.2.2, if_pos (by simp; omega)]
    rw [wrap32_small (x := b0 - 192) (by omega) (by omega), wrap32_small (x := (b0 - 192) * 64) (by omega) (by omega), wrap32_small (by omega) (by omega)]
  · have hj := one_j1 b0 x7 x9 x11 k1 k2 k3 hb h1 h2 h3 h128 h k
    rw [inkhornref1_one.j0, if_neg (by simp only [Bool.and_eq_true, decide_eq_true_eq]; exact fun e => h ⟨e.1.1, e.1.2, e.2⟩)]
    rw [← hj]
    by_cases q1 : b0 ≥ 224
    · rw [if_pos q1]
      by_cases q2 : b0 ≤ 239
      · rw [if_pos q2, show decide (224 ≤ b0 ∧ b0 ≤ 239) = true from decide_eq_true ⟨q1, q2⟩]
        cases k1 <;> simp
      · rw [if_neg q2, show decide (224 ≤ b0 ∧ b0 ≤ 239) = false from decide_eq_false (fun e => q2 e.2)]
        simp
    · rw [if_neg q1, show decide (224 ≤ b0 ∧ b0 ≤ 239) = false from decide_eq_false (fun e => q1 e.1)]
      simp
theorem one_is (s : ByteArray) (i : Nat) (hi : i < s.size) (hs : s.size ≤ 140737488355328) (k : Nat) : inkhornref1_one.f (k + 2) s (i : Int) = some (oneP (bt s i) (moreP s (i + 1)) (moreP s (i + 2)) (moreP s (i + 3))) := by
  have hb := bt_range s i
  have r1 := more_range s (i + 1)
  have r2 := more_range s (i + 2)
  have r3 := more_range s (i + 3)
  unfold inkhornref1_one.f
  rw [if_pos (by omega), if_pos (by omega), wrap_small (i := (i : Int) + 1) (by omega) (by omega), wrap_small (i := (i : Int) + 2) (by omega) (by omega), wrap_small (i := (i : Int) + 3) (by omega) (by omega)]
  rw [show (i : Int) + 1 = ((i + 1 : Nat) : Int) from rfl, show (i : Int) + 2 = ((i + 2 : Nat) : Int) from rfl, show (i : Int) + 3 = ((i + 3 : Nat) : Int) from rfl, more_is, more_is, more_is]
  simp only [Option.bind_some]
  rw [wrap32_small (x := bt s i) (by omega) (by omega)]
  by_cases h : bt s i < 128
  · rw [if_pos h]
    unfold oneP
    rw [if_pos h]
  · rw [if_neg h]
    have hj := one_j0 (bt s i) (moreP s (i + 1)).1 (moreP s (i + 2)).1 (moreP s (i + 3)).1 (moreP s (i + 1)).2 (moreP s (i + 2)).2 (moreP s (i + 3)).2 hb r1 r2 r3 h k
    rw [← hj]
    by_cases q1 : bt s i ≥ 194
    · rw [if_pos q1]
      by_cases q2 : bt s i ≤ 223
      · rw [if_pos q2, show decide (194 ≤ bt s i ∧ bt s i ≤ 223) = true from decide_eq_true ⟨q1, q2⟩, Bool.true_and]
      · rw [if_neg q2, show decide (194 ≤ bt s i ∧ bt s i ≤ 223) = false from decide_eq_false (fun e => q2 e.2), Bool.false_and]
    · rw [if_neg q1, show decide (194 ≤ bt s i ∧ bt s i ≤ 223) = false from decide_eq_false (fun e => q1 e.1), Bool.false_and]
def goodR (r : Int) : Bool := decide (0 ≤ r) && decide (r ≤ 1114111) && (decide (r < 55296) || decide (57343 < r)) && decide (r ≠ 65533)
def badP (o : Int × Int) : Bool := decide (o.2 = 0) || !goodR o.1 || (decide (o.2 = 3) && decide (o.1 < 2048)) || (decide (o.2 = 4) && decide (o.1 < 65536))
def contN (p : Bool) (b : Nat) : Bool := p && b / 64 == 2
def decN (b0 b1 b2 b3 : Nat) (c1 c2 c3 : Bool) : Nat × Nat :=
  if b0 < 0x80 then (b0, 1)
  else if b0 / 32 == 6 && c1 then (if (b0 % 32) * 64 + b1 % 64 ≥ 0x80 then ((b0 % 32) * 64 + b1 % 64, 2) else (65533, 1))
  else if b0 / 16 == 14 && c1 && c2 then (if (b0 % 16) * 4096 + (b1 % 64) * 64 + b2 % 64 ≥ 0x800 && Utf8.valid (((b0 % 16) * 4096 + (b1 % 64) * 64 + b2 % 64 : Nat) : Int) then ((b0 % 16) * 4096 + (b1 % 64) * 64 + b2 % 64, 3) else (65533, 1))
  else if b0 / 8 == 30 && c1 && c2 && c3 then (if (b0 % 8) * 262144 + (b1 % 64) * 4096 + (b2 % 64) * 64 + b3 % 64 ≥ 0x10000 && Utf8.valid (((b0 % 8) * 262144 + (b1 % 64) * 4096 + (b2 % 64) * 64 + b3 % 64 : Nat) : Int) then ((b0 % 8) * 262144 + (b1 % 64) * 4096 + (b2 % 64) * 64 + b3 % 64, 4) else (65533, 1))
  else (65533, 1)
def mN (c : Bool) (b : Nat) : Int × Bool := if c = true then ((b : Int) - 128, true) else (0, false)
/-- Of one rune the two tell the same, or both that it is none. -/
def Alike (d : Nat × Nat) (o : Int × Int) : Prop := (badP o = true ∧ d.1 = 65533) ∨ (badP o = false ∧ (d.1 : Int) = o.1 ∧ (d.2 : Int) = o.2 ∧ d.1 ≠ 65533)
theorem valid_iff (x : Nat) : Utf8.valid (x : Int) = true ↔ x < 55296 ∨ (57344 ≤ x ∧ x ≤ 1114111) := by
  simp only [Utf8.valid, Bool.or_eq_true, Bool.and_eq_true, decide_eq_true_eq]
  omega
theorem alike_no (d : Nat × Nat) (o : Int × Int) (hd : d.1 = 65533) (ho : badP o = true) : Alike d o := Or.inl ⟨ho, hd⟩
theorem alike_yes (x n : Nat) (o : Int × Int) (h1 : (x : Int) = o.1) (h2 : (n : Int) = o.2) (hb : badP o = false) : Alike (x, n) o := by
  refine Or.inr ⟨hb, h1, h2, fun e => ?_⟩
  have e : x = 65533 := e
  simp only [badP, goodR, Bool.or_eq_false_iff, Bool.not_eq_false', Bool.and_eq_true, decide_eq_true_eq] at hb
  omega
theorem alike_is (b0 b1 b2 b3 : Nat) (c1 c2 c3 : Bool) (h0 : b0 < 256) (h1 : c1 = true → b1 / 64 = 2) (h2 : c2 = true → b2 / 64 = 2) (h3 : c3 = true → b3 / 64 = 2) :
    Alike (decN b0 b1 b2 b3 c1 c2 c3) (oneP (b0 : Int) (mN c1 b1) (mN c2 b2) (mN c3 b3)) := by
  by_cases q : b0 < 128
  · unfold decN oneP
    rw [if_pos q, if_pos (by omega)]
    exact alike_yes _ _ _ rfl rfl (by simp [badP, goodR]; omega)
  cases c1 with
  | false =>
    have e1 : oneP (b0 : Int) (mN false b1) (mN c2 b2) (mN c3 b3) = (0, 0) := by
      unfold oneP mN
      rw [if_neg (by omega)]
      simp
    have e2 : (decN b0 b1 b2 b3 false c2 c3).1 = 65533 := by
      unfold decN
      rw [if_neg (by omega)]
      simp
    rw [e1]
    exact alike_no _ _ e2 rfl
  | true =>
  have g1 := h1 rfl
  by_cases q2 : b0 / 32 = 6
  · have e2 : decN b0 b1 b2 b3 true c2 c3 = if (b0 % 32) * 64 + b1 % 64 ≥ 0x80 then ((b0 % 32) * 64 + b1 % 64, 2) else (65533, 1) := by
      unfold decN
      rw [if_neg (by omega), if_pos (by simp [q2])]
    rw [e2]
    by_cases q3 : 194 ≤ b0
    · have e1 : oneP (b0 : Int) (mN true b1) (mN c2 b2) (mN c3 b3) = (((b0 : Int) - 192) * 64 + ((b1 : Int) - 128), 2) := by
        unfold oneP
        rw [if_neg (by omega), if_pos ⟨by omega, by omega, rfl⟩]
        rfl
      rw [e1, if_pos (by omega)]
      exact alike_yes _ _ _ (by simp only; omega) rfl (by simp only [badP, goodR, Bool.or_eq_false_iff, Bool.not_eq_false', Bool.and_eq_true, Bool.or_eq_true, decide_eq_true_eq, Bool.and_eq_false_iff, decide_eq_false_iff_not]; omega)
    · have e1 : oneP (b0 : Int) (mN true b1) (mN c2 b2) (mN c3 b3) = (0, 0) := by
        unfold oneP
        rw [if_neg (by omega), if_neg (by omega), if_neg (by omega), if_neg (by omega)]
      rw [e1, if_neg (by omega)]
      exact alike_no _ _ rfl rfl
  by_cases q4 : b0 / 16 = 14
  · cases c2 with
    | false =>
      have e1 : oneP (b0 : Int) (mN true b1) (mN false b2) (mN c3 b3) = (0, 0) := by
        unfold oneP mN
        rw [if_neg (by omega), if_neg (by omega)]
        simp
      have e2 : (decN b0 b1 b2 b3 true false c3).1 = 65533 := by
        unfold decN
        rw [if_neg (by omega)]
        simp [q2]
      rw [e1]
      exact alike_no _ _ e2 rfl
    | true =>
      have g2 := h2 rfl
      have e1 : oneP (b0 : Int) (mN true b1) (mN true b2) (mN c3 b3) = (((b0 : Int) - 224) * 4096 + ((b1 : Int) - 128) * 64 + ((b2 : Int) - 128), 3) := by
        unfold oneP
        rw [if_neg (by omega), if_neg (by omega), if_pos ⟨by omega, by omega, rfl, rfl⟩]
        rfl
      have e2 : decN b0 b1 b2 b3 true true c3 = if (b0 % 16) * 4096 + (b1 % 64) * 64 + b2 % 64 ≥ 0x800 && Utf8.valid (((b0 % 16) * 4096 + (b1 % 64) * 64 + b2 % 64 : Nat) : Int) then ((b0 % 16) * 4096 + (b1 % 64) * 64 + b2 % 64, 3) else (65533, 1) := by
        unfold decN
        rw [if_neg (by omega), if_neg (by simp [q2]), if_pos (by simp [q4])]
      rw [e1, e2]
      obtain ⟨x, hx⟩ : ∃ x, x = (b0 % 16) * 4096 + (b1 % 64) * 64 + b2 % 64 := ⟨_, rfl⟩
      have hxi : ((b0 : Int) - 224) * 4096 + ((b1 : Int) - 128) * 64 + ((b2 : Int) - 128) = (x : Int) := by omega
      rw [← hx, hxi]
      by_cases hv : x ≥ 0x800 ∧ (x < 55296 ∨ (57344 ≤ x ∧ x ≤ 1114111))
      · rw [if_pos (by simp only [Bool.and_eq_true, decide_eq_true_eq]; exact ⟨hv.1, (valid_iff x).2 hv.2⟩)]
        by_cases h5 : x = 65533
        · exact alike_no _ _ h5 (by simp [badP, goodR, h5])
        · exact alike_yes _ _ _ rfl rfl (by simp only [badP, goodR, Bool.or_eq_false_iff, Bool.not_eq_false', Bool.and_eq_true, Bool.or_eq_true, decide_eq_true_eq, Bool.and_eq_false_iff, decide_eq_false_iff_not]; omega)
      · rw [if_neg (by simp only [Bool.and_eq_true, decide_eq_true_eq]; exact fun h => hv ⟨h.1, (valid_iff x).1 h.2⟩)]
        refine alike_no _ _ rfl ?_
        simp only [badP, goodR, Bool.or_eq_true, Bool.not_eq_true', Bool.and_eq_true, Bool.or_eq_false_iff, Bool.and_eq_false_iff, decide_eq_true_eq, decide_eq_false_iff_not, true_and, ne_eq, Decidable.not_not]
        omega
  by_cases q5 : b0 / 8 = 30
  · cases hc : (c2 && c3) with
    | false =>
      have e1 : oneP (b0 : Int) (mN true b1) (mN c2 b2) (mN c3 b3) = (0, 0) := by
        unfold oneP mN
        rw [if_neg (by omega), if_neg (by omega), if_neg (by omega)]
        cases c2 <;> cases c3 <;> simp at hc ⊢
      have e2 : (decN b0 b1 b2 b3 true c2 c3).1 = 65533 := by
        unfold decN
        rw [if_neg (by omega)]
        cases c2 <;> cases c3 <;> simp [q2, q4] at hc ⊢
      rw [e1]
      exact alike_no _ _ e2 rfl
    | true =>
      simp only [Bool.and_eq_true] at hc
      obtain ⟨rfl, rfl⟩ := hc
      have g2 := h2 rfl
      have g3 := h3 rfl
      have e2 : decN b0 b1 b2 b3 true true true = if (b0 % 8) * 262144 + (b1 % 64) * 4096 + (b2 % 64) * 64 + b3 % 64 ≥ 0x10000 && Utf8.valid (((b0 % 8) * 262144 + (b1 % 64) * 4096 + (b2 % 64) * 64 + b3 % 64 : Nat) : Int) then ((b0 % 8) * 262144 + (b1 % 64) * 4096 + (b2 % 64) * 64 + b3 % 64, 4) else (65533, 1) := by
        unfold decN
        rw [if_neg (by omega), if_neg (by simp [q2]), if_neg (by simp [q4]), if_pos (by simp [q5])]
      rw [e2]
      obtain ⟨x, hx⟩ : ∃ x, x = (b0 % 8) * 262144 + (b1 % 64) * 4096 + (b2 % 64) * 64 + b3 % 64 := ⟨_, rfl⟩
      rw [← hx]
      by_cases q6 : b0 ≤ 244
      · have e1 : oneP (b0 : Int) (mN true b1) (mN true b2) (mN true b3) = (((b0 : Int) - 240) * 262144 + ((b1 : Int) - 128) * 4096 + ((b2 : Int) - 128) * 64 + ((b3 : Int) - 128), 4) := by
          unfold oneP
          rw [if_neg (by omega), if_neg (by omega), if_neg (by omega), if_pos ⟨by omega, by omega, rfl, rfl, rfl⟩]
          rfl
        have hxi : ((b0 : Int) - 240) * 262144 + ((b1 : Int) - 128) * 4096 + ((b2 : Int) - 128) * 64 + ((b3 : Int) - 128) = (x : Int) := by omega
        rw [e1, hxi]
        by_cases hv : x ≥ 0x10000 ∧ (x < 55296 ∨ (57344 ≤ x ∧ x ≤ 1114111))
        · rw [if_pos (by simp only [Bool.and_eq_true, decide_eq_true_eq]; exact ⟨hv.1, (valid_iff x).2 hv.2⟩)]
          exact alike_yes _ _ _ rfl rfl (by simp only [badP, goodR, Bool.or_eq_false_iff, Bool.not_eq_false', Bool.and_eq_true, Bool.or_eq_true, decide_eq_true_eq, Bool.and_eq_false_iff, decide_eq_false_iff_not]; omega)
        · rw [if_neg (by simp only [Bool.and_eq_true, decide_eq_true_eq]; exact fun h => hv ⟨h.1, (valid_iff x).1 h.2⟩)]
          refine alike_no _ _ rfl ?_
          simp only [badP, goodR, Bool.or_eq_true, Bool.not_eq_true', Bool.and_eq_true, Bool.or_eq_false_iff, Bool.and_eq_false_iff, decide_eq_true_eq, decide_eq_false_iff_not, true_and, ne_eq, Decidable.not_not]
          omega
      · have e1 : oneP (b0 : Int) (mN true b1) (mN true b2) (mN true b3) = (0, 0) := by
          unfold oneP
          rw [if_neg (by omega), if_neg (by omega), if_neg (by omega), if_neg (by omega)]
        rw [e1, if_neg (by simp only [Bool.and_eq_true, decide_eq_true_eq]; exact fun h => by have := (valid_iff x).1 h.2; omega)]
        exact alike_no _ _ rfl rfl
  · have e1 : oneP (b0 : Int) (mN true b1) (mN c2 b2) (mN c3 b3) = (0, 0) := by
      unfold oneP
      rw [if_neg (by omega), if_neg (by omega), if_neg (by omega), if_neg (by omega)]
    have e2 : (decN b0 b1 b2 b3 true c2 c3).1 = 65533 := by
      unfold decN
      rw [if_neg (by omega), if_neg (by simp [q2]), if_neg (by simp [q4]), if_neg (by simp [q5])]
    rw [e1]
    exact alike_no _ _ e2 rfl
theorem bt_get (s : ByteArray) (i : Nat) (h : i < s.size) : bt s (i : Int) = ((s.get! i).toNat : Int) := by
  have e : (s.get! i) = s[i] := by
    show s.data[i]! = s.data[i]
    exact getElem!_pos s.data i h
  rw [e]
  simp [bt, h]
theorem more_mN (s : ByteArray) (i : Nat) : moreP s i = mN (decide (i < s.size) && (s.get! i).toNat / 64 == 2) (s.get! i).toNat := by
  unfold moreP mN
  by_cases h : i < s.size
  · have e := bt_get s i h
    rw [decide_eq_true h, Bool.true_and]
    by_cases h2 : (s.get! i).toNat / 64 = 2
    · rw [if_pos ⟨h, by omega, by omega⟩, if_pos (by simpa using h2), e]
    · rw [if_neg (by omega), if_neg (by simpa using h2)]
  · rw [if_neg (by omega), decide_eq_false h, Bool.false_and, if_neg (by simp)]
theorem alike_at (s : ByteArray) (i : Nat) (hi : i < s.size) : Alike (Utf8.decode s i) (oneP (bt s i) (moreP s (i + 1)) (moreP s (i + 2)) (moreP s (i + 3))) := by
  rw [bt_get s i hi, more_mN, more_mN, more_mN]
  have hd : Utf8.decode s i = decN (s.get! i).toNat (s.get! (i + 1)).toNat (s.get! (i + 2)).toNat (s.get! (i + 3)).toNat (decide (i + 1 < s.size) && (s.get! (i + 1)).toNat / 64 == 2) (decide (i + 2 < s.size) && (s.get! (i + 2)).toNat / 64 == 2) (decide (i + 3 < s.size) && (s.get! (i + 3)).toNat / 64 == 2) := rfl
  rw [hd]
  have hc : ∀ j : Nat, (decide (i + j < s.size) && (s.get! (i + j)).toNat / 64 == 2) = true → (s.get! (i + j)).toNat / 64 = 2 := fun j h => by
    simp only [Bool.and_eq_true, beq_iff_eq] at h
    exact h.2
  exact alike_is _ _ _ _ _ _ _ (UInt8.toNat_lt _) (hc 1) (hc 2) (hc 3)
theorem goodR_is (r : Int) : inkhornref1_Good.f r = some (goodR r) := by
  unfold inkhornref1_Good.f goodR
  by_cases h1 : r ≥ 0
  · rw [if_pos h1, decide_eq_true (show 0 ≤ r from h1), Bool.true_and]
    by_cases h2 : r ≤ 1114111
    · rw [if_pos h2, decide_eq_true h2, Bool.true_and]
      by_cases h3 : r < 55296
      · rw [if_pos h3, decide_eq_true h3, Bool.true_or, Bool.true_and]
        congr 1
        by_cases h : r = 65533 <;> simp [h]
      · rw [if_neg h3, decide_eq_false h3, Bool.false_or]
        by_cases h4 : r > 57343
        · rw [if_pos h4, decide_eq_true (show 57343 < r from h4), Bool.true_and]
          congr 1
          by_cases h : r = 65533 <;> simp [h]
        · rw [if_neg h4, decide_eq_false (show ¬ 57343 < r from h4), Bool.false_and]
    · rw [if_neg h2, decide_eq_false h2]; simp
  · rw [if_neg h1, decide_eq_false (show ¬ 0 ≤ r from h1)]; simp
def resR (acc l : List Int) : List Int × Bool := if l.contains 65533 then ([], false) else (acc ++ l, true)
theorem runes_loop (s : ByteArray) (hs : s.size ≤ 35184372088000) : ∀ (b i : Nat) (acc : List Int), s.size ≤ i + b → i ≤ s.size + 4 → acc.length ≤ i → Ev (fun k => inkhornref1_Runes.l0 k s acc (i : Int)) (resR acc (runesFrom s b i))
  | b, i, acc, hb, hi, ha => by
    by_cases h : i < s.size
    · cases b with
      | zero => omega
      | succ b =>
      have hal := alike_at s i h
      obtain ⟨o, ho⟩ : ∃ o, o = oneP (bt s i) (moreP s (i + 1)) (moreP s (i + 2)) (moreP s (i + 3)) := ⟨_, rfl⟩
      rw [← ho] at hal
      have hw := width_le s i
      have hwp := width_pos s i h
      rw [runesFrom, if_pos h]
      have h1 : Ev (fun k => inkhornref1_one.f k s (i : Int)) o := ⟨2, fun k hk => by
        obtain ⟨j, rfl⟩ : ∃ j, k = j + 2 := ⟨k - 2, by omega⟩
        rw [ho]; exact one_is s i h (by omega) j⟩
      rcases hal with ⟨hbad, hd⟩ | ⟨hok, hd1, hd2, hd3⟩
      · have hres : resR acc (((Utf8.decode s i).1 : Int) :: runesFrom s b (i + (Utf8.decode s i).2)) = ([], false) := by
          unfold resR
          rw [if_pos (by rw [hd]; simp)]
        rw [hres]
        refine Ev.step (f := fun k => (inkhornref1_one.f k s (i : Int)).bind fun t => if t.2 = 0 then some ([], false) else ((inkhornref1_Good.f t.1).bind fun u => (if u = true then (if t.2 = 3 then (if t.1 < 2048 then (some (([] : List Int), false)) else (if t.2 = 4 then (if t.1 < 65536 then (some (([] : List Int), false)) else (if acc.length < 35184372088832 then (inkhornref1_Runes.l0 k s (acc ++ [t.1]) (wrap64 ((i : Int) + t.2))) else (none))) else (if acc.length < 35184372088832 then (inkhornref1_Runes.l0 k s (acc ++ [t.1]) (wrap64 ((i : Int) + t.2))) else (none)))) else (if t.2 = 4 then (if t.1 < 65536 then (some (([] : List Int), false)) else (if acc.length < 35184372088832 then (inkhornref1_Runes.l0 k s (acc ++ [t.1]) (wrap64 ((i : Int) + t.2))) else (none))) else (if acc.length < 35184372088832 then (inkhornref1_Runes.l0 k s (acc ++ [t.1]) (wrap64 ((i : Int) + t.2))) else (none)))) else (some (([] : List Int), false))))) (fun k => by simp only [inkhornref1_Runes.l0]; rw [if_pos (by omega)]) ?_
        refine ev_bind h1 ?_
        by_cases h2 : o.2 = 0
        · exact ev_if_pos h2 (ev_some rfl)
        refine ev_if_neg h2 (ev_bind (ev_const (goodR_is o.1)) ?_)
        cases hg : goodR o.1 with
        | false => exact ev_if_neg (by simp) (ev_some rfl)
        | true =>
        refine ev_if_pos rfl ?_
        have hb2 : (o.2 = 3 ∧ o.1 < 2048) ∨ (o.2 = 4 ∧ o.1 < 65536) := by
          simp only [badP, hg, h2, decide_false, Bool.not_true, Bool.or_false, Bool.false_or, Bool.or_eq_true, Bool.and_eq_true, decide_eq_true_eq] at hbad
          exact hbad
        rcases hb2 with ⟨e3, e4⟩ | ⟨e3, e4⟩
        · exact ev_if_pos e3 (ev_if_pos e4 (ev_some rfl))
        · exact ev_if_neg (by omega) (ev_if_pos e3 (ev_if_pos e4 (ev_some rfl)))
      · have hg : o.2 ≠ 0 ∧ goodR o.1 = true ∧ ¬ (o.2 = 3 ∧ o.1 < 2048) ∧ ¬ (o.2 = 4 ∧ o.1 < 65536) := by
          simp only [badP, Bool.or_eq_false_iff, Bool.not_eq_false', Bool.and_eq_false_iff, decide_eq_false_iff_not] at hok
          exact ⟨hok.1.1.1, hok.1.1.2, by omega, by omega⟩
        have hn : wrap64 ((i : Int) + o.2) = ((i + (Utf8.decode s i).2 : Nat) : Int) := by rw [← hd2, wrap_small (by omega) (by omega)]; omega
        have ih := runes_loop s hs b (i + (Utf8.decode s i).2) (acc ++ [o.1]) (by omega) (by omega) (by simp; omega)
        have hres : resR acc (((Utf8.decode s i).1 : Int) :: runesFrom s b (i + (Utf8.decode s i).2)) = resR (acc ++ [o.1]) (runesFrom s b (i + (Utf8.decode s i).2)) := by
          unfold resR
          have h65 : ¬ (65533 : Int) = ((Utf8.decode s i).1 : Int) := by omega
          rw [List.contains_cons, beq_eq_false_iff_ne.2 h65, Bool.false_or, ← hd1]
          simp
        rw [hres]
        refine Ev.step (f := fun k => (inkhornref1_one.f k s (i : Int)).bind fun t => if t.2 = 0 then some ([], false) else ((inkhornref1_Good.f t.1).bind fun u => (if u = true then (if t.2 = 3 then (if t.1 < 2048 then (some (([] : List Int), false)) else (if t.2 = 4 then (if t.1 < 65536 then (some (([] : List Int), false)) else (if acc.length < 35184372088832 then (inkhornref1_Runes.l0 k s (acc ++ [t.1]) (wrap64 ((i : Int) + t.2))) else (none))) else (if acc.length < 35184372088832 then (inkhornref1_Runes.l0 k s (acc ++ [t.1]) (wrap64 ((i : Int) + t.2))) else (none)))) else (if t.2 = 4 then (if t.1 < 65536 then (some (([] : List Int), false)) else (if acc.length < 35184372088832 then (inkhornref1_Runes.l0 k s (acc ++ [t.1]) (wrap64 ((i : Int) + t.2))) else (none))) else (if acc.length < 35184372088832 then (inkhornref1_Runes.l0 k s (acc ++ [t.1]) (wrap64 ((i : Int) + t.2))) else (none)))) else (some (([] : List Int), false))))) (fun k => by simp only [inkhornref1_Runes.l0]; rw [if_pos (by omega)]) ?_
        refine ev_bind h1 (ev_if_neg hg.1 (ev_bind (ev_const (goodR_is o.1)) ?_))
        rw [hg.2.1]
        refine ev_if_pos rfl ?_
        rw [hn]
        have hal2 : acc.length < 35184372088832 := by omega
        by_cases e3 : o.2 = 3
        · exact ev_if_pos e3 (ev_if_neg (fun h => hg.2.2.1 ⟨e3, h⟩) (ev_if_neg (by omega) (ev_if_pos hal2 ih)))
        · refine ev_if_neg e3 ?_
          by_cases e4 : o.2 = 4
          · exact ev_if_pos e4 (ev_if_neg (fun h => hg.2.2.2 ⟨e4, h⟩) (ev_if_pos hal2 ih))
          · exact ev_if_neg e4 (ev_if_pos hal2 ih)
    · refine Ev.step (f := fun _ => some (acc, true)) (fun k => by simp only [inkhornref1_Runes.l0]; rw [if_neg (by omega)]) (ev_some ?_)
      rw [runesFrom_end s b i h]
      simp [resR]
  termination_by b => b
theorem refLen_is (s : ByteArray) (hs : s.size ≤ 35184372088000) : Ev (fun k => inkhornref1_Len.f k s) (lenOf (runesOf s)) := by
  unfold inkhornref1_Len.f inkhornref1_Runes.f
  refine ev_bind (runes_loop s hs s.size 0 [] (by omega) (by omega) (by simp)) ?_
  have e : runesFrom s s.size 0 = runesOf s := rfl
  rw [e]
  unfold resR lenOf
  by_cases h : (runesOf s).contains 65533 = true
  · rw [if_pos h, if_pos h]
    exact ev_if_neg (by simp) (ev_some rfl)
  · rw [if_neg h, if_neg h]
    exact ev_if_pos rfl (ev_some (by simp))
end Go.Proofs.Ytiobphijbpdolaa.P
