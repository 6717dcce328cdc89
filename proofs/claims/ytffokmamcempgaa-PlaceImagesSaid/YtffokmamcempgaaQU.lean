/- Texts as lists of bytes: their runes, one by one. (Plain facts.) -/
import Derived.Test.YtffokmamcempgaaAMV
import Derived.Laws.RangeString
import Derived.Lib.OthersKept
namespace Go.Proofs.Ytffokmamcempgaa.P
open Go Go.RowKit
set_option linter.unusedVariables false
set_option linter.unusedSimpArgs false

abbrev Str := List UInt8
/-- The text of bytes. -/
def bs (l : Str) : ByteArray := ⟨⟨l⟩⟩
abbrev sv (l : Str) : Value := .string (bs l)
theorem bs_of (s : ByteArray) : bs s.data.toList = s := rfl
theorem bs_size (l : Str) : (bs l).size = l.length := rfl
def bt (l : Str) (k : Nat) : Nat := (l.getD k 0).toNat
theorem get_bs (s : ByteArray) (i : Nat) : s.get! i = s.data.toList.getD i 0 := by
  show s.data[i]! = _
  rw [getElem!_def, List.getD_eq_getElem?_getD, Array.getElem?_toList]
  cases s.data[i]? <;> rfl
theorem bt_drop (l : Str) (i k : Nat) : bt (l.drop i) k = bt l (i + k) := by
  unfold bt
  rw [List.getD_eq_getElem?_getD, List.getD_eq_getElem?_getD, List.getElem?_drop]
/-- The first rune, and how many bytes it has. -/
def dec (l : Str) : Nat × Nat :=
  let cont (k : Nat) : Bool := decide (k < l.length) && bt l k / 64 == 2
  let b0 := bt l 0
  if b0 < 0x80 then (b0, 1)
  else if b0 / 32 == 6 && cont 1 then
    let c := (b0 % 32) * 64 + bt l 1 % 64
    if c ≥ 0x80 then (c, 2) else (65533, 1)
  else if b0 / 16 == 14 && cont 1 && cont 2 then
    let c := (b0 % 16) * 4096 + (bt l 1 % 64) * 64 + bt l 2 % 64
    if c ≥ 0x800 && Utf8.valid c then (c, 3) else (65533, 1)
  else if b0 / 8 == 30 && cont 1 && cont 2 && cont 3 then
    let c := (b0 % 8) * 262144 + (bt l 1 % 64) * 4096 + (bt l 2 % 64) * 64 + bt l 3 % 64
    if c ≥ 0x10000 && Utf8.valid c then (c, 4) else (65533, 1)
  else (65533, 1)
theorem decode_dec (s : ByteArray) (pos : Nat) : Utf8.decode s pos = dec (s.data.toList.drop pos) := by
  have h1 : ∀ k, (s.get! (pos + k)).toNat = bt (s.data.toList.drop pos) k := fun k => by rw [bt_drop, get_bs]; rfl
  have h2 : ∀ k, decide (pos + k < s.size) = decide (k < (s.data.toList.drop pos).length) := fun k => by
    rw [List.length_drop]
    have : s.data.toList.length = s.size := rfl
    rw [this]
    congr 1
    rw [eq_iff_iff]
    omega
  unfold Utf8.decode dec
  simp only [h1, h2, Utf8.runeError]
theorem dec_width (l : Str) : 1 ≤ (dec l).2 ∧ (dec l).2 ≤ 4 := by
  unfold dec
  simp only
  repeat' split
  all_goals (simp only; omega)
/-- What a rune that is one looks like. -/
structure One (l : Str) (r n : Nat) : Prop where
  len : n ≤ l.length
  pos : 1 ≤ n
  le : n ≤ 4
  enc : (Utf8.encode (r : Int)).data.toList = l.take n
  max : r ≤ 1114111
  same : ∀ m : Str, l.take n <+: m → dec m = (r, n)
  ne : ∀ b ∈ l.take n, b ≠ 255
theorem dec_cases {l : Str} (h : (dec l).1 ≠ 65533) :
    (bt l 0 < 128 ∧ dec l = (bt l 0, 1)) ∨
    (bt l 0 / 32 = 6 ∧ 1 < l.length ∧ bt l 1 / 64 = 2 ∧ 128 ≤ (bt l 0 % 32) * 64 + bt l 1 % 64 ∧ dec l = ((bt l 0 % 32) * 64 + bt l 1 % 64, 2)) ∨
    (bt l 0 / 16 = 14 ∧ 2 < l.length ∧ bt l 1 / 64 = 2 ∧ bt l 2 / 64 = 2 ∧ 2048 ≤ (bt l 0 % 16) * 4096 + (bt l 1 % 64) * 64 + bt l 2 % 64 ∧ Utf8.valid (((bt l 0 % 16) * 4096 + (bt l 1 % 64) * 64 + bt l 2 % 64 : Nat) : Int) = true ∧ dec l = ((bt l 0 % 16) * 4096 + (bt l 1 % 64) * 64 + bt l 2 % 64, 3)) ∨
    (bt l 0 / 8 = 30 ∧ 3 < l.length ∧ bt l 1 / 64 = 2 ∧ bt l 2 / 64 = 2 ∧ bt l 3 / 64 = 2 ∧ 65536 ≤ (bt l 0 % 8) * 262144 + (bt l 1 % 64) * 4096 + (bt l 2 % 64) * 64 + bt l 3 % 64 ∧ Utf8.valid (((bt l 0 % 8) * 262144 + (bt l 1 % 64) * 4096 + (bt l 2 % 64) * 64 + bt l 3 % 64 : Nat) : Int) = true ∧ dec l = ((bt l 0 % 8) * 262144 + (bt l 1 % 64) * 4096 + (bt l 2 % 64) * 64 + bt l 3 % 64, 4)) := by
  unfold dec at h ⊢
  simp only at h ⊢
  split at h
  · rename_i h0
    rw [if_pos h0]
    exact .inl ⟨h0, rfl⟩
  · rename_i h0
    rw [if_neg h0]
    split at h
    · rename_i h1
      rw [if_pos h1]
      simp only [Bool.and_eq_true, beq_iff_eq, decide_eq_true_eq] at h1
      split at h
      · rename_i h2
        rw [if_pos h2]
        exact .inr (.inl ⟨h1.1, h1.2.1, h1.2.2, h2, rfl⟩)
      · exact (h rfl).elim
    · rename_i h1
      rw [if_neg h1]
      split at h
      · rename_i h2
        rw [if_pos h2]
        simp only [Bool.and_eq_true, beq_iff_eq, decide_eq_true_eq] at h2
        split at h
        · rename_i h3
          rw [if_pos h3]
          simp only [Bool.and_eq_true, decide_eq_true_eq] at h3
          exact .inr (.inr (.inl ⟨h2.1.1, h2.2.1, h2.1.2.2, h2.2.2, h3.1, h3.2, rfl⟩))
        · exact (h rfl).elim
      · rename_i h2
        rw [if_neg h2]
        split at h
        · rename_i h3
          rw [if_pos h3]
          simp only [Bool.and_eq_true, beq_iff_eq, decide_eq_true_eq] at h3
          split at h
          · rename_i h4
            rw [if_pos h4]
            simp only [Bool.and_eq_true, decide_eq_true_eq] at h4
            exact .inr (.inr (.inr ⟨h3.1.1.1, h3.2.1, h3.1.1.2.2, h3.1.2.2, h3.2.2, h4.1, h4.2, rfl⟩))
          · exact (h rfl).elim
        · exact (h rfl).elim
theorem dec1 {l : Str} (h : bt l 0 < 128) : dec l = (bt l 0, 1) := by
  unfold dec
  simp only
  rw [if_pos h]
theorem dec2 {l : Str} (h : bt l 0 / 32 = 6) (h1 : 1 < l.length) (h2 : bt l 1 / 64 = 2) (h3 : 128 ≤ (bt l 0 % 32) * 64 + bt l 1 % 64) : dec l = ((bt l 0 % 32) * 64 + bt l 1 % 64, 2) := by
  unfold dec
  simp only
  rw [if_neg (by omega), if_pos (by simp [h, h1, h2]), if_pos h3]
theorem dec3 {l : Str} (h : bt l 0 / 16 = 14) (h1 : 2 < l.length) (h2 : bt l 1 / 64 = 2) (h3 : bt l 2 / 64 = 2) (h4 : 2048 ≤ (bt l 0 % 16) * 4096 + (bt l 1 % 64) * 64 + bt l 2 % 64) (h5 : Utf8.valid (((bt l 0 % 16) * 4096 + (bt l 1 % 64) * 64 + bt l 2 % 64 : Nat) : Int) = true) :
    dec l = ((bt l 0 % 16) * 4096 + (bt l 1 % 64) * 64 + bt l 2 % 64, 3) := by
  unfold dec
  simp only
  rw [if_neg (by omega), if_neg (by simp; omega), if_pos (by simp [h, h2, h3]; omega), if_pos (by simp only [Bool.and_eq_true, decide_eq_true_eq]; exact ⟨h4, h5⟩)]
theorem dec4 {l : Str} (h : bt l 0 / 8 = 30) (h1 : 3 < l.length) (h2 : bt l 1 / 64 = 2) (h3 : bt l 2 / 64 = 2) (h4 : bt l 3 / 64 = 2) (h5 : 65536 ≤ (bt l 0 % 8) * 262144 + (bt l 1 % 64) * 4096 + (bt l 2 % 64) * 64 + bt l 3 % 64) (h6 : Utf8.valid (((bt l 0 % 8) * 262144 + (bt l 1 % 64) * 4096 + (bt l 2 % 64) * 64 + bt l 3 % 64 : Nat) : Int) = true) :
    dec l = ((bt l 0 % 8) * 262144 + (bt l 1 % 64) * 4096 + (bt l 2 % 64) * 64 + bt l 3 % 64, 4) := by
  unfold dec
  simp only
  rw [if_neg (by omega), if_neg (by simp; omega), if_neg (by simp; omega), if_pos (by simp [h, h2, h3, h4]; omega), if_pos (by simp only [Bool.and_eq_true, decide_eq_true_eq]; exact ⟨h5, h6⟩)]
theorem valid_iff (x : Nat) : Utf8.valid (x : Int) = true ↔ x < 55296 ∨ (57344 ≤ x ∧ x ≤ 1114111) := by
  simp only [Utf8.valid, Bool.or_eq_true, Bool.and_eq_true, decide_eq_true_eq]
  omega
theorem bt_lt (l : Str) (k : Nat) : bt l k < 256 := (l.getD k 0).toNat_lt
theorem take_bt (l : Str) (n : Nat) (h : n ≤ l.length) : l.take n = (List.range n).map fun k => UInt8.ofNat (bt l k) := by
  refine List.ext_getElem (by simp [h]) fun i h1 h2 => ?_
  simp only [List.length_take, List.length_map, List.length_range] at h1 h2
  rw [List.getElem_take, List.getElem_map, List.getElem_range]
  unfold bt
  rw [List.getD_eq_getElem?_getD, List.getElem?_eq_getElem (by omega), Option.getD_some, UInt8.ofNat_toNat]
theorem pre_bt {l m : Str} {n k : Nat} (h : l.take n <+: m) (hk : k < n) (hn : n ≤ l.length) : bt m k = bt l k ∧ k < m.length := by
  obtain ⟨t, rfl⟩ := h
  refine ⟨?_, by rw [List.length_append, List.length_take]; omega⟩
  unfold bt
  rw [List.getD_eq_getElem?_getD, List.getD_eq_getElem?_getD, List.getElem?_append_left (by rw [List.length_take]; omega), List.getElem?_take, if_pos hk]
theorem ofNat_ne {x : Nat} (h : x < 255) : UInt8.ofNat x ≠ 255 := fun e => by
  have := congrArg UInt8.toNat e
  rw [UInt8.toNat_ofNat'] at this
  have h2 : (255 : UInt8).toNat = 255 := rfl
  omega
theorem dec_one {l : Str} (hl : l ≠ []) (h : (dec l).1 ≠ 65533) : One l (dec l).1 (dec l).2 := by
  have hlen : 0 < l.length := List.length_pos_iff.2 hl
  have b0 := bt_lt l 0
  have b1 := bt_lt l 1
  have b2 := bt_lt l 2
  have b3 := bt_lt l 3
  rcases dec_cases h with ⟨h0, e⟩ | ⟨h0, h1, h2, h3, e⟩ | ⟨h0, h1, h2, h3, h4, h5, e⟩ | ⟨h0, h1, h2, h3, h4, h5, h6, e⟩
  · rw [e]
    refine ⟨hlen, Nat.le_refl _, by omega, ?_, by simp only; omega, fun m hm => ?_, fun b hb => ?_⟩
    · have hv : Utf8.valid ((bt l 0 : Nat) : Int) = true := (valid_iff _).2 (by omega)
      simp only [Utf8.encode, hv, if_true, Int.toNat_natCast]
      rw [if_pos h0, take_bt l 1 hlen]
      rfl
    · obtain ⟨g, _⟩ := pre_bt hm (show 0 < 1 by omega) hlen
      rw [dec1 (by rw [g]; exact h0), g]
    · rw [take_bt l 1 hlen] at hb
      simp only [List.range_succ, List.range_zero, List.nil_append, List.map_cons, List.map_nil, List.mem_singleton] at hb
      rw [hb]
      exact ofNat_ne (by omega)
  · rw [e]
    refine ⟨h1, by simp only; omega, by simp only; omega, ?_, by simp only; omega, fun m hm => ?_, fun b hb => ?_⟩
    · have hv : Utf8.valid (((bt l 0 % 32) * 64 + bt l 1 % 64 : Nat) : Int) = true := (valid_iff _).2 (by omega)
      simp only [Utf8.encode, hv, if_true, Int.toNat_natCast]
      rw [if_neg (by omega), if_pos (by omega), take_bt l 2 h1]
      show [UInt8.ofNat (0xC0 + _), UInt8.ofNat (0x80 + _)] = [UInt8.ofNat (bt l 0), UInt8.ofNat (bt l 1)]
      rw [show 0xC0 + ((bt l 0 % 32) * 64 + bt l 1 % 64) / 64 = bt l 0 by omega, show 0x80 + ((bt l 0 % 32) * 64 + bt l 1 % 64) % 64 = bt l 1 by omega]
    · obtain ⟨g0, _⟩ := pre_bt hm (show 0 < 2 by omega) h1
      obtain ⟨g1, k1⟩ := pre_bt hm (show 1 < 2 by omega) h1
      rw [dec2 (by rw [g0]; exact h0) k1 (by rw [g1]; exact h2) (by rw [g0, g1]; exact h3), g0, g1]
    · rw [take_bt l 2 h1] at hb
      simp only [List.range_succ, List.range_zero, List.nil_append, List.map_append, List.map_cons, List.map_nil, List.mem_append, List.mem_singleton] at hb
      rcases hb with rfl | rfl <;> exact ofNat_ne (by omega)
  · rw [e]
    refine ⟨h1, by simp only; omega, by simp only; omega, ?_, by simp only; omega, fun m hm => ?_, fun b hb => ?_⟩
    · simp only [Utf8.encode, h5, if_true, Int.toNat_natCast]
      rw [if_neg (by omega), if_neg (by omega), if_pos (by omega), take_bt l 3 h1]
      show [UInt8.ofNat (0xE0 + _), UInt8.ofNat (0x80 + _), UInt8.ofNat (0x80 + _)] = [UInt8.ofNat (bt l 0), UInt8.ofNat (bt l 1), UInt8.ofNat (bt l 2)]
      rw [show 0xE0 + ((bt l 0 % 16) * 4096 + (bt l 1 % 64) * 64 + bt l 2 % 64) / 4096 = bt l 0 by omega, show 0x80 + ((bt l 0 % 16) * 4096 + (bt l 1 % 64) * 64 + bt l 2 % 64) / 64 % 64 = bt l 1 by omega, show 0x80 + ((bt l 0 % 16) * 4096 + (bt l 1 % 64) * 64 + bt l 2 % 64) % 64 = bt l 2 by omega]
    · obtain ⟨g0, _⟩ := pre_bt hm (show 0 < 3 by omega) h1
      obtain ⟨g1, _⟩ := pre_bt hm (show 1 < 3 by omega) h1
      obtain ⟨g2, k2⟩ := pre_bt hm (show 2 < 3 by omega) h1
      rw [dec3 (by rw [g0]; exact h0) k2 (by rw [g1]; exact h2) (by rw [g2]; exact h3) (by rw [g0, g1, g2]; exact h4) (by rw [g0, g1, g2]; exact h5), g0, g1, g2]
    · rw [take_bt l 3 h1] at hb
      simp only [List.range_succ, List.range_zero, List.nil_append, List.map_append, List.map_cons, List.map_nil, List.mem_append, List.mem_singleton] at hb
      rcases hb with (rfl | rfl) | rfl <;> exact ofNat_ne (by omega)
  · have hv := (valid_iff _).1 h6
    rw [e]
    refine ⟨h1, by simp only; omega, by simp only; omega, ?_, by simp only; omega, fun m hm => ?_, fun b hb => ?_⟩
    · simp only [Utf8.encode, h6, if_true, Int.toNat_natCast]
      rw [if_neg (by omega), if_neg (by omega), if_neg (by omega), take_bt l 4 h1]
      show [UInt8.ofNat (0xF0 + _), UInt8.ofNat (0x80 + _), UInt8.ofNat (0x80 + _), UInt8.ofNat (0x80 + _)] = [UInt8.ofNat (bt l 0), UInt8.ofNat (bt l 1), UInt8.ofNat (bt l 2), UInt8.ofNat (bt l 3)]
      rw [show 0xF0 + ((bt l 0 % 8) * 262144 + (bt l 1 % 64) * 4096 + (bt l 2 % 64) * 64 + bt l 3 % 64) / 262144 = bt l 0 by omega, show 0x80 + ((bt l 0 % 8) * 262144 + (bt l 1 % 64) * 4096 + (bt l 2 % 64) * 64 + bt l 3 % 64) / 4096 % 64 = bt l 1 by omega, show 0x80 + ((bt l 0 % 8) * 262144 + (bt l 1 % 64) * 4096 + (bt l 2 % 64) * 64 + bt l 3 % 64) / 64 % 64 = bt l 2 by omega, show 0x80 + ((bt l 0 % 8) * 262144 + (bt l 1 % 64) * 4096 + (bt l 2 % 64) * 64 + bt l 3 % 64) % 64 = bt l 3 by omega]
    · obtain ⟨g0, _⟩ := pre_bt hm (show 0 < 4 by omega) h1
      obtain ⟨g1, _⟩ := pre_bt hm (show 1 < 4 by omega) h1
      obtain ⟨g2, _⟩ := pre_bt hm (show 2 < 4 by omega) h1
      obtain ⟨g3, k3⟩ := pre_bt hm (show 3 < 4 by omega) h1
      rw [dec4 (by rw [g0]; exact h0) k3 (by rw [g1]; exact h2) (by rw [g2]; exact h3) (by rw [g3]; exact h4) (by rw [g0, g1, g2, g3]; exact h5) (by rw [g0, g1, g2, g3]; exact h6), g0, g1, g2, g3]
    · rw [take_bt l 4 h1] at hb
      simp only [List.range_succ, List.range_zero, List.nil_append, List.map_append, List.map_cons, List.map_nil, List.mem_append, List.mem_singleton] at hb
      rcases hb with ((rfl | rfl) | rfl) | rfl <;> exact ofNat_ne (by omega)
/-! runes -/
def runesL : Nat → Str → List Int
  | 0, _ => []
  | f + 1, l => if l = [] then [] else ((dec l).1 : Int) :: runesL f (l.drop (dec l).2)
theorem runesL_fuel : ∀ (f f' : Nat) (l : Str), l.length ≤ f → l.length ≤ f' → runesL f l = runesL f' l
  | 0, f', l, h, _ => by
    have : l = [] := List.length_eq_zero_iff.1 (by omega)
    subst this
    cases f' <;> simp [runesL]
  | f + 1, 0, l, _, h => by
    have : l = [] := List.length_eq_zero_iff.1 (by omega)
    subst this
    simp [runesL]
  | f + 1, f' + 1, l, h, h' => by
    unfold runesL
    by_cases hl : l = []
    · rw [if_pos hl, if_pos hl]
    · have := dec_width l
      have := List.length_pos_iff.2 hl
      rw [if_neg hl, if_neg hl, runesL_fuel f f' (l.drop (dec l).2) (by rw [List.length_drop]; omega) (by rw [List.length_drop]; omega)]
/-- A text's runes. -/
def runes (l : Str) : List Int := runesL l.length l
theorem runes_nil : runes [] = [] := rfl
theorem runes_step {l : Str} (h : l ≠ []) : runes l = ((dec l).1 : Int) :: runes (l.drop (dec l).2) := by
  have := dec_width l
  have hp := List.length_pos_iff.2 h
  obtain ⟨k, hk⟩ : ∃ k, l.length = k + 1 := ⟨l.length - 1, by omega⟩
  unfold runes
  rw [hk, runesL, if_neg h]
  congr 1
  exact runesL_fuel _ _ _ (by rw [List.length_drop]; omega) (Nat.le_refl _)
theorem runes_len (l : Str) : (runes l).length ≤ l.length := by
  induction h : l.length using Nat.strongRecOn generalizing l with
  | ind n ih =>
    by_cases hl : l = []
    · subst hl; simp [runes_nil]
    · have := dec_width l
      have hp := List.length_pos_iff.2 hl
      have := ih _ (by rw [← h, List.length_drop]; omega) (l.drop (dec l).2) rfl
      rw [runes_step hl, List.length_cons]
      rw [List.length_drop] at this
      omega
/-- How many runes a text has; -1: not well made. -/
def lenL (l : Str) : Int := if (runes l).contains 65533 then -1 else ((runes l).length : Int)
def isWordL (l : Str) : Bool := decide (1 ≤ lenL l) && decide (lenL l ≤ 12)
def lgL (l : Str) (acc : Int) : Int := if (runes l).contains 65533 then -1 else acc + ((runes l).length : Int)
theorem lgL_zero (l : Str) : lgL l 0 = lenL l := by unfold lgL lenL; rw [Int.zero_add]
theorem lgL_nil (acc : Int) : lgL [] acc = acc := by simp [lgL, runes_nil]
theorem lgL_odd {l : Str} (h : l ≠ []) (ho : ((dec l).1 : Int) = 65533) (acc : Int) : lgL l acc = -1 := by
  unfold lgL
  rw [runes_step h, ho]
  simp
theorem lgL_step {l : Str} (h : l ≠ []) (ho : ¬ ((dec l).1 : Int) = 65533) (acc : Int) : lgL l acc = lgL (l.drop (dec l).2) (acc + 1) := by
  unfold lgL
  rw [runes_step h, List.contains_cons, beq_eq_false_iff_ne.2 (fun e => ho e.symm), Bool.false_or, List.length_cons]
  split
  · rfl
  · omega
/-- Well made. -/
def Val (l : Str) : Prop := (65533 : Int) ∉ runes l
theorem Val.nil : Val [] := by unfold Val; rw [runes_nil]; simp
theorem Val.step {l : Str} (h : Val l) (hl : l ≠ []) : One l (dec l).1 (dec l).2 ∧ Val (l.drop (dec l).2) ∧ (dec l).1 ≠ 65533 := by
  unfold Val at h
  rw [runes_step hl, List.mem_cons, not_or] at h
  have hne : (dec l).1 ≠ 65533 := fun e => h.1 (by rw [e]; rfl)
  exact ⟨dec_one hl hne, h.2, hne⟩
theorem Val.no255 {l : Str} (h : Val l) : ∀ b ∈ l, b ≠ 255 := by
  induction hn : l.length using Nat.strongRecOn generalizing l with
  | ind n ih =>
    by_cases hl : l = []
    · subst hl; intro b hb; cases hb
    · obtain ⟨o, hv, _⟩ := h.step hl
      have := List.length_pos_iff.2 hl
      have hp := o.pos
      intro b hb
      rw [← List.take_append_drop (dec l).2 l, List.mem_append] at hb
      rcases hb with hb | hb
      · exact o.ne b hb
      · exact ih _ (by rw [← hn, List.length_drop]; omega) hv rfl b hb
theorem word_val {l : Str} (h : isWordL l = true) : Val l ∧ 1 ≤ (runes l).length ∧ (runes l).length ≤ 12 := by
  unfold isWordL lenL at h
  unfold Val
  cases hc : (runes l).contains 65533 with
  | true => rw [hc] at h; simp at h
  | false =>
    rw [hc] at h
    simp only [Bool.false_eq_true, if_false, Bool.and_eq_true, decide_eq_true_eq] at h
    exact ⟨fun hm => (by rw [List.contains_iff_mem.2 hm] at hc; cases hc), by omega, by omega⟩
end Go.Proofs.Ytffokmamcempgaa.P
