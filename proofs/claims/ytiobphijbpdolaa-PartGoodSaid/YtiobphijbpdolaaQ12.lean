/- Plain facts on the printed functions of part, chapter 12: which keys are great, which cuts are good, what part_Less is. -/
import Derived.Test.YtiobphijbpdolaaPx6
import Derived.Test.YtiobphijbpdolaaPx2
import Derived.Test.YtiobphijbpdolaaHOf
namespace Go.Proofs.Ytiobphijbpdolaa.P
open Go.RowKit Go.Proofs.YtiobphijbpdolaaW.PrintWords Go.Proofs.YtiobphijbpdolaaW.PrintLast Go.Proofs.YtiobphijbpdolaaW.PrintMore
set_option linter.unusedVariables false

theorem wrap_small {i : Int} (h0 : -9223372036854775808 ≤ i) (h1 : i ≤ 9223372036854775807) : wrap64 i = i := by unfold wrap64; omega

/-- A list of keys is great: more than ten, or a text of more than 100 bytes. -/
def greatKeys (l : List S24) : Bool := decide (10 < l.length) || l.any fun c => decide (100 < c.f1.size)
theorem texts_nil (k : Nat) : inkhornlaw0_GreatTexts.f (k + 2) [] = some false := by simp [inkhornlaw0_GreatTexts.f, inkhornlaw0_GreatTexts.l0, inkhornlaw0_GreatTexts.j1]
theorem great_loop (l : List S24) (ws : List ByteArray) (g : Bool) (K : Nat) (hg : ∀ k, K ≤ k → inkhornlaw0_GreatTexts.f k ws = some g) (a2 a3 a4 a5 a6 a7 a8 a9 a10 a11 : Int) (hl : l.length ≤ 10) (d : Nat) : ∀ (k i : Nat), i ≤ l.length → l.length - i = d → 2 * d + 2 + K ≤ k →
    inkhornlaw0_GreatConfig.l0 k (i : Int) ws l a2 a3 a4 a5 a6 a7 a8 a9 a10 a11 = some ((l.drop i).any (fun c => decide (100 < c.f1.size)) || g) := by
  induction d with
  | zero =>
    intro k i hi hd hk
    obtain ⟨k, rfl⟩ : ∃ m, k = m + 2 := ⟨k - 2, by omega⟩
    have e : i = l.length := by omega
    subst e
    simp only [inkhornlaw0_GreatConfig.l0, inkhornlaw0_GreatConfig.j1]
    rw [if_neg (by omega), if_neg (by simp), hg k (by omega)]
    cases g <;> simp
    omega
  | succ d ih =>
    intro k i hi hd hk
    obtain ⟨k, rfl⟩ : ∃ m, k = m + 2 := ⟨k - 2, by omega⟩
    have hlt : i < l.length := by omega
    simp only [inkhornlaw0_GreatConfig.l0, inkhornlaw0_GreatConfig.j1]
    rw [if_pos (by omega), if_pos (by simp; omega), if_pos (by omega), if_pos (by omega)]
    have hr : rd_T24 l (i : Int) = l[i] := by simp [rd_T24, hlt]
    rw [hr, List.drop_eq_getElem_cons hlt, List.any_cons]
    by_cases hb : 100 < l[i].f1.size
    · rw [if_pos (by omega)]
      simp [hb]
    · rw [if_neg (by omega), wrap_small (by omega) (by omega)]
      have := ih k (i + 1) (by omega) (by omega) (by omega)
      rw [show ((i : Int) + 1) = ((i + 1 : Nat) : Int) from rfl, this]
      simp [hb]
theorem great_is (l : List S24) : inkhornlaw12_great.f 30 l = some (greatKeys l) := by
  unfold inkhornlaw12_great.f inkhornlaw0_GreatConfig.f
  by_cases hl : l.length ≤ 10
  · have := great_loop l [] false 2 (fun k hk => by obtain ⟨m, rfl⟩ : ∃ m, k = m + 2 := ⟨k - 2, by omega⟩; exact texts_nil m) 0 0 0 0 0 0 0 0 0 0 hl l.length 30 0 (by omega) (by omega) (by omega)
    rw [show ((0 : Nat) : Int) = 0 from rfl] at this
    rw [this]
    have h10 : decide (10 < l.length) = false := by simp; omega
    simp [greatKeys, h10]
  · simp only [inkhornlaw0_GreatConfig.l0, inkhornlaw0_GreatConfig.j1]
    rw [if_pos (by omega), if_neg (by simp; omega), texts_nil 26]
    have h10 : decide (10 < l.length) = true := by simp; omega
    simp [greatKeys, h10]
    omega

theorem lenOf_le (s : ByteArray) : -1 ≤ lenOf (runesOf s) ∧ lenOf (runesOf s) ≤ s.size := by
  have := runesFrom_length s s.size 0
  unfold lenOf runesOf
  split
  · omega
  · omega

/-- A cut is well formed: its length, its text. -/
def keyOk (c : S24) : Bool := decide (1 ≤ c.f0) && decide (c.f0 ≤ 12) && decide (0 ≤ lenOf (runesOf c.f1)) && decide (lenOf (runesOf c.f1) ≤ 12)
/-- Each cut is below the next one. -/
def rising : List S24 → Bool
  | a :: b :: l => keyLt a b && rising (b :: l)
  | _ => true
def goodCuts (l : List S24) : Int := if 5 < l.length then 3 else if l.all keyOk then (if rising l then 0 else 7) else 2

theorem good_l1 (l : List S24) (hl : l.length ≤ 5) (d : Nat) : ∀ (k i : Nat), 1 ≤ i → i ≤ l.length + 1 → l.length + 1 - i = d → d + 4 ≤ k →
    part_Good.l1 k l (i : Int) = some (if rising (l.drop (i - 1)) then 0 else 7) := by
  induction d with
  | zero =>
    intro k i h1 hi hd hk
    obtain ⟨k, rfl⟩ : ∃ m, k = m + 1 := ⟨k - 1, by omega⟩
    simp only [part_Good.l1]
    rw [if_neg (by omega), List.drop_of_length_le (by omega)]
    rfl
  | succ d ih =>
    intro k i h1 hi hd hk
    obtain ⟨k, rfl⟩ : ∃ m, k = m + 1 := ⟨k - 1, by omega⟩
    simp only [part_Good.l1]
    by_cases hlt : i < l.length
    · rw [wrap_small (i := (i : Int) - 1) (by omega) (by omega), if_pos (by omega), if_pos (by omega), if_pos (by omega), if_pos (by omega), wrap_small (by omega) (by omega)]
      have hr : rd_T24 l ((i : Int) - 1) = l[i - 1] := by
        have : ((i : Int) - 1).toNat = i - 1 := by omega
        simp [rd_T24, this, show i - 1 < l.length by omega]
      have hr2 : rd_T24 l (i : Int) = l[i] := by simp [rd_T24, hlt]
      have hL := at_rounds (g := fun k => part_Less.f k l[i - 1].f0 l[i - 1].f1 l[i].f0 l[i].f1) (fun k => part_Less.mono _ _ _ _ k) (k := 3) (k' := k) (by omega) (part_Less_is l[i - 1] l[i])
      simp only at hL
      rw [hr, hr2, hL, Option.bind_some]
      have e1 : l.drop (i - 1) = l[i - 1] :: l[i] :: l.drop (i + 1) := by
        rw [List.drop_eq_getElem_cons (by omega : i - 1 < l.length), show i - 1 + 1 = i by omega, List.drop_eq_getElem_cons hlt]
      rw [e1, rising]
      cases hk2 : keyLt l[i - 1] l[i] with
      | false => simp
      | true =>
        have := ih k (i + 1) (by omega) (by omega) (by omega) (by omega)
        simp only [if_true, Bool.true_and]
        rw [show ((i : Int) + 1) = ((i + 1 : Nat) : Int) from rfl, this, show i + 1 - 1 = i by omega, List.drop_eq_getElem_cons hlt]
    · rw [if_neg (by omega)]
      have : (l.drop (i - 1)).length ≤ 1 := by rw [List.length_drop]; omega
      match h : l.drop (i - 1), this with
      | [], _ => rfl
      | [_], _ => rfl
theorem good_l0 (l : List S24) (hl : l.length ≤ 5) (hs : ∀ c ∈ l, c.f1.size ≤ 140737488355328) (d : Nat) : ∀ (k i : Nat), i ≤ l.length → l.length - i = d → d + 12 ≤ k →
    part_Good.l0 k l l (l.length : Int) (i : Int) = some (if (l.drop i).all keyOk then (if rising l then 0 else 7) else 2) := by
  induction d with
  | zero =>
    intro k i hi hd hk
    obtain ⟨k, rfl⟩ : ∃ m, k = m + 1 := ⟨k - 1, by omega⟩
    have e : i = l.length := by omega
    subst e
    simp only [part_Good.l0]
    have := good_l1 l hl l.length k 1 (by omega) (by omega) (by omega) (by omega)
    rw [if_neg (by omega), show (1 : Int) = ((1 : Nat) : Int) from rfl, this]
    simp
  | succ d ih =>
    intro k i hi hd hk
    obtain ⟨k, rfl⟩ : ∃ m, k = m + 1 := ⟨k - 1, by omega⟩
    have hlt : i < l.length := by omega
    simp only [part_Good.l0]
    have hr : rd_T24 l (i : Int) = l[i] := by simp [rd_T24, hlt]
    have hL : text_Len.f l[i].f1 = some (lenOf (runesOf l[i].f1)) := if_pos (hs _ (List.getElem_mem _))
    rw [if_pos (by omega), if_pos (by omega), if_pos (by omega), hr, hL, Option.bind_some, List.drop_eq_getElem_cons hlt, List.all_cons]
    have := ih k (i + 1) (by omega) (by omega) (by omega)
    rw [wrap_small (by omega) (by omega), show ((i : Int) + 1) = ((i + 1 : Nat) : Int) from rfl, this]
    unfold keyOk
    generalize hx : lenOf (runesOf l[i].f1) = x
    by_cases h1 : l[i].f0 < 1
    · simp [h1]; omega
    · by_cases h2 : l[i].f0 > 12
      · simp [h1, h2]; omega
      · by_cases h3 : x < 0
        · simp [h1, h2, h3]; omega
        · by_cases h4 : x > 12
          · simp [h1, h2, h3, h4]; omega
          · have a1 : (1 : Int) ≤ l[i].f0 := by omega
            have a2 : l[i].f0 ≤ 12 := by omega
            have a3 : (0 : Int) ≤ x := by omega
            have a4 : x ≤ 12 := by omega
            simp [h1, h2, h3, h4, a1, a2, a3, a4]
theorem good_is (l : List S24) (hs : ∀ c ∈ l, c.f1.size ≤ 140737488355328) : part_Good.f 20 l = some (goodCuts l) := by
  unfold part_Good.f goodCuts
  by_cases h : 5 < l.length
  · rw [if_pos (by omega), if_pos h]
  · rw [if_neg (by omega), if_neg h]
    have := good_l0 l (by omega) hs l.length 20 0 (by omega) (by omega) (by omega)
    rw [show ((0 : Nat) : Int) = 0 from rfl] at this
    rw [this, List.drop_zero]

/-! the order of keys -/
theorem cmp_trans : ∀ a b c : List UInt8, Lib.compareBytes a b < 0 → Lib.compareBytes b c < 0 → Lib.compareBytes a c < 0
  | [], b, c => by
    intro h1 h2
    cases b with
    | nil => simp [Lib.compareBytes] at h1
    | cons y b =>
      cases c with
      | nil => simp [Lib.compareBytes] at h2
      | cons z c => simp [Lib.compareBytes]
  | x :: a, b, c => by
    intro h1 h2
    cases b with
    | nil => simp [Lib.compareBytes] at h1
    | cons y b =>
      cases c with
      | nil => simp [Lib.compareBytes] at h2
      | cons z c =>
        simp only [Lib.compareBytes] at h1 h2 ⊢
        simp only [UInt8.lt_iff_toNat_lt] at *
        by_cases hxy : x.toNat < y.toNat
        · by_cases hyz : y.toNat < z.toNat
          · rw [if_pos (by omega)]; decide
          · rw [if_neg hyz] at h2
            by_cases hzy : z.toNat < y.toNat
            · rw [if_pos hzy] at h2; simp at h2
            · rw [if_pos (by omega)]; decide
        · rw [if_neg hxy] at h1
          by_cases hyx : y.toNat < x.toNat
          · rw [if_pos hyx] at h1; simp at h1
          · rw [if_neg hyx] at h1
            by_cases hyz : y.toNat < z.toNat
            · rw [if_pos (by omega)]; decide
            · rw [if_neg hyz] at h2
              by_cases hzy : z.toNat < y.toNat
              · rw [if_pos hzy] at h2; simp at h2
              · rw [if_neg hzy] at h2
                rw [if_neg (by omega), if_neg (by omega)]
                exact cmp_trans a b c h1 h2
theorem keyLt_trans {a b c : S24} (h1 : keyLt a b = true) (h2 : keyLt b c = true) : keyLt a c = true := by
  simp only [keyLt, decide_eq_true_eq] at *
  unfold keyCmp at *
  by_cases h3 : a.f0 < b.f0
  · by_cases h4 : b.f0 < c.f0
    · rw [if_pos (by omega)]; decide
    · rw [if_neg h4] at h2
      by_cases h5 : c.f0 < b.f0
      · rw [if_pos h5] at h2; simp at h2
      · rw [if_pos (by omega)]; decide
  · rw [if_neg h3] at h1
    by_cases h6 : b.f0 < a.f0
    · rw [if_pos h6] at h1; simp at h1
    · rw [if_neg h6] at h1
      by_cases h4 : b.f0 < c.f0
      · rw [if_pos (by omega)]; decide
      · rw [if_neg h4] at h2
        by_cases h5 : c.f0 < b.f0
        · rw [if_pos h5] at h2; simp at h2
        · rw [if_neg h5] at h2
          rw [if_neg (by omega), if_neg (by omega)]
          exact cmp_trans _ _ _ h1 h2
theorem rising_pairs : ∀ l : List S24, rising l = true ↔ l.Pairwise (fun a b => keyLt a b = true)
  | [] => by simp [rising]
  | [a] => by simp [rising]
  | a :: b :: l => by
    have ih := rising_pairs (b :: l)
    rw [rising, Bool.and_eq_true, ih, List.pairwise_cons (a := a)]
    constructor
    · rintro ⟨h1, h2⟩
      refine ⟨?_, h2⟩
      intro c hc
      rcases List.mem_cons.1 hc with rfl | hc
      · exact h1
      · exact keyLt_trans h1 ((List.pairwise_cons.1 h2).1 c hc)
    · rintro ⟨h1, h2⟩
      exact ⟨h1 b (by simp), h2⟩
theorem shard_mono (l : List S24) {x y : S24} (h : keyLt x y = true) : shardOf l x ≤ shardOf l y := by
  unfold shardOf
  have : (l.filter fun c => !keyLt x c).length ≤ (l.filter fun c => !keyLt y c).length := by
    induction l with
    | nil => simp
    | cons c l ih =>
      simp only [List.filter_cons]
      by_cases hx : keyLt x c = true
      · simp only [hx, Bool.not_true, Bool.false_eq_true, if_false]
        split
        · simp only [List.length_cons]; omega
        · exact ih
      · have hy : keyLt y c = false := by
          cases hy : keyLt y c with
          | false => rfl
          | true => exact absurd (keyLt_trans h hy) hx
        have hx' : keyLt x c = false := by simpa using hx
        simp only [hx', hy, Bool.not_false, if_true, List.length_cons]
        omega
  omega
theorem shard_range (l : List S24) (x : S24) : 0 ≤ shardOf l x ∧ shardOf l x ≤ l.length := by
  unfold shardOf
  have := List.length_filter_le (fun c => !keyLt x c) l
  omega
end Go.Proofs.Ytiobphijbpdolaa.P
