/- The contract of part.Of (through part.below, whose comparison is a function value) in the printed form. -/
import Derived.Test.YtiobphijbpdolaaPx3
import Derived.Test.YtiobphijbpdolaaPx4
import Derived.Lib.Hide
namespace Go.Proofs.Ytiobphijbpdolaa.P
open Go.RowKit Go.Proofs.YtiobphijbpdolaaW.PrintWords Go.Proofs.YtiobphijbpdolaaW.PrintLast Go.Proofs.YtiobphijbpdolaaW.PrintMore
set_option linter.unusedVariables false
set_option linter.unusedSimpArgs false

def keyCmp (a b : S24) : Int := if a.f0 < b.f0 then -1 else if b.f0 < a.f0 then 1 else Lib.compareBytes a.f1.data.toList b.f1.data.toList
def keyLt (a b : S24) : Bool := decide (keyCmp a b < 0)
theorem part_Less_is (a b : S24) : part_Less.f 3 a.f0 a.f1 b.f0 b.f1 = some (keyLt a b) := by
  simp only [part_Less.f, part_compare.f, cmp_Compare_int.f, cmp_isNaN_int.f, text_Compare.f, strings_Compare.f, Option.bind_some, bne_self_eq_false, Bool.false_eq_true, if_false]
  have e : ∀ x y : Int, cmp_Or_int.f 3 [x, y] = some (if x = 0 then y else x) := by
    intro x y
    simp only [cmp_Or_int.f, cmp_Or_int.l0, rd]
    by_cases hx : x = 0
    · by_cases hy : y = 0 <;> simp [hx, hy, wrap64]
    · simp [hx]
  unfold keyLt keyCmp
  by_cases h1 : a.f0 < b.f0
  · simp [h1, e]
  · by_cases h2 : b.f0 < a.f0
    · simp [h1, h2, e]
    · simp [h1, h2, e]

def shardOf (cuts : List S24) (k : S24) : Int := ((cuts.filter fun c => !keyLt k c).length : Int)
def isWord (s : ByteArray) : Bool := decide (1 ≤ lenOf (runesOf s)) && decide (lenOf (runesOf s) ≤ 12)
def keyOf (s : ByteArray) : S24 := ⟨lenOf (runesOf s), s⟩
def part_Of.f (l0 : List S24) (a1 : ByteArray) : Option Int :=
  if a1.size ≤ 140737488355328 then (if l0.length ≤ 140737488355328 then some (if isWord a1 then shardOf l0 (keyOf a1) else -1) else none) else none
theorem text_Word_is (s : ByteArray) (h : s.size ≤ 140737488355328) : text_Word.f s = some (isWord s) := by
  simp only [text_Word.f, text_Len.f, h, if_true, Option.bind_some, isWord]
  split
  · rename_i h1
    have h2 : (1 : Int) ≤ lenOf (runesOf s) := h1
    simp [h2]
  · rename_i h1
    have h2 : ¬ (1 : Int) ≤ lenOf (runesOf s) := h1
    simp [h2]

def cnt (k : S24) (l : List S24) : Nat := (l.filter fun c => !keyLt k c).length
theorem cnt_le (k : S24) (l : List S24) : cnt k l ≤ l.length := List.length_filter_le _ _
theorem take_snoc' (l : List S24) (i : Nat) (h : i < l.length) : l.take (i + 1) = l.take i ++ [l.getD i z24] := by
  rw [List.take_succ_eq_append_getElem h]
  simp [h]
theorem cnt_step (k : S24) (l : List S24) (i : Nat) (h : i < l.length) : cnt k (l.take (i + 1)) = cnt k (l.take i) + (if keyLt k (l.getD i z24) = true then 0 else 1) := by
  rw [take_snoc' l i h]
  simp only [cnt, List.filter_append, List.length_append]
  congr 1
  cases h : keyLt k (l.getD i z24) <;> simp only [List.filter_cons, List.filter_nil, h] <;> rfl

set_option maxHeartbeats 1000000 in
set_option maxRecDepth 100000 in
theorem below_calls (A : Option Addr) (c : Nat) (cuts : List S24) (x : Int) (s : ByteArray) (w : World) (hr : Kd.C k24 w A cuts.length cuts) (hc : cuts.length ≤ c) (hm : cuts.length ≤ 140737488355328) :
    Calls Try.prog 53 #[.slice A cuts.length c, .agg #[.int .i64 x, .string s], .func (.func 20) #[] #[]] w fun e w' => e = .returned (.int .i64 (shardOf cuts ⟨x, s⟩)) ∧ Below w.heap.size w w' := by
  have hu24 := Try.underlying24
  have HR := Aside0.mk hr
  clear hr
  go_enter Try.func53, Try.ntmps53
  go_wp2
  go_loopw [7, 12] (fun n i w' => ∃ j : Nat, j ≤ cuts.length ∧ i = .int .i64 j ∧ n = .int .i64 (cnt ⟨x, s⟩ (cuts.take j)) ∧ Below w.heap.size w w' ∧ w'.heap[w.heap.size]? = some (.cells #[.int .i64 x, .string s] 24 (0, 0))) (fun _ i _ => cuts.length - (intOf i).toNat)
  case atStart => exact ⟨0, Nat.zero_le _, rfl, rfl, below_alloc (Below.refl _ _) _, blk_new _ _⟩
  case round =>
    obtain ⟨j, hj, rfl, rfl, HB, hb4⟩ := hrel
    have HB' := Aside0.mk HB
    have hb4' := Aside0.mk hb4
    have hsz : w.heap.size < wr.heap.size := blk_lt hb4
    clear HB hb4
    have hcn := cnt_le ⟨x, s⟩ (cuts.take j)
    have htl : (cuts.take j).length ≤ cuts.length := List.length_take_le' _ _
    by_cases hlt : j < cuts.length
    · obtain ⟨ad, e1, hx0, hx1⟩ := at_T24 (Kd.C_below HR.out HB'.out) (j : Int) (by omega) (by omega)
      cases e1
      simp only [Int.toNat_natCast] at hx0 hx1
      have hrd : rd_T24 cuts (j : Int) = cuts.getD j z24 := by simp [rd_T24]
      rw [hrd] at hx0 hx1
      clear hrd
      have HS := Aside0.mk (cnt_step ⟨x, s⟩ cuts j hlt)
      have c4a : ∀ o, (wr.alloc o).cell? ⟨w.heap.size, 0, none⟩ = some (.int .i64 x) := fun o => blk_cell (blk_alloc hb4'.out o) 0
      have c4b : ∀ o, (wr.alloc o).cell? ⟨w.heap.size, 1, none⟩ = some (.string s) := fun o => blk_cell (blk_alloc hb4'.out o) 1
      obtain ⟨y, hy⟩ : ∃ y, y = cuts.getD j z24 := ⟨_, rfl⟩
      rw [← hy] at hx0 hx1 HS
      clear hy
      have HL := Aside0.mk (part_Less_is ⟨x, s⟩ y)
      have hB1 := Aside0.mk (below_alloc HB'.out (.cells #[.int .i64 y.f0, .string y.f1] 24))
      have hb1 := Aside0.mk (blk_alloc hb4'.out (.cells #[.int .i64 y.f0, .string y.f1] 24))
      cases hk : keyLt ⟨x, s⟩ y
      all_goals
        have HK := Lib.hid hk
        clear hk
        go_wp2_with (go_at_call 20; refine (part_Less.calls 3 x s y.f0 y.f1 _ _ (HL.out.trans (by rw [HK.out]))).mono ?_; rintro e w' ⟨rfl, hb⟩; have n0_ := Aside0.mk (below_step hB1.out hb); have n1_ := Aside0.mk (blk_below hb1.out hb); clear hb)
        go_roundw
        case rel =>
          refine ⟨j + 1, by omega, by go_num, ?_, n0_.out, n1_.out⟩
          have h1 := HS.out
          rw [HK.out] at h1
          rw [h1]
          first | rfl | go_num
        case measure => simp [intOf]; omega
    · have e : j = cuts.length := by omega
      subst e
      go_wp2
      go_ret
      rw [List.take_length]
      exact ⟨rfl, HB'.out⟩

set_option maxHeartbeats 1000000 in
set_option maxRecDepth 100000 in
theorem part_Of.calls (A0 : Option Addr) (c0 : Nat) (l0 : List S24) (a1 : ByteArray) (r : Int) (w : World) (hr0 : Kd.C k24 w A0 l0.length l0) (hc0 : l0.length ≤ c0) (h : part_Of.f l0 a1 = some r) :
    Calls Try.prog 24 #[.slice A0 l0.length c0, .string a1] w fun e w' => e = .returned (.int .i64 r) ∧ Below w.heap.size w w' := by
  unfold part_Of.f at h
  split at h
  case isFalse => cases h
  rename_i hs
  split at h
  case isFalse => cases h
  rename_i hm
  have H := Lib.hid (Option.some.inj h)
  clear h
  have hW := Lib.hid (text_Word_is a1 hs)
  have HL : Hid (text_Len.f a1 = some (lenOf (runesOf a1))) := if_pos hs
  have HR := Aside0.mk hr0
  clear hr0
  cases hk : isWord a1
  all_goals
    have HK := Lib.hid hk
    clear hk
    go_enter Try.func24, Try.ntmps24
    go_wp2_with (first | (go_at_call 22; refine (text_Word.calls a1 _ _ (hW.out.trans (by rw [HK.out]))).mono ?_; rintro e w' ⟨rfl, hb⟩; have n0_ := Aside0.mk hb; clear hb) | (go_at_call 23; refine (text_Len.calls a1 _ _ HL.out).mono ?_; rintro e w1 ⟨rfl, hb⟩; have n1_ := Aside0.mk (below_step n0_.out hb); clear hb) | (go_at_call 53; refine (below_calls A0 c0 l0 _ a1 _ (Kd.C_below HR.out n1_.out) hc0 hm).mono ?_; rintro e w2 ⟨rfl, hb⟩; have n2_ := Aside0.mk (below_step n1_.out hb); clear hb))
    go_ret
    have h1 := H.out
    rw [HK.out] at h1
    subst h1
  · exact ⟨rfl, n0_.out⟩
  · exact ⟨rfl, n2_.out⟩
end Go.Proofs.Ytiobphijbpdolaa.P
