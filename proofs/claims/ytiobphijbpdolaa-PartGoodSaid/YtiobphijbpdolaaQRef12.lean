/- Chapter 12's own answer tells which cuts are good, and which key is below, as part does. -/
import Derived.Test.YtiobphijbpdolaaQRef1
import Derived.Test.YtiobphijbpdolaaQ12
import Derived.Test.YtiobphijbpdolaaPx20
import Derived.Test.YtiobphijbpdolaaPx22
namespace Go.Proofs.Ytiobphijbpdolaa.P
open Go.RowKit Go.Proofs.YtiobphijbpdolaaW.PrintWords Go.Proofs.YtiobphijbpdolaaW.PrintLast Go.Proofs.YtiobphijbpdolaaW.PrintMore
set_option linter.unusedVariables false
set_option linter.unusedSimpArgs false

theorem bt_byte (s : ByteArray) (i : Nat) (h : i < s.size) : bt s (i : Int) = ((s.data.toList[i]'(by simpa using h)).toNat : Int) := by
  simp only [bt, Int.toNat_natCast, h, dif_pos, Array.getElem_toList]
  rfl
theorem cmp_cons (x y : UInt8) (a b : List UInt8) : Lib.compareBytes (x :: a) (y :: b) = if x.toNat < y.toNat then -1 else if y.toNat < x.toNat then 1 else Lib.compareBytes a b := by
  simp only [Lib.compareBytes, UInt8.lt_iff_toNat_lt]
theorem refCmp_loop (a b : ByteArray) (ha : a.size ≤ 140737488355328) (hb : b.size ≤ 140737488355328) (d : Nat) : ∀ (i : Nat), i ≤ a.size → i ≤ b.size → a.size - i = d →
    Ev (fun k => inkhornref1_Compare.l0 k a b (i : Int)) (Lib.compareBytes (a.data.toList.drop i) (b.data.toList.drop i)) := by
  have la : a.data.toList.length = a.size := by simp
  have lb : b.data.toList.length = b.size := by simp
  induction d with
  | zero =>
    intro i hi hj hd
    have e : i = a.size := by omega
    rw [List.drop_of_length_le (show a.data.toList.length ≤ i by omega)]
    refine Ev.step (f := fun k => inkhornref1_Compare.j1 k a b (i : Int) false) (fun k => by simp only [inkhornref1_Compare.l0]; rw [if_neg (by omega)]) ?_
    by_cases h : (a.size : Int) < (b.size : Int)
    · refine Ev.step (f := fun _ => some (-1)) (fun k => by simp only [inkhornref1_Compare.j1, Bool.false_eq_true, if_false]; rw [if_pos h]) (ev_some ?_)
      rw [List.drop_eq_getElem_cons (show i < b.data.toList.length by omega)]
      rfl
    · refine Ev.step (f := fun _ => some 0) (fun k => by simp only [inkhornref1_Compare.j1, Bool.false_eq_true, if_false]; rw [if_neg h, if_neg (by omega)]) (ev_some ?_)
      rw [List.drop_of_length_le (show b.data.toList.length ≤ i by omega)]
      rfl
  | succ d ih =>
    intro i hi hj hd
    have hlt : i < a.size := by omega
    rw [List.drop_eq_getElem_cons (show i < a.data.toList.length by omega)]
    by_cases hb2 : i < b.size
    · rw [List.drop_eq_getElem_cons (show i < b.data.toList.length by omega), cmp_cons]
      have e1 := bt_byte a i hlt
      have e2 := bt_byte b i hb2
      refine Ev.step (f := fun k => inkhornref1_Compare.j1 k a b (i : Int) true) (fun k => by simp only [inkhornref1_Compare.l0]; rw [if_pos (by omega), show decide ((i : Int) < (b.size : Int)) = true from decide_eq_true (by omega)]) ?_
      by_cases h1 : (a.data.toList[i]'(by omega)).toNat < (b.data.toList[i]'(by omega)).toNat
      · rw [if_pos h1]
        exact Ev.step (f := fun _ => some (-1)) (fun k => by simp only [inkhornref1_Compare.j1, if_true]; rw [if_pos (by omega), if_pos (by omega), if_pos (by omega), e1, e2, if_pos (by omega)]) (ev_some rfl)
      · rw [if_neg h1]
        by_cases h2 : (b.data.toList[i]'(by omega)).toNat < (a.data.toList[i]'(by omega)).toNat
        · rw [if_pos h2]
          exact Ev.step (f := fun _ => some 1) (fun k => by simp only [inkhornref1_Compare.j1, if_true]; rw [if_pos (by omega), if_pos (by omega), if_pos (by omega), e1, e2, if_neg (by omega), if_pos (by omega)]) (ev_some rfl)
        · rw [if_neg h2]
          refine Ev.step (f := fun k => inkhornref1_Compare.l0 k a b ((i + 1 : Nat) : Int)) (fun k => ?_) (ih (i + 1) (by omega) (by omega) (by omega))
          simp only [inkhornref1_Compare.j1, if_true]
          rw [if_pos (by omega), if_pos (by omega), if_pos (by omega), e1, e2, if_neg (by omega), if_neg (by omega), wrap_small (by omega) (by omega)]
          rfl
    · rw [List.drop_of_length_le (show b.data.toList.length ≤ i by omega)]
      refine Ev.step (f := fun k => inkhornref1_Compare.j1 k a b (i : Int) false) (fun k => by simp only [inkhornref1_Compare.l0]; rw [if_pos (by omega), show decide ((i : Int) < (b.size : Int)) = false from decide_eq_false (by omega)]) ?_
      exact Ev.step (f := fun _ => some 1) (fun k => by simp only [inkhornref1_Compare.j1, Bool.false_eq_true, if_false]; rw [if_neg (by omega), if_pos (by omega)]) (ev_some rfl)
theorem refCmp_is (a b : ByteArray) (ha : a.size ≤ 140737488355328) (hb : b.size ≤ 140737488355328) : Ev (fun k => inkhornref1_Compare.f k a b) (Lib.compareBytes a.data.toList b.data.toList) := by
  unfold inkhornref1_Compare.f
  exact ev_eq (refCmp_loop a b ha hb a.size 0 (by omega) (by omega) (by omega)) (by rw [List.drop_zero, List.drop_zero])
theorem refLess_is (x y : S24) (hx : x.f1.size ≤ 140737488355328) (hy : y.f1.size ≤ 140737488355328) : Ev (fun k => inkhornref12_Less.f k x.f0 x.f1 y.f0 y.f1) (keyLt x y) := by
  unfold inkhornref12_Less.f keyLt keyCmp
  by_cases h1 : x.f0 < y.f0
  · exact ev_if_pos h1 (ev_some (by rw [if_pos h1]; rfl))
  refine ev_if_neg h1 ?_
  rw [if_neg h1]
  by_cases h2 : x.f0 = y.f0
  · refine ev_if_pos h2 (ev_bind (refCmp_is _ _ hx hy) (ev_some ?_))
    rw [if_neg (by omega)]
  · refine ev_if_neg h2 (ev_some ?_)
    rw [if_pos (by omega)]
    rfl
theorem refGood_l1 (l : List S24) (hl : l.length ≤ 5) (hs : ∀ c ∈ l, c.f1.size ≤ 35184372088000) (d : Nat) : ∀ (i : Nat), 1 ≤ i → i ≤ l.length + 1 → l.length + 1 - i = d →
    Ev (fun k => inkhornref12_Good.l1 k l (i : Int)) (if rising (l.drop (i - 1)) then 0 else 7) := by
  induction d with
  | zero =>
    intro i h1 hi hd
    exact Ev.step (f := fun _ => some 0) (fun k => by simp only [inkhornref12_Good.l1]; rw [if_neg (by omega)]) (ev_some (by rw [List.drop_of_length_le (by omega)]; rfl))
  | succ d ih =>
    intro i h1 hi hd
    by_cases hlt : i < l.length
    · have hr : rd_T24 l ((i : Int) - 1) = l[i - 1] := by
        have : ((i : Int) - 1).toNat = i - 1 := by omega
        simp [rd_T24, this, show i - 1 < l.length by omega]
      have hr2 : rd_T24 l (i : Int) = l[i] := by simp [rd_T24, hlt]
      have e1 : l.drop (i - 1) = l[i - 1] :: l[i] :: l.drop (i + 1) := by
        rw [List.drop_eq_getElem_cons (by omega : i - 1 < l.length), show i - 1 + 1 = i by omega, List.drop_eq_getElem_cons hlt]
      have s1 := hs l[i - 1] (List.getElem_mem _)
      have s2 := hs l[i] (List.getElem_mem _)
      refine Ev.step (f := fun k => (inkhornref12_Less.f k l[i - 1].f0 l[i - 1].f1 l[i].f0 l[i].f1).bind fun t => (if t = true then inkhornref12_Good.l1 k l ((i + 1 : Nat) : Int) else some 7)) (fun k => ?_) ?_
      · simp only [inkhornref12_Good.l1]
        rw [wrap_small (i := (i : Int) - 1) (by omega) (by omega), if_pos (by omega), if_pos (by omega), if_pos (by omega), if_pos (by omega), wrap_small (by omega) (by omega), hr, hr2]
        rfl
      · refine ev_bind (refLess_is l[i - 1] l[i] (by omega) (by omega)) ?_
        rw [e1, rising]
        cases hk2 : keyLt l[i - 1] l[i] with
        | false => exact ev_if_neg (by simp) (ev_some (by simp))
        | true => exact ev_if_pos rfl (ev_eq (ih (i + 1) (by omega) (by omega) (by omega)) (by rw [show i + 1 - 1 = i by omega, List.drop_eq_getElem_cons hlt, Bool.true_and]))
    · refine Ev.step (f := fun _ => some 0) (fun k => by simp only [inkhornref12_Good.l1]; rw [if_neg (by omega)]) (ev_some ?_)
      have : (l.drop (i - 1)).length ≤ 1 := by rw [List.length_drop]; omega
      match h : l.drop (i - 1), this with
      | [], _ => rfl
      | [_], _ => rfl
theorem refGood_l0 (l : List S24) (hl : l.length ≤ 5) (hs : ∀ c ∈ l, c.f1.size ≤ 35184372088000) (d : Nat) : ∀ (i : Nat), i ≤ l.length → l.length - i = d →
    Ev (fun k => inkhornref12_Good.l0 k l (i : Int)) (if (l.drop i).all keyOk then (if rising l then 0 else 7) else 2) := by
  induction d with
  | zero =>
    intro i hi hd
    have e : i = l.length := by omega
    subst e
    refine Ev.step (f := fun k => inkhornref12_Good.l1 k l ((1 : Nat) : Int)) (fun k => by simp only [inkhornref12_Good.l0]; rw [if_neg (by omega)]; rfl) (ev_eq (refGood_l1 l hl hs l.length 1 (by omega) (by omega) (by omega)) (by simp))
  | succ d ih =>
    intro i hi hd
    have hlt : i < l.length := by omega
    have hr : rd_T24 l (i : Int) = l[i] := by simp [rd_T24, hlt]
    refine Ev.step (f := fun k => (inkhornref1_Len.f k l[i].f1).bind fun t => (if l[i].f0 < 1 then some 2 else (if l[i].f0 > 12 then some 2 else (if t < 0 then some 2 else (if t > 12 then some 2 else inkhornref12_Good.l0 k l ((i + 1 : Nat) : Int)))))) (fun k => ?_) ?_
    · simp only [inkhornref12_Good.l0]
      rw [if_pos (by omega), if_pos (by omega), hr, wrap_small (by omega) (by omega)]
      rfl
    · refine ev_bind (refLen_is _ (hs _ (List.getElem_mem _))) ?_
      rw [List.drop_eq_getElem_cons hlt, List.all_cons]
      have hi2 := ih (i + 1) (by omega) (by omega)
      by_cases h1 : l[i].f0 < 1
      · exact ev_if_pos h1 (ev_some (by simp [keyOk]; omega))
      refine ev_if_neg h1 ?_
      by_cases h2 : l[i].f0 > 12
      · exact ev_if_pos h2 (ev_some (by simp [keyOk]; omega))
      refine ev_if_neg h2 ?_
      by_cases h3 : lenOf (runesOf l[i].f1) < 0
      · exact ev_if_pos h3 (ev_some (by simp [keyOk]; omega))
      refine ev_if_neg h3 ?_
      by_cases h4 : lenOf (runesOf l[i].f1) > 12
      · exact ev_if_pos h4 (ev_some (by simp [keyOk]; omega))
      refine ev_if_neg h4 (ev_eq hi2 ?_)
      have hk : keyOk l[i] = true := by simp only [keyOk, Bool.and_eq_true, decide_eq_true_eq]; omega
      rw [hk, Bool.true_and]
theorem refGood_is (l : List S24) (hs : ∀ c ∈ l, c.f1.size ≤ 35184372088000) : Ev (fun k => inkhornref12_Good.f k l) (goodCuts l) := by
  unfold inkhornref12_Good.f goodCuts
  by_cases h : 5 < l.length
  · rw [if_pos h]
    exact ev_if_pos (by omega) (ev_some rfl)
  · rw [if_neg h]
    exact ev_if_neg (by omega) (ev_eq (refGood_l0 l (by omega) hs l.length 0 (by omega) (by omega)) (by rw [List.drop_zero]))
theorem sameK_loop (l : List S24) (hm : l.length ≤ 1000000) (d : Nat) : ∀ (i : Nat), i ≤ l.length → l.length - i = d → Ev (fun k => inkhornlaw0_SameKeys.l0 k l l (i : Int)) true := by
  induction d with
  | zero =>
    intro i hi hd
    exact Ev.step (f := fun _ => some true) (fun k => by simp only [inkhornlaw0_SameKeys.l0]; rw [if_neg (by omega)]) (ev_some rfl)
  | succ d ih =>
    intro i hi hd
    refine Ev.step (f := fun k => inkhornlaw0_SameKeys.l0 k l l ((i + 1 : Nat) : Int)) (fun k => ?_) (ih (i + 1) (by omega) (by omega))
    simp only [inkhornlaw0_SameKeys.l0]
    rw [if_pos (by omega), if_pos (by omega), if_pos (by omega), if_neg (by simp), wrap_small (by omega) (by omega)]
    rfl
theorem sameK_self (l : List S24) (hm : l.length ≤ 1000000) : Ev (fun k => inkhornlaw0_SameKeys.f k l l) true := by
  unfold inkhornlaw0_SameKeys.f
  exact ev_if_pos rfl (sameK_loop l hm l.length 0 (by omega) (by omega))
end Go.Proofs.Ytiobphijbpdolaa.P
