/- The contract of edit.rows (three loops over a row of the call's own): what the rows are, in lists; both texts of at most a million runes. -/
import Derived.Test.YtiobphijbpdolaaPx0
import Derived.Lib.OthersKept
import Derived.Laws.RangeAny
import Derived.IntWalk
namespace Go.Proofs.Ytiobphijbpdolaa.P
open Go.RowKit Go.Proofs.YtiobphijbpdolaaW.PrintWords Go.Proofs.YtiobphijbpdolaaW.PrintLast Go.Proofs.YtiobphijbpdolaaW.PrintMore
set_option linter.unusedVariables false
set_option linter.unusedSimpArgs false
attribute [local go_sem] max2_int min2_int max_two min_two max_three min_three max_four min_four

def editV (r q left was x : Int) : Int := mn (mn (wrap64 (x + 1)) (wrap64 (left + 1))) (if q = r then was else wrap64 (was + 1))
def editIn (r : Int) : List Int → Int → Int → List Int → List Int
  | q :: a, left, was, x :: rest => editV r q left was x :: editIn r a (editV r q left was x) x rest
  | _, _, _, _ => []
def editRow (a : List Int) (k r : Int) (row : List Int) : List Int := wrap64 (k + 1) :: editIn r a (wrap64 (k + 1)) (rd row 0) (row.drop 1)
def editRows (a : List Int) : Int → List Int → List Int → List Int
  | _, [], row => row
  | k, r :: b, row => editRows a (k + 1) b (editRow a k r row)
def iota (n : Nat) : List Int := (List.range n).map fun (i : Nat) => (i : Int)
def edit_rows.f (a b : List Int) : Option (List Int) := if a.length ≤ 1000000 ∧ b.length ≤ 1000000 then some (editRows a 0 b (iota (a.length + 1))) else none

theorem rd_set_self (l : List Int) (i : Nat) (x : Int) (h : i < l.length) : rd (l.set i x) (i : Int) = x := by
  simp [rd, List.getD_eq_getElem?_getD, List.getElem?_set, h]
theorem rd_set_ne (l : List Int) (i j : Nat) (x : Int) (h : j ≠ i) : rd (l.set i x) (j : Int) = rd l (j : Int) := by
  simp [rd, List.getD_eq_getElem?_getD, List.getElem?_set, Ne.symm h]
theorem editIn_step (r : Int) (a : List Int) (i : Nat) (was : Int) (xs : List Int) (hi : i < a.length) (hx : i + 1 < xs.length) (v : Int) (hv : v = editV r (rd a i) (rd xs i) was (rd xs ((i + 1 : Nat) : Int))) :
    (xs.set (i + 1) v).take (i + 2) ++ editIn r (a.drop (i + 1)) v (rd xs ((i + 1 : Nat) : Int)) ((xs.set (i + 1) v).drop (i + 2)) = xs.take (i + 1) ++ editIn r (a.drop i) (rd xs i) was (xs.drop (i + 1)) := by
  have e1 : rd a (i : Int) = a[i] := by simp [rd, hi]
  have e2 : rd xs ((i + 1 : Nat) : Int) = xs[i + 1] := by simp [rd, hx]
  rw [List.drop_eq_getElem_cons hi, List.drop_eq_getElem_cons hx, editIn]
  rw [e1, e2] at hv
  rw [← hv, e2]
  have e3 : (xs.set (i + 1) v).take (i + 2) = xs.take (i + 1) ++ [v] := by
    rw [List.take_succ_eq_append_getElem (by simpa using hx)]
    rw [List.take_set, List.set_eq_of_length_le (by simp; omega)]
    simp
  have e4 : (xs.set (i + 1) v).drop (i + 2) = xs.drop (i + 2) := by rw [List.drop_set_of_lt (by omega)]
  rw [e3, e4, List.append_assoc]
  rfl

set_option maxHeartbeats 4000000 in
set_option maxRecDepth 100000 in
theorem edit_rows.calls (A0 : Option Addr) (c0 : Nat) (l0 : List Int) (A1 : Option Addr) (c1 : Nat) (l1 : List Int) (r : List Int) (w : World) (hr0 : Kd.C (Kd.int .i32) w A0 l0.length l0) (hc0 : l0.length ≤ c0) (hr1 : Kd.C (Kd.int .i32) w A1 l1.length l1) (hc1 : l1.length ≤ c1) (h : edit_rows.f l0 l1 = some r) :
    Calls Try.prog 71 #[.slice A0 l0.length c0, .slice A1 l1.length c1] w fun e w' => ∃ v0_ : Value, e = .returned (v0_) ∧ Kd.R (Kd.int .i64) 3 w' w.heap.size (fun _ => True) v0_ r ∧ Below w.heap.size w w' := by
  unfold edit_rows.f at h
  split at h
  case isFalse => cases h
  rename_i hs
  obtain ⟨hs0, hs1⟩ := hs
  have H := Aside0.mk (Option.some.inj h)
  clear h
  have HR0 := Aside0.mk hr0
  have HR1 := Aside0.mk hr1
  clear hr0 hr1
  have hu3 := Try.underlying3
  obtain ⟨n, hn⟩ : ∃ n, n = l0.length + 1 := ⟨_, rfl⟩
  have hn1 : (List.replicate ((l0.length : Int) + 1).toNat (0 : Int)).length = n := by rw [hn]; simp
  have HN := Aside0.mk hn
  have hnl : l0.length < n := by omega
  have hnm : n ≤ 1000001 := by omega
  clear hn
  go_enter Try.func71, Try.ntmps71
  go_wp2_with ((with_reducible refine gate_dst (N := 16) rfl ?_); refine Kd.R_make (Kd.int .i64) (w0 := w) w.heap.size 3 rfl (N := 16) rfl 45 _ _ rfl ((l0.length : Int) + 1) rfl rfl Try.underlying45 (.int .i64 0) 8 info3 rfl (by decide) (by omega) 0 (ok := fun _ => True) (okp := fun _ => True) rfl (fun _ hk => hk) trivial (by omega) (by omega) (Below.refl _ _) (Nat.le_refl _) ?_; intro v1 w1 ho hb hg hat; have HO := Aside0.mk ho; have HB := Aside0.mk hb; obtain ⟨g, cap, e1, hg0, hgl, _⟩ := Kd.R_form HO.out (by simp); rw [hn1] at e1; subst e1; clear ho hb hg hat)
  go_loopw [19] (fun v19 w' => ∃ (i : Nat) (xs : List Int), i ≤ n ∧ v19 = .int .i64 i ∧ Aside0 (xs.length = n) ∧ Aside0 (∀ j : Nat, j < i → rd xs (j : Int) = (j : Int)) ∧ Aside0 (Kd.R (Kd.int .i64) 3 w' w.heap.size (fun _ => True) (.slice (some ⟨g, 0, none⟩) n cap) xs) ∧ Aside0 (Below w.heap.size w w')) (fun v19 _ => n - (intOf v19).toNat)
  case atStart => exact ⟨0, _, Nat.zero_le _, rfl, ⟨hn1⟩, ⟨fun j hj => absurd hj (Nat.not_lt_zero _)⟩, HO, HB⟩
  case round =>
    clear HO HB
    obtain ⟨i, xs, hi, rfl, hxl, hxs, HO, HB⟩ := hrel
    by_cases hlt : i < n
    · have d1 : decide ((i : Int) < (n : Int)) = true := decide_eq_true (by omega)
      have d2 : (i : Int) < (n : Int) := by omega
      obtain ⟨hx0, hf0⟩ := Kd.R_celln 0 HO.out (i : Int) (by omega) d2
      have HP := Aside0.mk (Kd.R_putg HO.out (i : Int) (i : Int))
      simp only [Int.toNat_natCast] at hx0 hf0 HP
      go_wp2
      go_roundw
      case rel => exact ⟨i + 1, xs.set i (i : Int), by omega, by go_num, ⟨by rw [List.length_set]; exact hxl.out⟩, ⟨fun j hj => by
        by_cases e : j = i
        · subst e; exact rd_set_self _ _ _ (by rw [hxl.out]; exact hlt)
        · rw [rd_set_ne _ _ _ _ e]; exact hxs.out j (by omega)⟩, ⟨HP.out.1⟩, ⟨below_set HB.out hg0⟩⟩
      case measure => simp [intOf]; omega
    · have e : i = n := by omega
      subst e
      have d1 : decide ((i : Int) < (i : Int)) = false := decide_eq_false (by omega)
      have hxi : xs = iota i := by
        refine List.ext_getElem (by simp [iota, hxl.out]) fun j h1 h2 => ?_
        have := hxs.out j (by rw [hxl.out] at h1; exact h1)
        simp only [rd, Int.toNat_natCast, List.getD_eq_getElem?_getD, List.getElem?_eq_getElem h1, Option.getD_some] at this
        rw [this]
        simp [iota]
      subst hxi
      go_wp2
      go_loopw [29] (fun v29 w' => ∃ (k : Nat) (row : List Int), k ≤ l1.length ∧ v29 = .int .i64 k ∧ Aside0 (row.length = i) ∧ Aside0 (editRows l0 (k : Int) (l1.drop k) row = r) ∧ Aside0 (Kd.R (Kd.int .i64) 3 w' w.heap.size (fun _ => True) (.slice (some ⟨g, 0, none⟩) i cap) row) ∧ Aside0 (Below w.heap.size w w')) (fun v29 _ => l1.length - (intOf v29).toNat)
      case atStart => exact ⟨0, _, Nat.zero_le _, rfl, hxl, ⟨by rw [← H.out, ← HN.out]; rfl⟩, HO, HB⟩
      case round =>
        clear HO HB hxl hxs
        obtain ⟨k, row, hk, rfl, hrl, HE, HO, HB⟩ := hrel
        by_cases hlt : k < l1.length
        · have d1 : decide ((k : Int) < (l1.length : Int)) = true := decide_eq_true (by omega)
          obtain ⟨ad, e1, hx1⟩ := Kd.at_int (Kd.C_below HR1.out HB.out) (k : Int) (by omega) (by omega)
          subst e1
          simp only [Int.toNat_natCast] at hx1
          obtain ⟨hx0, hf0⟩ := Kd.R_celln 0 HO.out (0 : Int) (by omega) (show (0 : Int) < (i : Int) by omega)
          have HP := Aside0.mk (Kd.R_putg HO.out (0 : Int) ((k : Int) + 1))
          have e0 : (0 : Int).toNat = 0 := rfl
          rw [e0] at hx0 hf0 HP
          clear e0
          have hw1 : IntKind.i64.wrap ((k : Int) + 1) = (k : Int) + 1 := IntWalk.i64_in _ (by omega)
          have hrd : rdOf 0 row 0 = rd row 0 := rfl
          rw [hrd] at hx0
          clear hrd
          have h0l : (0 : Int) < (i : Int) := by omega
          obtain ⟨rr, hrr⟩ : ∃ rr, rr = rd l1 (k : Int) := ⟨_, rfl⟩
          rw [← hrr] at hx1
          have HRR := Aside0.mk hrr
          clear hrr
          go_wp2
          obtain ⟨T, hT⟩ : ∃ T, T = editRow l0 (k : Int) rr row := ⟨_, rfl⟩
          have HT := Aside0.mk hT
          clear hT hx0 hf0 hx1
          go_loopw [9, 43] (fun v9 v43 w' => ∃ (j : Nat) (was : Int) (xs : List Int), j ≤ l0.length ∧ v43 = .int .i64 j ∧ v9 = .int .i64 was ∧ Aside0 (xs.length = i) ∧ Aside0 (xs.take (j + 1) ++ editIn rr (l0.drop j) (rd xs (j : Int)) was (xs.drop (j + 1)) = T) ∧ Aside0 (Kd.R (Kd.int .i64) 3 w' w.heap.size (fun _ => True) (.slice (some ⟨g, 0, none⟩) i cap) xs) ∧ Aside0 (Below w.heap.size w w')) (fun _ v43 _ => l0.length - (intOf v43).toNat)
          case atStart => exact ⟨0, _, _, Nat.zero_le _, rfl, rfl, ⟨by rw [List.length_set]; exact hrl.out⟩, ⟨by
            rw [HT.out]
            cases row with
            | nil => exact absurd hrl.out (by simp; omega)
            | cons x row =>
              show ((k : Int) + 1) :: editIn rr l0 ((k : Int) + 1) x row = wrap64 ((k : Int) + 1) :: editIn rr l0 (wrap64 ((k : Int) + 1)) x row
              rw [show wrap64 ((k : Int) + 1) = (k : Int) + 1 by unfold wrap64; omega]⟩, ⟨HP.out.1⟩, ⟨below_set HB.out hg0⟩⟩
          case round =>
            clear HO HB HP
            obtain ⟨j, was, xs, hj, rfl, rfl, hxl, hx, HO, HB⟩ := hrel
            by_cases hjl : j < l0.length
            · have d1 : decide ((j : Int) < (l0.length : Int)) = true := decide_eq_true (by omega)
              obtain ⟨ad0, e1, hx1⟩ := Kd.at_int (Kd.C_below HR0.out HB.out) (j : Int) (by omega) (by omega)
              subst e1
              simp only [Int.toNat_natCast] at hx1
              obtain ⟨hx0, hf0⟩ := Kd.R_celln 0 HO.out (j : Int) (by omega) (show (j : Int) < (i : Int) by omega)
              obtain ⟨hx2, hf2⟩ := Kd.R_celln 0 HO.out ((j + 1 : Nat) : Int) (by omega) (show ((j + 1 : Nat) : Int) < (i : Int) by omega)
              simp only [Int.toNat_natCast] at hx0 hf0 hx2 hf2
              have hw1 : IntKind.i64.wrap ((j : Int) + 1) = ((j + 1 : Nat) : Int) := IntWalk.i64_in _ (by omega)
              have d2 : (j : Int) < (i : Int) := by omega
              have d3 : ((j + 1 : Nat) : Int) < (i : Int) := by omega
              by_cases hq : rd l0 (j : Int) = rr
              · skip
                go_wp2
                go_roundw
                case rel =>
                  have hs := editIn_step rr l0 j was xs hjl (by rw [hxl.out]; omega) (mn (mn (wrap64 (rdOf 0 xs ((j : Int) + 1) + 1)) (wrap64 (rdOf 0 xs (j : Int) + 1))) was) (by unfold editV; rw [if_pos hq]; rfl)
                  rw [hx.out] at hs
                  refine ⟨j + 1, _, xs.set (j + 1) (mn (mn (wrap64 (rdOf 0 xs ((j : Int) + 1) + 1)) (wrap64 (rdOf 0 xs (j : Int) + 1))) was), by omega, by go_num, rfl, ⟨by rw [List.length_set]; exact hxl.out⟩, ⟨?_⟩, ⟨(Kd.R_putg HO.out ((j + 1 : Nat) : Int) _).1⟩, ⟨below_set HB.out hg0⟩⟩
                  rw [rd_set_self _ _ _ (by rw [hxl.out]; omega)]
                  exact hs
                case measure => simp [intOf]; omega
              · skip
                go_wp2
                go_roundw
                case rel =>
                  have hs := editIn_step rr l0 j was xs hjl (by rw [hxl.out]; omega) (mn (mn (wrap64 (rdOf 0 xs ((j : Int) + 1) + 1)) (wrap64 (rdOf 0 xs (j : Int) + 1))) (wrap64 (was + 1))) (by unfold editV; rw [if_neg hq]; rfl)
                  rw [hx.out] at hs
                  refine ⟨j + 1, _, xs.set (j + 1) (mn (mn (wrap64 (rdOf 0 xs ((j : Int) + 1) + 1)) (wrap64 (rdOf 0 xs (j : Int) + 1))) (wrap64 (was + 1))), by omega, by go_num, rfl, ⟨by rw [List.length_set]; exact hxl.out⟩, ⟨?_⟩, ⟨(Kd.R_putg HO.out ((j + 1 : Nat) : Int) _).1⟩, ⟨below_set HB.out hg0⟩⟩
                  rw [rd_set_self _ _ _ (by rw [hxl.out]; omega)]
                  exact hs
                case measure => simp [intOf]; omega
            · have e : j = l0.length := by omega
              subst e
              have d1 : decide ((l0.length : Int) < (l0.length : Int)) = false := decide_eq_false (by omega)
              have hxT : xs = T := by
                have h1 := hx.out
                rw [List.drop_length] at h1
                simp only [editIn] at h1
                rw [List.append_nil, List.take_of_length_le (by have := hxl.out; have := HN.out; omega)] at h1
                exact h1
              subst hxT
              go_wp2
              go_roundw
              case rel => exact ⟨k + 1, xs, by omega, by go_num, hxl, ⟨by
                have h1 := HE.out
                rw [List.drop_eq_getElem_cons hlt, editRows] at h1
                have e3 : l1[k] = rr := by rw [HRR.out]; simp [rd, hlt]
                rw [e3, ← HT.out] at h1
                exact h1⟩, HO, HB⟩
              case measure => simp [intOf]; omega
        · have e : k = l1.length := by omega
          subst e
          have d1 : decide ((l1.length : Int) < (l1.length : Int)) = false := decide_eq_false (by omega)
          have h1 := HE.out
          rw [List.drop_length] at h1
          simp only [editRows] at h1
          go_wp2
          go_ret
          exact ⟨_, rfl, by rw [← h1]; exact HO.out, HB.out⟩
end Go.Proofs.Ytiobphijbpdolaa.P
