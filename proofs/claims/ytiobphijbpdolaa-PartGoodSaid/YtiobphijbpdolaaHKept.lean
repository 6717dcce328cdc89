/- The contract of law 0's KeptKeys: a copy of cuts with its marks is as it was. -/
import Derived.Test.YtiobphijbpdolaaHLend
import Derived.Test.YtiobphijbpdolaaQRef12
namespace Go.Proofs.Ytiobphijbpdolaa.P
open Go.RowKit Go.Proofs.YtiobphijbpdolaaW.PrintWords Go.Proofs.YtiobphijbpdolaaW.PrintLast Go.Proofs.YtiobphijbpdolaaW.PrintMore
set_option linter.unusedVariables false
set_option linter.unusedSimpArgs false

theorem add_zero_at (g k : Nat) : (⟨g, 0, none⟩ : Addr).add k = ⟨g, k, none⟩ := by
  unfold Addr.add
  by_cases h : k = 0
  · rw [if_pos h, h]
  · rw [if_neg h, Nat.zero_add]
/-- What lies in a block of cuts is read as cuts. -/
theorem keyBlk_reads {w : World} {g : Nat} {l r : List S24} (h : KeyBlk w g (l ++ r)) (hl : l.length ≤ 1000) : Kd.C k24 w (some ⟨g, 0, none⟩) l.length l := by
  refine ⟨rfl, by omega, fun _ => ⟨⟨g, 0, none⟩, rfl, fun j p hp => ?_⟩⟩
  have hj : j < l.length := (List.getElem?_eq_some_iff.1 hp).1
  have hpe : l[j] = p := (List.getElem?_eq_some_iff.1 hp).2
  have hc := keyCells_at (l ++ r) j (by rw [List.length_append]; omega)
  rw [List.getElem_append_left hj, hpe] at hc
  unfold KeyBlk at h
  refine ⟨[.int .i64 p.f0, .string p.f1], rfl, k24_mk w p, fun i u hu => ?_⟩
  rw [add_zero_at, blk_cell h, List.getElem?_toArray]
  match i, hu with
  | 0, hu => cases hu; rw [Nat.add_zero, Nat.mul_comm]; exact hc.1
  | 1, hu => cases hu; rw [Nat.mul_comm]; exact hc.2
theorem mark_at (l : List S24) (i : Nat) (hi : i < 3) : (keyCells (l ++ [mark, mark, mark]))[l.length * 2 + i * 2]? = some (.int .i64 (-7)) ∧ (keyCells (l ++ [mark, mark, mark]))[l.length * 2 + i * 2 + 1]? = some (.string ⟨#[]⟩) := by
  have hc := keyCells_at (l ++ [mark, mark, mark]) (l.length + i) (by rw [List.length_append]; simp; omega)
  have hx : (l ++ [mark, mark, mark])[l.length + i]'(by rw [List.length_append]; simp; omega) = mark := by
    rw [List.getElem_append_right (by omega)]
    rcases (show i = 0 ∨ i = 1 ∨ i = 2 by omega) with rfl | rfl | rfl <;> simp
  rw [hx] at hc
  rw [show l.length * 2 + i * 2 = 2 * (l.length + i) by omega]
  exact hc
set_option maxHeartbeats 4000000 in
set_option maxRecDepth 100000 in
theorem kept_calls (g : Nat) (A0 : Option Addr) (c0 : Nat) (l0 : List S24) (c : Nat) (w : World) (hk : KeyBlk w g (l0 ++ [mark, mark, mark])) (hr0 : Kd.C k24 w A0 l0.length l0) (hc0 : l0.length ≤ c0) (hl : l0.length ≤ 1000) (hc : c = l0.length + 3) :
    Calls Try.prog 19 #[.slice (some ⟨g, 0, none⟩) l0.length c, .slice A0 l0.length c0] w fun e w' => e = .returned (.bool true) ∧ Below w.heap.size w w' := by
  have hu24 := Try.underlying24
  obtain ⟨kS, hS⟩ := (sameK_self l0 (by omega)).rounds
  have HS := Aside0.mk hS
  have HR0 := Aside0.mk hr0
  have HRK := Aside0.mk (keyBlk_reads hk hl)
  have HK := Aside0.mk hk
  clear hr0 hS hk
  obtain ⟨i0, hi0, hz0, hz1, hz2⟩ := info_parts info24
  have wc : IntKind.i64.wrap ((l0.length : Int) + 3) = (c : Int) := by rw [hc]; exact IntWalk.i64_in _ (by omega)
  have wcb : wrap64 ((l0.length : Int) + 3) = (c : Int) := by rw [← i64_w]; exact wc
  have hcut := cut_room (P := Try.prog) 22 24 .i64 .i64 Try.underlying22 hi0 2 hz1 (some ⟨g, 0, none⟩) l0.length c (l0.length : Int) (c : Int) (by omega) (by omega) (by omega)
  have hpa : (if c = l0.length then (some ⟨g, 0, none⟩ : Option Addr) else (some ⟨g, 0, none⟩ : Option Addr).map (·.add (l0.length * 2))) = some ⟨g, l0.length * 2, none⟩ := by
    rw [if_neg (by omega)]
    simp only [Option.map_some, add_zero_at]
  simp only [Int.toNat_natCast] at hcut
  rw [hpa, show c - l0.length = 3 by omega] at hcut
  have HC := Aside0.mk hc
  clear hpa hc
  have HB := Aside0.mk (Below.refl w.heap.size w)
  go_enter Try.func19, Try.ntmps19
  go_wp2
  go_loop [6] (fun v6 => ∃ i : Int, Aside0 (0 ≤ i) ∧ Aside0 (i ≤ 3) ∧ v6 = .int .i64 i) (fun v6 => 3 - (intOf v6).toNat)
  case atStart => exact ⟨0, ⟨Int.le_refl _⟩, ⟨by omega⟩, rfl⟩
  case round =>
    obtain ⟨i, HI0, HI1, rfl⟩ := hrel
    by_cases hlt : i < 3
    · have hi0 := HI0.out
      have d1 : decide (i < 3) = true := decide_eq_true hlt
      have p1 : (0 ≤ i) = True := eq_true hi0
      have p2 : (i < 3) = True := eq_true hlt
      have wi : IntKind.i64.wrap (i + 1) = i + 1 := IntWalk.i64_in _ (by omega)
      have wib : wrap64 (i + 1) = i + 1 := by rw [← i64_w]; exact wi
      have hm := mark_at l0 i.toNat (by omega)
      have hk := HK.out
      unfold KeyBlk at hk
      have c1 : w.cell? ⟨g, l0.length * 2 + i.toNat * 2, none⟩ = some (.int .i64 (-7)) := by rw [blk_cell hk, List.getElem?_toArray]; exact hm.1
      have c2 : w.cell? ⟨g, l0.length * 2 + i.toNat * 2 + 1, none⟩ = some (.string ⟨#[]⟩) := by rw [blk_cell hk, List.getElem?_toArray]; exact hm.2
      clear hm hk hlt
      go_wp2
      go_round
      case rel => have := of_eq_true p2; exact ⟨i + 1, ⟨by omega⟩, ⟨by omega⟩, by first | rfl | go_num⟩
      case measure => have := of_eq_true p2; have := HI0.out; simp [intOf]; omega
    · have d1 : decide (i < 3) = false := decide_eq_false hlt
      go_wp2_with ((go_at_call 50; (with_reducible refine (inkhornlaw0_SameKeys.calls kS (some ⟨g, 0, none⟩) c l0 A0 c0 l0 true _ HRK.out (by have := HC.out; omega) HR0.out hc0 HS.out).mono ?_); rintro e w' ⟨rfl, ⟨nd, rfl⟩⟩))
      go_ret
      exact ⟨rfl, by repeat (first | (with_reducible exact HB.out) | apply pw_below_drewN)⟩
end Go.Proofs.Ytiobphijbpdolaa.P
