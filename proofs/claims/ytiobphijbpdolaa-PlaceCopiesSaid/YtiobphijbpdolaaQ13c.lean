/- Plain facts on who keeps what: copies part from one another, keepers' shards rise, and there are as many as copies of all shards. -/
import Derived.Test.YtiobphijbpdolaaQ13
namespace Go.Proofs.Ytiobphijbpdolaa.P
open Go.RowKit Go.Proofs.YtiobphijbpdolaaW.PrintWords Go.Proofs.YtiobphijbpdolaaW.PrintLast Go.Proofs.YtiobphijbpdolaaW.PrintMore
set_option linter.unusedVariables false

def copyB (W C s i : Nat) : Bool := !(decide (1 ≤ W) && decide (C ≤ W) && decide (i < C)) || (decide (1 ≤ rd (copiesL W C s) i) && decide (rd (copiesL W C s) i ≤ W) && (decide (i < 1) || decide (rd (copiesL W C s) i ≠ rd (copiesL W C s) ((i : Int) - 1))) && (decide (i < 2) || decide (rd (copiesL W C s) i ≠ rd (copiesL W C s) ((i : Int) - 2))))
theorem copy_tab : (List.range 6).all (fun W => (List.range 4).all fun C => (List.range 7).all fun s => (List.range 4).all fun i => copyB W C s i) = true := by decide +kernel
theorem copy_all (W C s i : Nat) (hW : W < 6) (hC : C < 4) (hs : s < 7) (h1 : 1 ≤ W) (h2 : C ≤ W) (hi : i < C) : 1 ≤ rd (copiesL W C s) i ∧ rd (copiesL W C s) i ≤ W ∧ (1 ≤ i → rd (copiesL W C s) i ≠ rd (copiesL W C s) ((i : Int) - 1)) ∧ (2 ≤ i → rd (copiesL W C s) i ≠ rd (copiesL W C s) ((i : Int) - 2)) := by
  have a := List.all_eq_true.1 (List.all_eq_true.1 (List.all_eq_true.1 (List.all_eq_true.1 copy_tab W (List.mem_range.2 hW)) C (List.mem_range.2 hC)) s (List.mem_range.2 hs)) i (List.mem_range.2 (by omega))
  simp only [copyB, Bool.or_eq_true, Bool.and_eq_true, Bool.not_eq_true', decide_eq_true_eq, Bool.and_eq_false_iff, decide_eq_false_iff_not] at a
  rcases a with a | ⟨⟨⟨a1, a2⟩, a3⟩, a4⟩
  · omega
  · exact ⟨a1, a2, fun h => a3.resolve_left (by omega), fun h => a4.resolve_left (by omega)⟩
/-- How many of n shards worker w keeps, of W workers, in C copies. -/
def cntK2 (n W C : Nat) (w : Int) : Nat := ((List.range n).filter fun s => (copiesL W C s).any fun y => decide (w = y)).length
def sumK (n W C : Nat) : Nat → Nat
  | 0 => 0
  | i + 1 => sumK n W C i + cntK2 n W C ((i + 1 : Nat) : Int)
theorem sum_tab : (List.range 7).all (fun n => (List.range 6).all fun W => (List.range 4).all fun C => decide (W < C) || decide (W < 1) || decide (sumK n W C W = C * n)) = true := by decide +kernel
theorem sum_all (n W C : Nat) (hn : n < 7) (hW : W < 6) (hC : C < 4) (h1 : 1 ≤ W) (h2 : C ≤ W) : sumK n W C W = C * n := by
  have a := List.all_eq_true.1 (List.all_eq_true.1 (List.all_eq_true.1 sum_tab n (List.mem_range.2 hn)) W (List.mem_range.2 hW)) C (List.mem_range.2 hC)
  simp only [Bool.or_eq_true, decide_eq_true_eq] at a
  omega
theorem keeps_cnt2 (c : Cfg) (h : mayB c = true) (w : Int) : (keepsOf c w).length = cntK2 (c.cs.length + 1) c.workers.toNat c.copies.toNat w := by
  have hsh : shards c = c.cs.length + 1 := by simp [shards, h]
  unfold keepsOf keepsUpto cntK2
  rw [List.length_map, hsh]
  congr 1
  apply List.filter_congr
  intro s hs
  rw [List.mem_range] at hs
  rw [copiesOf, if_pos (by rw [hsh]; omega)]
  rfl
theorem keeps_mem (c : Cfg) (w : Int) (i : Nat) (hi : i < (keepsOf c w).length) : ∃ s : Nat, s < shards c ∧ rd (keepsOf c w) (i : Int) = (s : Int) ∧ ((copiesOf c (s : Int)).any fun y => decide (w = y)) = true := by
  have h : rd (keepsOf c w) (i : Int) ∈ keepsOf c w := by
    have : rd (keepsOf c w) (i : Int) = (keepsOf c w)[i] := by simp [rd, hi]
    rw [this]
    exact List.getElem_mem _
  unfold keepsOf keepsUpto at h
  rw [List.mem_map] at h
  obtain ⟨s, hs, e⟩ := h
  rw [List.mem_filter, List.mem_range] at hs
  exact ⟨s, hs.1, e.symm, hs.2⟩
theorem keeps_rise (c : Cfg) (w : Int) (i : Nat) (h1 : 1 ≤ i) (hi : i < (keepsOf c w).length) : rd (keepsOf c w) ((i : Int) - 1) < rd (keepsOf c w) (i : Int) := by
  have hp : (keepsOf c w).Pairwise (· < ·) := by
    unfold keepsOf keepsUpto
    refine List.Pairwise.map _ (R := (· < ·)) (fun a b h => by omega) ?_
    exact List.Pairwise.filter _ List.pairwise_lt_range
  have := List.pairwise_iff_getElem.1 hp (i - 1) i (by omega) hi (by omega)
  have e1 : rd (keepsOf c w) (i : Int) = (keepsOf c w)[i] := by simp [rd, hi]
  have e2 : rd (keepsOf c w) ((i : Int) - 1) = (keepsOf c w)[i - 1] := by
    rw [show (i : Int) - 1 = ((i - 1 : Nat) : Int) by omega]
    simp [rd, show i - 1 < (keepsOf c w).length by omega]
  rw [e1, e2]
  exact this
end Go.Proofs.Ytiobphijbpdolaa.P
