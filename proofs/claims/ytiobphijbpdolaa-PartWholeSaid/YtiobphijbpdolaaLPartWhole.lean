/- inkhornlaw12.PartWhole returns true, whatever the cuts and the words. -/
import Derived.Test.YtiobphijbpdolaaQ12b
import Derived.Test.YtiobphijbpdolaaHAwkP
import Derived.Test.YtiobphijbpdolaaKinds
import Derived.Deep.RegionLaw
import Derived.Deep.RegionWith
import Derived.IntWalk
namespace Go.Proofs.Ytiobphijbpdolaa.P
open Go.RowKit Go.Proofs.YtiobphijbpdolaaW.PrintWords Go.Proofs.YtiobphijbpdolaaW.PrintLast Go.Proofs.YtiobphijbpdolaaW.PrintMore
set_option linter.unusedVariables false
set_option linter.unusedSimpArgs false

def shX (cuts : List S24) (ws : List ByteArray) (j : Nat) : List ByteArray := ws.filter fun x => decide (shardOf cuts (keyOf x) = (j : Int))
def shU (cuts : List S24) (ws : List ByteArray) (j : Nat) : List ByteArray := ws.filter fun x => decide (shardOf cuts (keyOf x) < (j : Int))
theorem filter_two {α : Type} (l : List α) (p q r : α → Bool) (h : ∀ x ∈ l, r x = (p x || q x)) (hd : ∀ x ∈ l, ¬ (p x = true ∧ q x = true)) : (l.filter r).length = (l.filter p).length + (l.filter q).length := by
  induction l with
  | nil => rfl
  | cons x l ih =>
    have ih := ih (fun y hy => h y (List.mem_cons_of_mem _ hy)) (fun y hy => hd y (List.mem_cons_of_mem _ hy))
    have h1 := h x (by simp)
    have h2 := hd x (by simp)
    simp only [List.filter_cons, h1]
    cases hp : p x <;> cases hq : q x
    · simpa using ih
    · simp; omega
    · simp; omega
    · exact absurd ⟨hp, hq⟩ h2

set_option maxHeartbeats 4000000 in
set_option maxRecDepth 100000 in
theorem PartWhole_walk (A0 : Option Addr) (c0 : Nat) (l0 : List S24) (A1 : Option Addr) (c1 : Nat) (l1 : List ByteArray) (w : World) (hr0 : Kd.C k24 w A0 l0.length l0) (hc0 : l0.length ≤ c0) (hr1 : Kd.C Kd.string w A1 l1.length l1) (hc1 : l1.length ≤ c1) (f0 : F22 l0) (f1 : F41 l1) :
    Calls Try.prog 7 #[.slice A0 l0.length c0, .slice A1 l1.length c1] w fun e w' => e = .returned (.bool true) ∧ Below w.heap.size w w' := by
  have hs : ∀ c ∈ l0, c.f1.size ≤ 140737488355328 := fun c hc => by have := (f0.2 c hc).2; unfold F9 at this; omega
  have hs1 : ∀ c ∈ l1, c.size ≤ 140737488355328 := fun c hc => by have := f1.2 c hc; unfold F9 at this; omega
  have hl : l0.length ≤ 140737488355328 := by have := f0.1; omega
  have hl1 : l1.length ≤ 140737488355328 := by have := f1.1; omega
  have HG := Aside0.mk (great_is l0)
  obtain ⟨kT, hT⟩ := (texts_is l1 hl1).rounds
  have HT := Aside0.mk hT
  have HD := Aside0.mk (good_is l0 hs)
  obtain ⟨kW, hW⟩ := (goodW_is l1 hs1).rounds
  have HW := Aside0.mk hW
  have HR0 := Aside0.mk hr0
  have HR1 := Aside0.mk hr1
  clear hr0 hr1 hT hW f0 f1
  have HB := Aside0.mk (Below.refl w.heap.size w)
  have hord : greatKeys l0 = true ∨ (greatKeys l0 = false ∧ greatTexts l1 = true) ∨ (greatKeys l0 = false ∧ greatTexts l1 = false ∧ goodCuts l0 ≠ 0) ∨ (greatKeys l0 = false ∧ greatTexts l1 = false ∧ goodCuts l0 = 0 ∧ goodWords l1 ≠ 0) ∨ (greatKeys l0 = false ∧ greatTexts l1 = false ∧ goodCuts l0 = 0 ∧ goodWords l1 = 0) := by
    cases greatKeys l0 <;> cases greatTexts l1 <;> by_cases h1 : goodCuts l0 = 0 <;> by_cases h2 : goodWords l1 = 0 <;> simp [h1, h2]
  rcases hord with h | ⟨h, h2⟩ | ⟨h, h2, h3⟩ | ⟨h, h2, h3, h4⟩ | ⟨h, h2, h3, h4⟩
  · rw [h] at HG
    clear h
    go_enter Try.func7, Try.ntmps7
    go_wp2_with (first | (go_at_call 13; (with_reducible refine (inkhornlaw12_great.calls 30 _ c0 l0 _ _ (Kd.C_below HR0.out (by repeat (first | (with_reducible exact HB.out) | apply below_alloc | apply pw_below_drewN | apply below_drew | (refine below_set ?_ (by simp))))) hc0 HG.out).mono ?_); rintro e w' ⟨rfl, hb⟩; have n0_ := Aside0.mk (below_step (by repeat (first | (with_reducible exact HB.out) | apply below_alloc | apply pw_below_drewN | apply below_drew | (refine below_set ?_ (by simp)))) hb); clear HB hb; have HB := n0_; clear n0_) | (go_at_call 14; (with_reducible refine (inkhornlaw12_awake.calls true _ rfl).mono ?_); rintro e w' ⟨rfl, hb⟩; have n0_ := Aside0.mk (below_step (by repeat (first | (with_reducible exact HB.out) | apply below_alloc | apply pw_below_drewN | apply below_drew | (refine below_set ?_ (by simp)))) hb); clear HB hb; have HB := n0_; clear n0_))
    go_ret
    exact ⟨rfl, HB.out⟩
  · rw [h] at HG
    rw [h2] at HT
    clear h h2
    go_enter Try.func7, Try.ntmps7
    go_wp2_with (first | (go_at_call 13; (with_reducible refine (inkhornlaw12_great.calls 30 _ c0 l0 _ _ (Kd.C_below HR0.out (by repeat (first | (with_reducible exact HB.out) | apply below_alloc | apply pw_below_drewN | apply below_drew | (refine below_set ?_ (by simp))))) hc0 HG.out).mono ?_); rintro e w' ⟨rfl, hb⟩; have n0_ := Aside0.mk (below_step (by repeat (first | (with_reducible exact HB.out) | apply below_alloc | apply pw_below_drewN | apply below_drew | (refine below_set ?_ (by simp)))) hb); clear HB hb; have HB := n0_; clear n0_) | (go_at_call 30; (with_reducible refine (inkhornlaw0_GreatTexts.calls kT _ c1 l1 _ _ (Kd.C_below HR1.out (by repeat (first | (with_reducible exact HB.out) | apply below_alloc | apply pw_below_drewN | apply below_drew | (refine below_set ?_ (by simp))))) hc1 HT.out).mono ?_); rintro e w' ⟨rfl, ⟨nd, rfl⟩⟩) | (go_at_call 14; (with_reducible refine (inkhornlaw12_awake.calls true _ rfl).mono ?_); rintro e w' ⟨rfl, hb⟩; have n0_ := Aside0.mk (below_step (by repeat (first | (with_reducible exact HB.out) | apply below_alloc | apply pw_below_drewN | apply below_drew | (refine below_set ?_ (by simp)))) hb); clear HB hb; have HB := n0_; clear n0_))
    go_ret
    exact ⟨rfl, HB.out⟩
  · have hd0 : (goodCuts l0 == 0) = false := by simpa using h3
    have hd1 : (goodCuts l0 != 0) = true := by simpa using h3
    rw [h] at HG
    rw [h2] at HT
    clear h h2 h3
    generalize goodCuts l0 = d at HD hd0 hd1
    go_enter Try.func7, Try.ntmps7
    go_wp2_with (first | (go_at_call 13; (with_reducible refine (inkhornlaw12_great.calls 30 _ c0 l0 _ _ (Kd.C_below HR0.out (by repeat (first | (with_reducible exact HB.out) | apply below_alloc | apply pw_below_drewN | apply below_drew | (refine below_set ?_ (by simp))))) hc0 HG.out).mono ?_); rintro e w' ⟨rfl, hb⟩; have n0_ := Aside0.mk (below_step (by repeat (first | (with_reducible exact HB.out) | apply below_alloc | apply pw_below_drewN | apply below_drew | (refine below_set ?_ (by simp)))) hb); clear HB hb; have HB := n0_; clear n0_) | (go_at_call 30; (with_reducible refine (inkhornlaw0_GreatTexts.calls kT _ c1 l1 _ _ (Kd.C_below HR1.out (by repeat (first | (with_reducible exact HB.out) | apply below_alloc | apply pw_below_drewN | apply below_drew | (refine below_set ?_ (by simp))))) hc1 HT.out).mono ?_); rintro e w' ⟨rfl, ⟨nd, rfl⟩⟩) | (go_at_call 17; (with_reducible refine (part_Good.calls 20 _ c0 l0 _ _ (Kd.C_below HR0.out (by repeat (first | (with_reducible exact HB.out) | apply below_alloc | apply pw_below_drewN | apply below_drew | (refine below_set ?_ (by simp))))) hc0 HD.out).mono ?_); rintro e w' ⟨rfl, hb⟩; have n0_ := Aside0.mk (below_step (by repeat (first | (with_reducible exact HB.out) | apply below_alloc | apply pw_below_drewN | apply below_drew | (refine below_set ?_ (by simp)))) hb); clear HB hb; have HB := n0_; clear n0_) | (go_at_call 14; (with_reducible refine (inkhornlaw12_awake.calls true _ rfl).mono ?_); rintro e w' ⟨rfl, hb⟩; have n0_ := Aside0.mk (below_step (by repeat (first | (with_reducible exact HB.out) | apply below_alloc | apply pw_below_drewN | apply below_drew | (refine below_set ?_ (by simp)))) hb); clear HB hb; have HB := n0_; clear n0_))
    go_ret
    exact ⟨rfl, HB.out⟩
  · have hd0 : (goodWords l1 == 0) = false := by simpa using h4
    have hd1 : (goodWords l1 != 0) = true := by simpa using h4
    rw [h] at HG
    rw [h2] at HT
    rw [h3] at HD
    clear h h2 h3 h4
    generalize goodWords l1 = d at HW hd0 hd1
    go_enter Try.func7, Try.ntmps7
    go_wp2_with (first | (go_at_call 13; (with_reducible refine (inkhornlaw12_great.calls 30 _ c0 l0 _ _ (Kd.C_below HR0.out (by repeat (first | (with_reducible exact HB.out) | apply below_alloc | apply pw_below_drewN | apply below_drew | (refine below_set ?_ (by simp))))) hc0 HG.out).mono ?_); rintro e w' ⟨rfl, hb⟩; have n0_ := Aside0.mk (below_step (by repeat (first | (with_reducible exact HB.out) | apply below_alloc | apply pw_below_drewN | apply below_drew | (refine below_set ?_ (by simp)))) hb); clear HB hb; have HB := n0_; clear n0_) | (go_at_call 30; (with_reducible refine (inkhornlaw0_GreatTexts.calls kT _ c1 l1 _ _ (Kd.C_below HR1.out (by repeat (first | (with_reducible exact HB.out) | apply below_alloc | apply pw_below_drewN | apply below_drew | (refine below_set ?_ (by simp))))) hc1 HT.out).mono ?_); rintro e w' ⟨rfl, ⟨nd, rfl⟩⟩) | (go_at_call 17; (with_reducible refine (part_Good.calls 20 _ c0 l0 _ _ (Kd.C_below HR0.out (by repeat (first | (with_reducible exact HB.out) | apply below_alloc | apply pw_below_drewN | apply below_drew | (refine below_set ?_ (by simp))))) hc0 HD.out).mono ?_); rintro e w' ⟨rfl, hb⟩; have n0_ := Aside0.mk (below_step (by repeat (first | (with_reducible exact HB.out) | apply below_alloc | apply pw_below_drewN | apply below_drew | (refine below_set ?_ (by simp)))) hb); clear HB hb; have HB := n0_; clear n0_) | (go_at_call 31; (with_reducible refine (list_Good.calls kW _ c1 l1 _ _ (Kd.C_below HR1.out (by repeat (first | (with_reducible exact HB.out) | apply below_alloc | apply pw_below_drewN | apply below_drew | (refine below_set ?_ (by simp))))) hc1 HW.out).mono ?_); rintro e w' ⟨rfl, hb⟩; have n0_ := Aside0.mk (below_step (by repeat (first | (with_reducible exact HB.out) | apply below_alloc | apply pw_below_drewN | apply below_drew | (refine below_set ?_ (by simp)))) hb); clear HB hb; have HB := n0_; clear n0_) | (go_at_call 14; (with_reducible refine (inkhornlaw12_awake.calls true _ rfl).mono ?_); rintro e w' ⟨rfl, hb⟩; have n0_ := Aside0.mk (below_step (by repeat (first | (with_reducible exact HB.out) | apply below_alloc | apply pw_below_drewN | apply below_drew | (refine below_set ?_ (by simp)))) hb); clear HB hb; have HB := n0_; clear n0_))
    go_ret
    exact ⟨rfl, HB.out⟩
  obtain ⟨h5, hok, hp⟩ := good_pairs h3
  obtain ⟨h60, hwd, hpw⟩ := goodW_pairs h4
  -- what is reckoned, of every shard
  have hof : ∀ x ∈ l1, ofI l0 x = shardOf l0 (keyOf x) := fun x hx => by unfold ofI; rw [hwd x hx, if_pos rfl]
  have hX : ∀ s : Int, sliceL l0 l1 s = l1.filter fun x => decide (shardOf l0 (keyOf x) = s) := fun s => by
    unfold sliceL
    refine List.filter_congr fun x hx => ?_
    have := (shard_range l0 (keyOf x)).1
    simp only [inShard, hof x hx]
    simp [this]
  have HS := Aside0.mk (fun s : Int => (slice_is l0 l1 s hl (by omega) hs1).rounds)
  have HN : ∀ j : Nat, (shX l0 l1 j).length ≤ 60 ∧ (shU l0 l1 j).length ≤ 60 ∧ (shU l0 l1 (j + 1)).length = (shU l0 l1 j).length + (shX l0 l1 j).length := fun j => by
    have a1 := List.length_filter_le (fun x => decide (shardOf l0 (keyOf x) = (j : Int))) l1
    have a2 := List.length_filter_le (fun x => decide (shardOf l0 (keyOf x) < (j : Int))) l1
    refine ⟨Nat.le_trans a1 h60, Nat.le_trans a2 h60, ?_⟩
    refine filter_two l1 _ _ _ (fun x _ => ?_) (fun x _ => ?_)
    · rw [← Bool.decide_or]
      exact decide_eq_decide.2 (by omega)
    · simp only [decide_eq_true_eq]; omega
  have HM := Aside0.mk (fun j : Nat => (ev_eq (merge_loop (fun x => decide (shardOf l0 (keyOf x) < (j : Int))) (fun x => decide (shardOf l0 (keyOf x) = (j : Int))) l1 [] hpw (fun x _ => by simp only [decide_eq_true_eq]; omega) (by simp; omega)) (r' := shU l0 l1 (j + 1)) (by
    show [] ++ _ = _
    rw [List.nil_append]
    unfold shU
    refine List.filter_congr fun x _ => ?_
    rw [← Bool.decide_or]
    exact decide_eq_decide.2 (by omega))).rounds)
  have HO := Aside0.mk (fun (j : Nat) (x : ByteArray) (hx : x ∈ shX l0 l1 j) => (show part_Of.f l0 x = some (j : Int) ∧ ∃ n, text_Len.f x = some n ∧ decide (n < (lensP l0 j).1) = false ∧ decide ((lensP l0 j).2 < n) = false from by
    unfold shX at hx
    rw [List.mem_filter, decide_eq_true_eq] at hx
    have hw := hwd x hx.1
    have hle := lens_holds h3 hw
    rw [hx.2] at hle
    refine ⟨?_, lenOf (runesOf x), if_pos (hs1 x hx.1), ?_, ?_⟩
    · rw [ofI_is l0 x (hs1 x hx.1) hl, hof x hx.1, hx.2]
    · exact decide_eq_false (by omega)
    · exact decide_eq_false (by omega)))
  have HL := Aside0.mk (fun s : Int => lens_is l0 s hl)
  have HU0 : shU l0 l1 0 = [] := by
    unfold shU
    refine List.filter_eq_nil_iff.2 fun x _ => ?_
    have := (shard_range l0 (keyOf x)).1
    simp only [decide_eq_true_eq]
    omega
  have HUn : shU l0 l1 (l0.length + 1) = l1 := by
    unfold shU
    refine List.filter_eq_self.2 fun x _ => ?_
    have := (shard_range l0 (keyOf x)).2
    simp only [decide_eq_true_eq]
    omega
  have HXn : sliceL l0 l1 ((l0.length : Int) + 1) = [] := by
    rw [hX]
    refine List.filter_eq_nil_iff.2 fun x _ => ?_
    have := (shard_range l0 (keyOf x)).2
    simp only [decide_eq_true_eq]
    omega
  obtain ⟨kQ, hQ⟩ := (sameT_self l1 (by omega)).rounds
  have HQ := Aside0.mk hQ
  obtain ⟨kE, hE⟩ := HS.out ((l0.length : Int) + 1)
  rw [HXn] at hE
  have HE := Aside0.mk hE
  have HU0 := Aside0.mk HU0
  have HUn := Aside0.mk HUn
  have hX := Aside0.mk (fun j : Nat => (show sliceL l0 l1 (j : Int) = shX l0 l1 j from hX j))
  have HN := Aside0.mk HN
  clear hQ hE HXn hof hwd hpw hp hok hs hs1
  rw [h] at HG
  rw [h2] at HT
  rw [h3] at HD
  rw [h4] at HW
  clear h h2 h3 h4
  go_enter Try.func7, Try.ntmps7
  go_wp2_with (first | (go_at_call 13; (with_reducible refine (inkhornlaw12_great.calls 30 _ c0 l0 _ _ (Kd.C_below HR0.out (by repeat (first | (with_reducible exact HB.out) | apply below_alloc | apply pw_below_drewN | apply below_drew | (refine below_set ?_ (by simp))))) hc0 HG.out).mono ?_); rintro e w' ⟨rfl, hb⟩; have n0_ := Aside0.mk (below_step (by repeat (first | (with_reducible exact HB.out) | apply below_alloc | apply pw_below_drewN | apply below_drew | (refine below_set ?_ (by simp)))) hb); clear HB hb; have HB := n0_; clear n0_) | (go_at_call 30; (with_reducible refine (inkhornlaw0_GreatTexts.calls kT _ c1 l1 _ _ (Kd.C_below HR1.out (by repeat (first | (with_reducible exact HB.out) | apply below_alloc | apply pw_below_drewN | apply below_drew | (refine below_set ?_ (by simp))))) hc1 HT.out).mono ?_); rintro e w' ⟨rfl, ⟨nd, rfl⟩⟩) | (go_at_call 17; (with_reducible refine (part_Good.calls 20 _ c0 l0 _ _ (Kd.C_below HR0.out (by repeat (first | (with_reducible exact HB.out) | apply below_alloc | apply pw_below_drewN | apply below_drew | (refine below_set ?_ (by simp))))) hc0 HD.out).mono ?_); rintro e w' ⟨rfl, hb⟩; have n0_ := Aside0.mk (below_step (by repeat (first | (with_reducible exact HB.out) | apply below_alloc | apply pw_below_drewN | apply below_drew | (refine below_set ?_ (by simp)))) hb); clear HB hb; have HB := n0_; clear n0_) | (go_at_call 31; (with_reducible refine (list_Good.calls kW _ c1 l1 _ _ (Kd.C_below HR1.out (by repeat (first | (with_reducible exact HB.out) | apply below_alloc | apply pw_below_drewN | apply below_drew | (refine below_set ?_ (by simp))))) hc1 HW.out).mono ?_); rintro e w' ⟨rfl, hb⟩; have n0_ := Aside0.mk (below_step (by repeat (first | (with_reducible exact HB.out) | apply below_alloc | apply pw_below_drewN | apply below_drew | (refine below_set ?_ (by simp)))) hb); clear HB hb; have HB := n0_; clear n0_))
  go_loopw [5, 6, 7] (fun v5 v6 v7 w' => ∃ (j b : Nat), j ≤ l0.length + 1 ∧ v7 = .int .i64 j ∧ v6 = .int .i64 ((shU l0 l1 j).length : Int) ∧ Aside0 (Kd.R Kd.string 9 w' b (fun _ => True) v5 (shU l0 l1 j)) ∧ Aside0 (Below w.heap.size w w')) (fun _ _ v7 _ => l0.length + 1 - (intOf v7).toNat)
  case atStart => exact ⟨0, 0, Nat.zero_le _, rfl, by rw [HU0.out]; rfl, ⟨by rw [HU0.out]; exact Kd.R_nil _ _ _ _ _⟩, HB⟩
  case round =>
    clear HB
    obtain ⟨j, b, hj, rfl, rfl, HA, HB⟩ := hrel
    obtain ⟨nX, nU, nS⟩ := HN.out j
    by_cases hlt : j < l0.length + 1
    · have d1 : decide ((j : Int) ≤ (l0.length : Int)) = true := decide_eq_true (by omega)
      obtain ⟨kS, hS⟩ := HS.out (j : Int)
      rw [hX.out j] at hS
      have HS1 := Aside0.mk hS
      clear hS
      obtain ⟨kM, hM⟩ := HM.out j
      have HM1 := Aside0.mk (show list_Merge.f kM (shU l0 l1 j) (shX l0 l1 j) = some (shU l0 l1 (j + 1)) from hM)
      clear hM
      have HO1 := Aside0.mk (HO.out j)
      have HL1 := Aside0.mk (HL.out (j : Int))
      generalize lensP l0 (j : Int) = lh at HO1 HL1
      obtain ⟨lo, hi⟩ := lh
      obtain ⟨A5, c5, e5, hc5, hC5⟩ := Kd.R_reads HA.out
      subst e5
      clear hC5
      obtain ⟨X, hX1⟩ : ∃ X, X = shX l0 l1 j := ⟨_, rfl⟩
      obtain ⟨U, hU1⟩ : ∃ U, U = shU l0 l1 j := ⟨_, rfl⟩
      obtain ⟨U', hU2⟩ : ∃ U', U' = shU l0 l1 (j + 1) := ⟨_, rfl⟩
      rw [← hX1] at HS1 nX nS
      rw [← hU1] at HA nU nS
      rw [← hU2] at nS
      rw [← hX1, ← hU1, ← hU2] at HM1
      rw [← hX1] at HO1
      rw [← hU1]
      have hU2' := Aside0.mk hU2
      clear hX1 hU1 hU2
      go_wp2_with (first | (go_at_call 32; (with_reducible refine (part_Slice.calls kS _ c0 l0 _ c1 l1 _ _ _ (Kd.C_below HR0.out (by repeat (first | (with_reducible exact HB.out) | apply below_alloc | apply pw_below_drewN | apply below_drew | (refine below_set ?_ (by simp))))) hc0 (Kd.C_below HR1.out (by repeat (first | (with_reducible exact HB.out) | apply below_alloc | apply pw_below_drewN | apply below_drew | (refine below_set ?_ (by simp))))) hc1 HS1.out).mono ?_); rintro e w' ⟨v9, rfl, hv, hb⟩; have HV := Aside0.mk hv; obtain ⟨A9, c9, e9, hc9, hC9⟩ := Kd.R_reads hv; subst e9; have HX := Aside0.mk hC9; have n0_ := Aside0.mk (below_step (by repeat (first | (with_reducible exact HB.out) | apply below_alloc | apply pw_below_drewN | apply below_drew | (refine below_set ?_ (by simp)))) hb); have HA2 := Aside0.mk (Kd.R_below HA.out hb); have n1_ := Aside0.mk (Below.refl w'.heap.size w'); clear HB hb hv hC9 HA; have HB := n0_; have HB3 := n1_; clear n0_ n1_) | (go_at_call 33; (with_reducible refine (part_Lens.calls 2 _ c0 l0 _ _ _ _ (Kd.C_below HR0.out (by repeat (first | (with_reducible exact HB.out) | apply below_alloc | apply pw_below_drewN | apply below_drew | (refine below_set ?_ (by simp))))) hc0 HL1.out).mono ?_); rintro e w' ⟨rfl, ⟨nd, rfl⟩⟩))
      go_loopw [11] (fun v11 w3 => ∃ i : Nat, i ≤ X.length ∧ v11 = .int .i64 i ∧ Aside0 (Below w.heap.size w w3) ∧ Aside0 (Below w'.heap.size w' w3)) (fun v11 _ => X.length - (intOf v11).toNat)
      case atStart => exact ⟨0, Nat.zero_le _, rfl, ⟨(by repeat (first | (with_reducible exact HB.out) | apply below_alloc | apply pw_below_drewN | apply below_drew | (refine below_set ?_ (by simp))))⟩, ⟨(by repeat (first | (with_reducible exact HB3.out) | apply below_alloc | apply pw_below_drewN | apply below_drew | (refine below_set ?_ (by simp))))⟩⟩
      case round =>
        clear HB HB3
        obtain ⟨i, hi1, rfl, HB, HB3⟩ := hrel
        by_cases hil : i < X.length
        · obtain ⟨hO1, n, hO2, hO3, hO4⟩ := HO1.out (rdOf ByteArray.empty X (i : Int)) (by simp only [rdOf, Int.toNat_natCast, List.getD_eq_getElem?_getD, List.getElem?_eq_getElem hil, Option.getD_some]; exact List.getElem_mem _)
          have HX1 : Aside0 (∃ ad, A9 = some ad ∧ ∀ W, Below w'.heap.size w' W → W.cell? (ad.add i) = some (.string (rdOf ByteArray.empty X (i : Int)))) := by
            obtain ⟨ad, e1, _⟩ := Kd.at_string HX.out (i : Int) (by omega) (by omega)
            refine ⟨ad, e1, fun W hb => ?_⟩
            obtain ⟨ad2, e2, h2⟩ := Kd.at_string (Kd.C_below HX.out hb) (i : Int) (by omega) (by omega)
            rw [e1] at e2
            cases e2
            simpa using h2
          obtain ⟨ad, e1, HX2⟩ := HX1.out
          subst e1
          have HX2 := Aside0.mk HX2
          clear HX1
          generalize rdOf ByteArray.empty X (i : Int) = x at hO1 hO2 HX2
          have HO1a := Aside0.mk hO1
          have HO2a := Aside0.mk hO2
          clear hO1 hO2
          have hx := HX2.out _ HB3.out
          go_wp2_with (first | (go_at_call 24; (with_reducible refine (part_Of.calls _ c0 l0 x _ _ (Kd.C_below HR0.out (by repeat (first | (with_reducible exact HB.out) | apply below_alloc | apply pw_below_drewN | apply below_drew | (refine below_set ?_ (by simp))))) hc0 HO1a.out).mono ?_); rintro e w' ⟨rfl, hb⟩; have n0_ := Aside0.mk (below_step (by repeat (first | (with_reducible exact HB.out) | apply below_alloc | apply pw_below_drewN | apply below_drew | (refine below_set ?_ (by simp)))) hb); have n1_ := Aside0.mk (below_step (by repeat (first | (with_reducible exact HB3.out) | apply below_alloc | apply pw_below_drewN | apply below_drew | (refine below_set ?_ (by simp)))) hb); clear HB HB3 hb hx; have HB := n0_; have HB3 := n1_; clear n0_ n1_; have hx := HX2.out _ HB3.out) | (go_at_call 23; (with_reducible refine (text_Len.calls x _ _ HO2a.out).mono ?_); rintro e w' ⟨rfl, hb⟩; have n0_ := Aside0.mk (below_step (by repeat (first | (with_reducible exact HB.out) | apply below_alloc | apply pw_below_drewN | apply below_drew | (refine below_set ?_ (by simp)))) hb); have n1_ := Aside0.mk (below_step (by repeat (first | (with_reducible exact HB3.out) | apply below_alloc | apply pw_below_drewN | apply below_drew | (refine below_set ?_ (by simp)))) hb); clear HB HB3 hb hx; have HB := n0_; have HB3 := n1_; clear n0_ n1_; have hx := HX2.out _ HB3.out))
          go_roundw
          case rel => exact ⟨i + 1, by omega, by go_num, HB, HB3⟩
          case measure => simp [intOf]; omega
        · have e : i = X.length := by omega
          subst e
          have HV1 := Aside0.mk (fun (W : World) (hb : Below w'.heap.size w' W) => Kd.R_V (base' := W.heap.size) (Kd.R_below HV.out hb))
          have HV2 := Aside0.mk (fun (W : World) (hb : Below w'.heap.size w' W) => Kd.R_V (base' := W.heap.size) (Kd.R_below HA2.out hb))
          have hw1 := Aside0.mk (show (U.length : Int) + (X.length : Int) = (U'.length : Int) from by omega)
          have hi2 : decide ((X.length : Int) < (X.length : Int)) = false := decide_eq_false (by omega)
          go_wp2_with ((go_at_call 34; (with_reducible refine (list_Merge.calls kM (fun _ => True) A5 c5 U (fun _ => True) A9 c9 X _ _ (HV2.out _ (by repeat (first | (with_reducible exact HB3.out) | apply below_alloc | apply pw_below_drewN | apply below_drew | (refine below_set ?_ (by simp))))) (HV1.out _ (by repeat (first | (with_reducible exact HB3.out) | apply below_alloc | apply pw_below_drewN | apply below_drew | (refine below_set ?_ (by simp))))) HM1.out).mono ?_); rintro e w' ⟨v10, rfl, hv, hb⟩; have n0_ := Aside0.mk (below_step (by repeat (first | (with_reducible exact HB.out) | apply below_alloc | apply pw_below_drewN | apply below_drew | (refine below_set ?_ (by simp)))) hb); have HR5 := Aside0.mk (Kd.R_mono hv (fun _ _ => trivial)); clear HB hb hv; have HB := n0_; clear n0_))
          go_roundw
          case rel => exact ⟨j + 1, _, by omega, by go_num, by rw [← hU2'.out]; exact congrArg (Value.int .i64) hw1.out, ⟨by rw [← hU2'.out]; exact HR5.out⟩, HB⟩
          case measure => simp [intOf]; omega
    · have e : j = l0.length + 1 := by omega
      subst e
      have d1 : decide (((l0.length + 1 : Nat) : Int) ≤ (l0.length : Int)) = false := decide_eq_false (by omega)
      obtain ⟨A5, c5, e5, hc5, hC5⟩ := Kd.R_reads HA.out
      rw [HUn.out] at e5 hC5 hc5
      rw [HUn.out]
      subst e5
      have HC5 := Aside0.mk hC5
      obtain ⟨wr0, hwr⟩ : ∃ W, W = wr := ⟨_, rfl⟩
      have HB3 := Aside0.mk (Below.refl wr.heap.size wr)
      clear hC5 HA
      go_wp2_with (first | (go_at_call 35; (with_reducible refine (inkhornlaw0_SameTexts.calls kQ A5 c5 l1 _ c1 l1 _ _ (Kd.C_below HC5.out (by repeat (first | (with_reducible exact HB3.out) | apply below_alloc | apply pw_below_drewN | apply below_drew | (refine below_set ?_ (by simp))))) hc5 (Kd.C_below HR1.out (by repeat (first | (with_reducible exact HB.out) | apply below_alloc | apply pw_below_drewN | apply below_drew | (refine below_set ?_ (by simp))))) hc1 HQ.out).mono ?_); rintro e w' ⟨rfl, ⟨nd, rfl⟩⟩) | (go_at_call 32; (with_reducible refine (part_Slice.calls kE _ c0 l0 _ c1 l1 _ _ _ (Kd.C_below HR0.out (by repeat (first | (with_reducible exact HB.out) | apply below_alloc | apply pw_below_drewN | apply below_drew | (refine below_set ?_ (by simp))))) hc0 (Kd.C_below HR1.out (by repeat (first | (with_reducible exact HB.out) | apply below_alloc | apply pw_below_drewN | apply below_drew | (refine below_set ?_ (by simp))))) hc1 HE.out).mono ?_); rintro e w' ⟨v9, rfl, hv, hb⟩; obtain ⟨A9, c9, e9, hc9, hC9⟩ := Kd.R_reads hv; subst e9; have n0_ := Aside0.mk (below_step (by repeat (first | (with_reducible exact HB.out) | apply below_alloc | apply pw_below_drewN | apply below_drew | (refine below_set ?_ (by simp)))) hb); have n1_ := Aside0.mk (below_step (by repeat (first | (with_reducible exact HB3.out) | apply below_alloc | apply pw_below_drewN | apply below_drew | (refine below_set ?_ (by simp)))) hb); clear HB HB3 hb hv hC9; have HB := n0_; have HB3 := n1_; clear n0_ n1_) | (go_at_call 14; (with_reducible refine (inkhornlaw12_awake.calls true _ rfl).mono ?_); rintro e w' ⟨rfl, hb⟩; have n0_ := Aside0.mk (below_step (by repeat (first | (with_reducible exact HB.out) | apply below_alloc | apply pw_below_drewN | apply below_drew | (refine below_set ?_ (by simp)))) hb); have n1_ := Aside0.mk (below_step (by repeat (first | (with_reducible exact HB3.out) | apply below_alloc | apply pw_below_drewN | apply below_drew | (refine below_set ?_ (by simp)))) hb); clear HB HB3 hb; have HB := n0_; have HB3 := n1_; clear n0_ n1_))
      go_ret
      exact ⟨rfl, HB.out⟩
end Go.Proofs.Ytiobphijbpdolaa.P
