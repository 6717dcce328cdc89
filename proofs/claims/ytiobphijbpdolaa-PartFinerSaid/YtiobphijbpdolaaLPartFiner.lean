/- inkhornlaw12.PartFiner returns true, whatever the cuts, the number and the text; nothing is asked but sizes within the form's reach. -/
import Derived.Test.YtiobphijbpdolaaQ12
import Derived.Test.YtiobphijbpdolaaHAwkP
import Derived.Test.YtiobphijbpdolaaKinds
import Derived.Deep.RegionLaw
import Derived.Deep.RegionWith
import Derived.IntWalk
namespace Go.Proofs.Ytiobphijbpdolaa.P
open Go.RowKit Go.Proofs.YtiobphijbpdolaaW.PrintWords Go.Proofs.YtiobphijbpdolaaW.PrintLast Go.Proofs.YtiobphijbpdolaaW.PrintMore
set_option linter.unusedVariables false
set_option linter.unusedSimpArgs false

theorem rising_pairwise : ∀ l : List S24, rising l = true ↔ l.Pairwise (fun a b => keyLt a b = true)
  | [] => by simp [rising]
  | [a] => by simp [rising]
  | a :: b :: l => by
    have ih := rising_pairwise (b :: l)
    rw [rising, Bool.and_eq_true, ih, List.pairwise_cons (a := a)]
    constructor
    · rintro ⟨h1, h2⟩
      refine ⟨?_, h2⟩
      intro c hc
      rcases List.mem_cons.1 hc with rfl | hc
      · exact h1
      · exact keyLt_trans h1 ((List.pairwise_cons.1 h2).1 c hc)
    · rintro ⟨h1, h2⟩
      exact ⟨h1 b (by simp), h2⟩
theorem of_is (l : List S24) (s : ByteArray) (hs : s.size ≤ 140737488355328) (hl : l.length ≤ 140737488355328) : part_Of.f l s = some (if isWord s then shardOf l (keyOf s) else -1) := by
  unfold part_Of.f
  rw [if_pos hs, if_pos hl]
theorem less_sub (l : List S24) (k : Nat) : (l.take k ++ l.drop (k + 1)).Sublist l := by
  rw [← List.eraseIdx_eq_take_drop_succ]
  exact List.eraseIdx_sublist l k
theorem less_good (l : List S24) (k : Nat) (h : goodCuts l = 0) : goodCuts (l.take k ++ l.drop (k + 1)) = 0 := by
  have hs := less_sub l k
  have hl := hs.length_le
  unfold goodCuts at h ⊢
  by_cases h5 : 5 < l.length
  · rw [if_pos h5] at h; cases h
  · rw [if_neg h5] at h
    rw [if_neg (by omega)]
    by_cases ha : l.all keyOk = true
    · rw [if_pos ha] at h
      have ha2 : (l.take k ++ l.drop (k + 1)).all keyOk = true := by
        rw [List.all_eq_true] at ha ⊢
        exact fun x hx => ha x (hs.subset hx)
      rw [if_pos ha2]
      by_cases hr : rising l = true
      · rw [if_pos ((rising_pairwise _).2 (((rising_pairwise l).1 hr).sublist hs))]
      · rw [if_neg hr] at h; cases h
    · rw [if_neg ha] at h; cases h
theorem less_shard (l : List S24) (k : Nat) (hk : k < l.length) (x : S24) : shardOf (l.take k ++ l.drop (k + 1)) x = if keyLt x (l.getD k z24) = true then shardOf l x else shardOf l x - 1 := by
  have e : l = l.take k ++ l.getD k z24 :: l.drop (k + 1) := by
    have : l.getD k z24 = l[k] := by simp [hk]
    rw [this, ← List.drop_eq_getElem_cons hk, List.take_append_drop]
  have h2 : shardOf l x = shardOf (l.take k ++ l.getD k z24 :: l.drop (k + 1)) x := by rw [← e]
  rw [h2]
  unfold shardOf
  simp only [List.filter_append, List.length_append, List.filter_cons]
  cases keyLt x (l.getD k z24) with
  | true => simp
  | false => simp; omega

theorem keyKM (W : World) (W2 : World) (base : Nat) (ok : Nat → Prop) : ∀ (x : S24) (cs : List Value), k24.K W x cs → k24.M W2 base ok x cs := by
  intro x cs h
  rw [k24_open h]
  exact k24_mkM _ _ _ _

set_option maxHeartbeats 2000000 in
set_option maxRecDepth 100000 in
theorem PartFiner_walk (A0 : Option Addr) (c0 : Nat) (l0 : List S24) (a1 : Int) (a2 : ByteArray) (w : World) (hr0 : Kd.C k24 w A0 l0.length l0) (hc0 : l0.length ≤ c0) (f0 : F22 l0) (f1 : (Lit.int .i64 a1).wf = true) (f2 : a2.size ≤ 140737488351232) :
    Calls Try.prog 5 #[.slice A0 l0.length c0, .int .i64 a1, .string a2] w fun e w' => e = .returned (.bool true) ∧ Below w.heap.size w w' := by
  have hs : ∀ c ∈ l0, c.f1.size ≤ 140737488355328 := fun c hc => by have := (f0.2 c hc).2; unfold F9 at this; omega
  have hl : l0.length ≤ 140737488355328 := by have := f0.1; omega
  have HD := Aside0.mk (good_is l0 hs)
  have HW := Aside0.mk (text_Word_is a2 (by omega))
  have HL := Aside0.mk (show text_Len.f a2 = some (lenOf (runesOf a2)) from if_pos (by omega))
  have HR := Aside0.mk hr0
  clear hr0
  have hu24 := Try.underlying24
  have HB := Aside0.mk (Below.refl w.heap.size w)
  by_cases h0 : l0.length = 0
  · have h0' : ((l0.length : Int) == 0) = true := by simp [h0]
    go_enter Try.func5, Try.ntmps5
    go_wp2_with (first | (go_at_call 17; (with_reducible refine (part_Good.calls 20 _ c0 l0 _ _ (Kd.C_below HR.out (by repeat (first | (with_reducible exact HB.out) | apply below_alloc | apply pw_below_drewN | apply below_drew | (refine below_set ?_ (by simp))))) hc0 HD.out).mono ?_); rintro e w' ⟨rfl, hb⟩; have n0_ := Aside0.mk (below_step (by repeat (first | (with_reducible exact HB.out) | apply below_alloc | apply pw_below_drewN | apply below_drew | (refine below_set ?_ (by simp)))) hb); clear HB hb; have HB := n0_; clear n0_) | (go_at_call 22; (with_reducible refine (text_Word.calls a2 _ _ HW.out).mono ?_); rintro e w' ⟨rfl, hb⟩; have n0_ := Aside0.mk (below_step (by repeat (first | (with_reducible exact HB.out) | apply below_alloc | apply pw_below_drewN | apply below_drew | (refine below_set ?_ (by simp)))) hb); clear HB hb; have HB := n0_; clear n0_) | (go_at_call 14; (with_reducible refine (inkhornlaw12_awake.calls true _ rfl).mono ?_); rintro e w' ⟨rfl, hb⟩; have n0_ := Aside0.mk (below_step (by repeat (first | (with_reducible exact HB.out) | apply below_alloc | apply pw_below_drewN | apply below_drew | (refine below_set ?_ (by simp)))) hb); clear HB hb; have HB := n0_; clear n0_))
    go_ret
    exact ⟨rfl, HB.out⟩
  have h0' : ((l0.length : Int) == 0) = false := by simp [h0]
  by_cases hd : goodCuts l0 = 0
  case neg =>
    have hd0 : (goodCuts l0 == 0) = false := by simpa using hd
    have hd1 : (goodCuts l0 != 0) = true := by simpa using hd
    clear hd
    generalize goodCuts l0 = d at HD hd0 hd1
    go_enter Try.func5, Try.ntmps5
    go_wp2_with (first | (go_at_call 17; (with_reducible refine (part_Good.calls 20 _ c0 l0 _ _ (Kd.C_below HR.out (by repeat (first | (with_reducible exact HB.out) | apply below_alloc | apply pw_below_drewN | apply below_drew | (refine below_set ?_ (by simp))))) hc0 HD.out).mono ?_); rintro e w' ⟨rfl, hb⟩; have n0_ := Aside0.mk (below_step (by repeat (first | (with_reducible exact HB.out) | apply below_alloc | apply pw_below_drewN | apply below_drew | (refine below_set ?_ (by simp)))) hb); clear HB hb; have HB := n0_; clear n0_) | (go_at_call 22; (with_reducible refine (text_Word.calls a2 _ _ HW.out).mono ?_); rintro e w' ⟨rfl, hb⟩; have n0_ := Aside0.mk (below_step (by repeat (first | (with_reducible exact HB.out) | apply below_alloc | apply pw_below_drewN | apply below_drew | (refine below_set ?_ (by simp)))) hb); clear HB hb; have HB := n0_; clear n0_) | (go_at_call 14; (with_reducible refine (inkhornlaw12_awake.calls true _ rfl).mono ?_); rintro e w' ⟨rfl, hb⟩; have n0_ := Aside0.mk (below_step (by repeat (first | (with_reducible exact HB.out) | apply below_alloc | apply pw_below_drewN | apply below_drew | (refine below_set ?_ (by simp)))) hb); clear HB hb; have HB := n0_; clear n0_))
    go_ret
    exact ⟨rfl, HB.out⟩
  by_cases h1 : (100 : Int) < (a2.size : Int)
  · have HG1 := Lib.hid hd
    rw [hd] at HD
    clear hd
    go_enter Try.func5, Try.ntmps5
    go_wp2_with (first | (go_at_call 17; (with_reducible refine (part_Good.calls 20 _ c0 l0 _ _ (Kd.C_below HR.out (by repeat (first | (with_reducible exact HB.out) | apply below_alloc | apply pw_below_drewN | apply below_drew | (refine below_set ?_ (by simp))))) hc0 HD.out).mono ?_); rintro e w' ⟨rfl, hb⟩; have n0_ := Aside0.mk (below_step (by repeat (first | (with_reducible exact HB.out) | apply below_alloc | apply pw_below_drewN | apply below_drew | (refine below_set ?_ (by simp)))) hb); clear HB hb; have HB := n0_; clear n0_) | (go_at_call 22; (with_reducible refine (text_Word.calls a2 _ _ HW.out).mono ?_); rintro e w' ⟨rfl, hb⟩; have n0_ := Aside0.mk (below_step (by repeat (first | (with_reducible exact HB.out) | apply below_alloc | apply pw_below_drewN | apply below_drew | (refine below_set ?_ (by simp)))) hb); clear HB hb; have HB := n0_; clear n0_) | (go_at_call 14; (with_reducible refine (inkhornlaw12_awake.calls true _ rfl).mono ?_); rintro e w' ⟨rfl, hb⟩; have n0_ := Aside0.mk (below_step (by repeat (first | (with_reducible exact HB.out) | apply below_alloc | apply pw_below_drewN | apply below_drew | (refine below_set ?_ (by simp)))) hb); clear HB hb; have HB := n0_; clear n0_))
    go_ret
    exact ⟨rfl, HB.out⟩
  cases hw : isWord a2 with
  | false =>
    rw [hd] at HD
    rw [hw] at HW
    clear hw hd
    go_enter Try.func5, Try.ntmps5
    go_wp2_with (first | (go_at_call 17; (with_reducible refine (part_Good.calls 20 _ c0 l0 _ _ (Kd.C_below HR.out (by repeat (first | (with_reducible exact HB.out) | apply below_alloc | apply pw_below_drewN | apply below_drew | (refine below_set ?_ (by simp))))) hc0 HD.out).mono ?_); rintro e w' ⟨rfl, hb⟩; have n0_ := Aside0.mk (below_step (by repeat (first | (with_reducible exact HB.out) | apply below_alloc | apply pw_below_drewN | apply below_drew | (refine below_set ?_ (by simp)))) hb); clear HB hb; have HB := n0_; clear n0_) | (go_at_call 22; (with_reducible refine (text_Word.calls a2 _ _ HW.out).mono ?_); rintro e w' ⟨rfl, hb⟩; have n0_ := Aside0.mk (below_step (by repeat (first | (with_reducible exact HB.out) | apply below_alloc | apply pw_below_drewN | apply below_drew | (refine below_set ?_ (by simp)))) hb); clear HB hb; have HB := n0_; clear n0_) | (go_at_call 14; (with_reducible refine (inkhornlaw12_awake.calls true _ rfl).mono ?_); rintro e w' ⟨rfl, hb⟩; have n0_ := Aside0.mk (below_step (by repeat (first | (with_reducible exact HB.out) | apply below_alloc | apply pw_below_drewN | apply below_drew | (refine below_set ?_ (by simp)))) hb); clear HB hb; have HB := n0_; clear n0_))
    go_ret
    exact ⟨rfl, HB.out⟩
  | true =>
  have hl5 : l0.length ≤ 5 := by
    unfold goodCuts at hd
    by_cases h5 : 5 < l0.length
    · rw [if_pos h5] at hd; cases hd
    · omega
  have HG0 := fun k => Aside0.mk (less_good l0 k hd)
  rw [hd] at HD
  rw [hw] at HW
  clear hd
  obtain ⟨k, hk, hkl⟩ : ∃ k : Nat, wrap64 ((IntKind.u64.wrap a1).tmod (l0.length : Int)) = (k : Int) ∧ k < l0.length := by
    have hu : 0 ≤ IntKind.u64.wrap a1 ∧ IntKind.u64.wrap a1 ≤ 18446744073709551615 := by
      have : IntKind.u64.wrap a1 = a1 % 18446744073709551616 := rfl
      omega
    refine ⟨(IntKind.u64.wrap a1 % (l0.length : Int)).toNat, ?_, ?_⟩
    · rw [Int.tmod_eq_emod_of_nonneg hu.1]
      have h3 := Int.emod_lt_of_pos (IntKind.u64.wrap a1) (show (0 : Int) < l0.length by omega)
      have h4 := Int.emod_nonneg (IntKind.u64.wrap a1) (show (l0.length : Int) ≠ 0 by omega)
      rw [wrap_small (by omega) (by omega)]
      omega
    · have h3 := Int.emod_lt_of_pos (IntKind.u64.wrap a1) (show (0 : Int) < l0.length by omega)
      have h4 := Int.emod_nonneg (IntKind.u64.wrap a1) (show (l0.length : Int) ≠ 0 by omega)
      omega
  have HK := Aside0.mk hk
  clear hk
  obtain ⟨ad, e1, _, _⟩ := at_T24 HR.out (k : Int) (by omega) (by omega)
  subst e1
  obtain ⟨y, hy⟩ : ∃ y, y = l0.getD k z24 := ⟨_, rfl⟩
  have HX : ∀ W, Below w.heap.size w W → W.cell? (ad.add (k * 2)) = some (.int .i64 y.f0) ∧ W.cell? ⟨(ad.add (k * 2)).block, (ad.add (k * 2)).off + 1, none⟩ = some (.string y.f1) := fun W hb => by
    obtain ⟨ad2, e2, h1, h2⟩ := at_T24 (Kd.C_below HR.out hb) (k : Int) (by omega) (by omega)
    cases e2
    have hrd : rd_T24 l0 (k : Int) = y := by rw [hy]; simp [rd_T24]
    rw [hrd] at h1 h2
    simpa using And.intro h1 h2
  have HX := Aside0.mk HX
  have HS := Aside0.mk (less_shard l0 k hkl (keyOf a2))
  rw [← hy] at HS
  clear hy
  have HO1' := Aside0.mk (of_is l0 a2 (by omega) hl)
  have HO2' := Aside0.mk (of_is (l0.take k ++ l0.drop (k + 1)) a2 (by omega) (by simp; omega))
  have HLS := Aside0.mk (part_Less_is (keyOf a2) y)
  have hsl : ∀ c ∈ l0.take k ++ l0.drop (k + 1), c.f1.size ≤ 140737488355328 := fun c hc => hs c ((less_sub l0 k).subset hc)
  have HD2 := Aside0.mk (good_is _ hsl)
  clear hsl
  obtain ⟨i0, hi0, hz0, hz1, hz2⟩ := info_parts info24
  have hc1 := cut_to (P := Try.prog) 22 24 .i64 Try.underlying22 hi0 (some ad) l0.length c0 (k : Int) (by omega) (by omega) hc0
  have hc2 := cut_from (P := Try.prog) 22 24 .i64 Try.underlying22 hi0 2 hz1 (some ad) l0.length c0 ((k : Int) + 1) (by omega) (by omega)
  simp only [Int.toNat_natCast, show ((k : Int) + 1).toNat = k + 1 from by omega] at hc1 hc2
  clear hz0 hz1 hz2
  obtain ⟨A2, hA2⟩ : ∃ A2, A2 = (if c0 = k + 1 then (some ad) else (some ad : Option Addr).map (·.add ((k + 1) * 2))) := ⟨_, rfl⟩
  obtain ⟨n2, hn2⟩ : ∃ n2, n2 = l0.length - (k + 1) := ⟨_, rfl⟩
  obtain ⟨c2, hc2'⟩ : ∃ c2, c2 = c0 - (k + 1) := ⟨_, rfl⟩
  rw [← hA2, ← hn2, ← hc2'] at hc2
  have HA := Aside0.mk hA2
  have HN := Aside0.mk hn2
  clear hA2 hn2 hc2'
  have HM := HG0 k
  clear HG0
  have hwk : IntKind.i64.wrap ((k : Int) + 1) = (k : Int) + 1 := IntWalk.i64_in _ (by omega)
  have HR1 : ∀ W, Below w.heap.size w W → Kd.C k24 W (some ad) k (l0.take k) := fun W hb => by
    have h := Kd.C_take (Kd.C_below HR.out hb) (m := k) (by omega)
    rwa [List.length_take, Nat.min_eq_left (by omega)] at h
  have HR2 : ∀ W, Below w.heap.size w W → Kd.C k24 W A2 n2 (l0.drop (k + 1)) := fun W hb => by
    have h := Kd.C_drop (Kd.C_below HR.out hb) (m := k + 1) (c := c0) (by omega) hc0
    rw [List.length_drop] at h
    rw [HA.out, HN.out]
    exact h
  have HR1 := Aside0.mk HR1
  have HR2 := Aside0.mk HR2
  have hn2l := HN.out
  have hn2' : n2 ≤ 140737488355 := by omega
  clear hn2l
  go_enter Try.func5, Try.ntmps5
  go_wp2_with (first | (go_at_call 17; (with_reducible refine (part_Good.calls 20 _ c0 l0 _ _ (Kd.C_below HR.out (by repeat (first | (with_reducible exact HB.out) | apply below_alloc | apply pw_below_drewN | apply below_drew | (refine below_set ?_ (by simp))))) hc0 HD.out).mono ?_); rintro e w' ⟨rfl, hb⟩; have n0_ := Aside0.mk (below_step (by repeat (first | (with_reducible exact HB.out) | apply below_alloc | apply pw_below_drewN | apply below_drew | (refine below_set ?_ (by simp)))) hb); clear HB hb; have HB := n0_; clear n0_) | (go_at_call 22; (with_reducible refine (text_Word.calls a2 _ _ HW.out).mono ?_); rintro e w' ⟨rfl, hb⟩; have n0_ := Aside0.mk (below_step (by repeat (first | (with_reducible exact HB.out) | apply below_alloc | apply pw_below_drewN | apply below_drew | (refine below_set ?_ (by simp)))) hb); clear HB hb; have HB := n0_; clear n0_))
  rw [HK.out]
  refine start_ (n := 10) (S := fun w' => True) (ds := []) #[false, false, false, false, false, false, false, false, false, false] (by kernel_rfl) rfl rfl trivial (fun hHeld => ?_)
  refine pure_ (i := 0) (N := some 36) (v := ?_) (a' := ?_) #[true, false, false, false, false, false, false, false, false, false] rfl rfl (by kernel_rfl) (fun _ _ _ h => h) (Or.inl ⟨by rfl, ?_⟩) ?_ ?_
  rotate_left
  · intro w'
    go_simp
    with_reducible rfl
  rotate_left
  · simp only [Act.put, List.setIfInBounds_toArray, List.set_cons_zero, List.set_cons_succ, i64_w, i32_w]
    rfl
  refine pure_ (i := 1) (N := some 37) (v := ?_) (a' := ?_) #[true, true, false, false, false, false, false, false, false, false] rfl rfl (by kernel_rfl) (fun _ _ _ h => h) (Or.inl ⟨by rfl, ?_⟩) ?_ ?_
  rotate_left
  · intro w'
    go_simp
    with_reducible rfl
  rotate_left
  · simp only [Act.put, List.setIfInBounds_toArray, List.set_cons_zero, List.set_cons_succ, i64_w, i32_w]
    rfl
  refine pure_ (i := 2) (N := some 38) (v := ?_) (a' := ?_) #[true, true, true, false, false, false, false, false, false, false] rfl rfl (by kernel_rfl) (fun _ _ _ h => h) (Or.inl ⟨by rfl, ?_⟩) ?_ ?_
  rotate_left
  · intro w'
    go_simp
    with_reducible rfl
  rotate_left
  · simp only [Act.put, List.setIfInBounds_toArray, List.set_cons_zero, List.set_cons_succ, i64_w, i32_w]
    rfl
  refine pure_ (i := 4) (N := some 40) (v := ?_) (a' := ?_) #[true, true, true, false, true, false, false, false, false, false] rfl rfl (by kernel_rfl) (fun _ _ _ h => h) (Or.inl ⟨by rfl, ?_⟩) ?_ ?_
  rotate_left
  · intro w'
    go_simp
    with_reducible rfl
  rotate_left
  · simp only [Act.put, List.setIfInBounds_toArray, List.set_cons_zero, List.set_cons_succ, i64_w, i32_w]
    rfl
  refine pure_ (i := 5) (N := some 41) (v := ?_) (a' := ?_) #[true, true, true, false, true, true, false, false, false, false] rfl rfl (by kernel_rfl) (fun _ _ _ h => h) (Or.inl ⟨by rfl, ?_⟩) ?_ ?_
  rotate_left
  · intro w'
    go_simp
    with_reducible rfl
  rotate_left
  · simp only [Act.put, List.setIfInBounds_toArray, List.set_cons_zero, List.set_cons_succ, i64_w, i32_w]
    rfl
  refine pure_ (i := 6) (N := some 42) (v := ?_) (a' := ?_) #[true, true, true, false, true, true, true, false, false, false] rfl rfl (by kernel_rfl) (fun _ _ _ h => h) (Or.inl ⟨by rfl, ?_⟩) ?_ ?_
  rotate_left
  · intro w'
    go_simp
    with_reducible rfl
  rotate_left
  · simp only [Act.put, List.setIfInBounds_toArray, List.set_cons_zero, List.set_cons_succ, i64_w, i32_w]
    rfl
  refine pure_ (i := 7) (N := some 43) (v := ?_) (a' := ?_) #[true, true, true, false, true, true, true, true, false, false] rfl rfl (by kernel_rfl) (fun _ _ _ h => h) (Or.inl ⟨by rfl, ?_⟩) ?_ ?_
  rotate_left
  · intro w'
    go_simp
    with_reducible rfl
  rotate_left
  · simp only [Act.put, List.setIfInBounds_toArray, List.set_cons_zero, List.set_cons_succ, i64_w, i32_w]
    rfl
  refine one_ (i := 3) (N := some 39) #[true, true, true, true, true, true, true, true, false, false] rfl rfl (by kernel_rfl) (by decide) (fun K hK => ?_)
  refine Kd.R_append_rows_step k24 (w0 := w) w.heap.size (by rfl) (.const (.slice none 0 0)) (.tmp 38) 22 24 (.agg #[(.int .i64 0), (.string ⟨#[]⟩)]) 24 rfl Try.underlying22 info24 rfl (by decide) (by omega) (.slice none 0 0) [] (l0.take k) (some ad) k c0 (fun _ => True) (fun _ => False) rfl rfl (Kd.R_nil _ _ _ _ _) (by exact HR1.out _ (by repeat (first | (with_reducible exact HB.out) | apply below_alloc | apply pw_below_drewN | apply below_drew | (refine below_set ?_ (by simp))))) (keyKM _ _ _ _) (fun _ hk => hk.elim) (fun _ _ => trivial) (by repeat (first | (with_reducible exact HB.out) | apply below_alloc | apply pw_below_drewN | apply below_drew | (refine below_set ?_ (by simp)))) (by exact below_size (by repeat (first | (with_reducible exact HB.out) | apply below_alloc | apply pw_below_drewN | apply below_drew | (refine below_set ?_ (by simp))))) (by simp; omega) ?_
  intro v1 w1 ho hb hg hat
  have n0_ := Aside0.mk hb
  have HO1 := Aside0.mk ho
  clear HB hb ho hg hat
  have HB := n0_
  clear n0_
  refine hK.out _ _ trivial (fun hHeld => ?_)
  clear hK K
  refine norm_ (a' := ?_) ?_ ?_
  rotate_left
  · show Act.put _ (some 39) _ = _
    simp only [Act.put, List.setIfInBounds_toArray, List.set_cons_zero, List.set_cons_succ, i64_w, i32_w]
    rfl
  refine one_ (i := 8) (N := some 44) #[true, true, true, true, true, true, true, true, true, false] rfl rfl (by kernel_rfl) (by decide) (fun K hK => ?_)
  refine Kd.R_append_rows_step k24 (w0 := w) w.heap.size (by rfl) (.tmp 39) (.tmp 43) 22 24 (.agg #[(.int .i64 0), (.string ⟨#[]⟩)]) 24 rfl Try.underlying22 info24 rfl (by decide) (by omega) _ ([] ++ l0.take k) (l0.drop (k + 1)) A2 n2 c2 (fun _ => True) (fun _ => False) rfl rfl HO1.out (by exact HR2.out _ (by repeat (first | (with_reducible exact HB.out) | apply below_alloc | apply pw_below_drewN | apply below_drew | (refine below_set ?_ (by simp))))) (keyKM _ _ _ _) (fun _ hk => hk.elim) (fun _ _ => trivial) (by repeat (first | (with_reducible exact HB.out) | apply below_alloc | apply pw_below_drewN | apply below_drew | (refine below_set ?_ (by simp)))) (by exact below_size (by repeat (first | (with_reducible exact HB.out) | apply below_alloc | apply pw_below_drewN | apply below_drew | (refine below_set ?_ (by simp))))) (by simp; omega) ?_
  intro v2 w2 ho hb hg hat
  have n0_ := Aside0.mk hb
  have HO2 := Aside0.mk ho
  clear HB hb ho hg hat
  have HB := n0_
  clear n0_
  refine hK.out _ _ trivial (fun hHeld => ?_)
  clear hK K
  refine norm_ (a' := ?_) ?_ ?_
  rotate_left
  · show Act.put _ (some 44) _ = _
    simp only [Act.put, List.setIfInBounds_toArray, List.set_cons_zero, List.set_cons_succ, i64_w, i32_w]
    rfl
  refine pure_ (i := 9) (N := some 8) (v := ?_) (a' := ?_) #[true, true, true, true, true, true, true, true, true, true] rfl rfl (by kernel_rfl) (fun _ _ _ h => h) (Or.inl ⟨by rfl, ?_⟩) ?_ ?_
  rotate_left
  · intro w'
    go_simp
    with_reducible rfl
  rotate_left
  · simp only [Act.put, List.setIfInBounds_toArray, List.set_cons_zero, List.set_cons_succ, i64_w, i32_w]
    rfl
  refine done_ (by kernel_rfl) ?_
  have HO2 := Aside0.mk (show Kd.R k24 24 w2 w.heap.size (fun _ => True) v2 (l0.take k ++ l0.drop (k + 1)) from HO2.out)
  clear HO1
  obtain ⟨A3, c3, e3, hc3, hC3⟩ := Kd.R_reads HO2.out
  subst e3
  have HR3 := Aside0.mk hC3
  clear hC3 HO2 HR1 HR2 hc1 hc2
  rw [HM.out] at HD2
  rw [hw] at HO1' HO2'
  simp only [if_true] at HO1' HO2'
  rw [HS.out] at HO2'
  have r1 := shard_range l0 (keyOf a2)
  have HLS2 : Aside0 (part_Less.f 3 (lenOf (runesOf a2)) a2 y.f0 y.f1 = some (keyLt (keyOf a2) y)) := HLS
  clear HS HLS hw
  generalize shardOf l0 (keyOf a2) = s at HO1' HO2' r1
  generalize keyLt (keyOf a2) y = kk at HLS2 HO2'
  generalize l0.take k ++ l0.drop (k + 1) = l3 at *
  obtain ⟨r1a, r1b⟩ := r1
  have r1c : s ≤ 5 := by omega
  clear hs hl h0 hl5 r1b
  have HB3 := Aside0.mk (Below.refl w2.heap.size w2)
  cases kk
  all_goals
    simp only [if_true, Bool.false_eq_true, if_false] at HO2'
    go_wp2_with (first | (go_at_call 24; (with_reducible refine (part_Of.calls _ c0 l0 a2 _ _ (Kd.C_below HR.out (by repeat (first | (with_reducible exact HB.out) | apply below_alloc | apply pw_below_drewN | apply below_drew | (refine below_set ?_ (by simp))))) hc0 HO1'.out).mono ?_); rintro e w' ⟨rfl, hb⟩; have n0_ := Aside0.mk (below_step (by repeat (first | (with_reducible exact HB.out) | apply below_alloc | apply pw_below_drewN | apply below_drew | (refine below_set ?_ (by simp)))) hb); have n1_ := Aside0.mk (below_step (by repeat (first | (with_reducible exact HB3.out) | apply below_alloc | apply pw_below_drewN | apply below_drew | (refine below_set ?_ (by simp)))) hb); clear HB HB3 hb; have HB := n0_; have HB3 := n1_; clear n0_ n1_) | (go_at_call 24; (with_reducible refine (part_Of.calls A3 c3 l3 a2 _ _ (Kd.C_below HR3.out (by repeat (first | (with_reducible exact HB3.out) | apply below_alloc | apply pw_below_drewN | apply below_drew | (refine below_set ?_ (by simp))))) hc3 HO2'.out).mono ?_); rintro e w' ⟨rfl, hb⟩; have n0_ := Aside0.mk (below_step (by repeat (first | (with_reducible exact HB.out) | apply below_alloc | apply pw_below_drewN | apply below_drew | (refine below_set ?_ (by simp)))) hb); have n1_ := Aside0.mk (below_step (by repeat (first | (with_reducible exact HB3.out) | apply below_alloc | apply pw_below_drewN | apply below_drew | (refine below_set ?_ (by simp)))) hb); clear HB HB3 hb; have HB := n0_; have HB3 := n1_; clear n0_ n1_) | (go_at_call 17; (with_reducible refine (part_Good.calls 20 A3 c3 l3 _ _ (Kd.C_below HR3.out (by repeat (first | (with_reducible exact HB3.out) | apply below_alloc | apply pw_below_drewN | apply below_drew | (refine below_set ?_ (by simp))))) hc3 HD2.out).mono ?_); rintro e w' ⟨rfl, hb⟩; have n0_ := Aside0.mk (below_step (by repeat (first | (with_reducible exact HB.out) | apply below_alloc | apply pw_below_drewN | apply below_drew | (refine below_set ?_ (by simp)))) hb); have n1_ := Aside0.mk (below_step (by repeat (first | (with_reducible exact HB3.out) | apply below_alloc | apply pw_below_drewN | apply below_drew | (refine below_set ?_ (by simp)))) hb); clear HB HB3 hb; have HB := n0_; have HB3 := n1_; clear n0_ n1_) | (go_at_call 14; (with_reducible refine (inkhornlaw12_awake.calls true _ rfl).mono ?_); rintro e w' ⟨rfl, hb⟩; have n0_ := Aside0.mk (below_step (by repeat (first | (with_reducible exact HB.out) | apply below_alloc | apply pw_below_drewN | apply below_drew | (refine below_set ?_ (by simp)))) hb); have n1_ := Aside0.mk (below_step (by repeat (first | (with_reducible exact HB3.out) | apply below_alloc | apply pw_below_drewN | apply below_drew | (refine below_set ?_ (by simp)))) hb); clear HB HB3 hb; have HB := n0_; have HB3 := n1_; clear n0_ n1_))
    refine start_ (n := 10) (S := fun w' => w'.cell? (ad.add (k * 2)) = some (.int .i64 y.f0) ∧ w'.cell? ⟨(ad.add (k * 2)).block, (ad.add (k * 2)).off + 1, none⟩ = some (.string y.f1)) (ds := []) #[false, false, false, false, false, false, false, false, false, false] (by kernel_rfl) rfl rfl ⟨(HX.out _ (by repeat (first | (with_reducible exact HB.out) | apply below_alloc | apply pw_below_drewN | apply below_drew | (refine below_set ?_ (by simp))))).1, (HX.out _ (by repeat (first | (with_reducible exact HB.out) | apply below_alloc | apply pw_below_drewN | apply below_drew | (refine below_set ?_ (by simp))))).2⟩ (fun hHeld => ?_)
    refine pure_ (i := 0) (N := some 48) (v := ?_) (a' := ?_) #[true, false, false, false, false, false, false, false, false, false] rfl rfl (by kernel_rfl) (fun _ _ _ h => h) (Or.inl ⟨by rfl, ?_⟩) ?_ ?_
    rotate_left
    · intro w'
      go_simp
      with_reducible rfl
    rotate_left
    · simp only [Act.put, List.setIfInBounds_toArray, List.set_cons_zero, List.set_cons_succ, i64_w, i32_w]
      rfl
    refine pure_ (i := 2) (N := some 50) (v := ?_) (a' := ?_) #[true, false, true, false, false, false, false, false, false, false] rfl rfl (by kernel_rfl) (fun _ _ _ h => h) (Or.inl ⟨by rfl, ?_⟩) ?_ ?_
    rotate_left
    · intro w'
      go_simp
      with_reducible rfl
    rotate_left
    · simp only [Act.put, List.setIfInBounds_toArray, List.set_cons_zero, List.set_cons_succ, i64_w, i32_w]
      rfl
    refine pure_ (i := 4) (N := some 52) (v := ?_) (a' := ?_) #[true, false, true, false, true, false, false, false, false, false] rfl rfl (by kernel_rfl) (fun _ _ _ h => h) (Or.inl ⟨by rfl, ?_⟩) ?_ ?_
    rotate_left
    · intro w'
      go_simp
      with_reducible rfl
    rotate_left
    · simp only [Act.put, List.setIfInBounds_toArray, List.set_cons_zero, List.set_cons_succ, i64_w, i32_w]
      rfl
    refine pure_ (i := 5) (N := some 53) (v := ?_) (a' := ?_) #[true, false, true, false, true, true, false, false, false, false] rfl rfl (by kernel_rfl) (fun _ _ _ h => h) (Or.inl ⟨by rfl, ?_⟩) ?_ ?_
    rotate_left
    · intro w'
      go_simp
      with_reducible rfl
    rotate_left
    · simp only [Act.put, List.setIfInBounds_toArray, List.set_cons_zero, List.set_cons_succ, i64_w, i32_w]
      rfl
    refine pure_ (i := 6) (N := some 54) (v := ?_) (a' := ?_) #[true, false, true, false, true, true, true, false, false, false] rfl rfl (by kernel_rfl) (fun _ _ _ h => h) (Or.inl ⟨by rfl, ?_⟩) ?_ ?_
    rotate_left
    · intro w'
      go_simp
      with_reducible rfl
    rotate_left
    · simp only [Act.put, List.setIfInBounds_toArray, List.set_cons_zero, List.set_cons_succ, i64_w, i32_w]
      rfl
    refine take_ (i := 7) (N := some 55) (v := ?_) (a' := ?_) #[true, false, true, false, true, true, true, true, false, false] rfl rfl (by kernel_rfl) (fun _ _ _ h => h) (Or.inl ⟨by rfl, ?_⟩) hHeld ?_ ?_
    rotate_left
    · rintro w' ⟨s0, s1⟩
      go_simp
      with_reducible rfl
    rotate_left
    · simp only [Act.put, List.setIfInBounds_toArray, List.set_cons_zero, List.set_cons_succ, i64_w, i32_w]
      rfl
    refine one_ (i := 1) (N := some 49) #[true, true, true, false, true, true, true, true, false, false] rfl rfl (by kernel_rfl) (by decide) (fun K hK => ?_)
    refine goes_ Try.func23 (by kernel_rfl) rfl #[.string a2] (by rfl) rfl rfl (by simp only [List.map_toArray, List.map_cons, List.map_nil]; rfl) ?_
    with_reducible refine (text_Len.calls a2 _ _ HL.out).mono ?_
    rintro e w3 ⟨rfl, hb⟩
    refine ⟨_, rfl, ?_⟩
    have n0_ := Aside0.mk (below_step (by repeat (first | (with_reducible exact HB.out) | apply below_alloc | apply pw_below_drewN | apply below_drew | (refine below_set ?_ (by simp)))) hb)
    have n1_ := Aside0.mk (below_step (by repeat (first | (with_reducible exact HB3.out) | apply below_alloc | apply pw_below_drewN | apply below_drew | (refine below_set ?_ (by simp)))) hb)
    clear HB HB3 hb
    have HB := n0_
    have HB3 := n1_
    clear n0_ n1_
    refine hK.out _ _ ⟨(HX.out _ HB.out).1, (HX.out _ HB.out).2⟩ (fun hHeld => ?_)
    clear hK K
    refine norm_ (a' := ?_) ?_ ?_
    rotate_left
    · show Act.put _ (some 49) _ = _
      simp only [Act.put, List.setIfInBounds_toArray, List.set_cons_zero, List.set_cons_succ, i64_w, i32_w]
      rfl
    refine pure_ (i := 3) (N := some 51) (v := ?_) (a' := ?_) #[true, true, true, true, true, true, true, true, false, false] rfl rfl (by kernel_rfl) (fun _ _ _ h => h) (Or.inl ⟨by rfl, ?_⟩) ?_ ?_
    rotate_left
    · intro w'
      go_simp
      with_reducible rfl
    rotate_left
    · simp only [Act.put, List.setIfInBounds_toArray, List.set_cons_zero, List.set_cons_succ, i64_w, i32_w]
      rfl
    refine one_ (i := 8) (N := some 56) #[true, true, true, true, true, true, true, true, true, false] rfl rfl (by kernel_rfl) (by decide) (fun K hK => ?_)
    refine goes_ Try.func20 (by kernel_rfl) rfl #[.agg #[.int .i64 (lenOf (runesOf a2)), .string a2], .agg #[.int .i64 y.f0, .string y.f1]] (by rfl) rfl rfl (by simp only [List.map_toArray, List.map_cons, List.map_nil]; rfl) ?_
    with_reducible refine (part_Less.calls 3 _ a2 y.f0 y.f1 _ _ HLS2.out).mono ?_
    rintro e w4 ⟨rfl, hb⟩
    refine ⟨_, rfl, ?_⟩
    have n0_ := Aside0.mk (below_step (by repeat (first | (with_reducible exact HB.out) | apply below_alloc | apply pw_below_drewN | apply below_drew | (refine below_set ?_ (by simp)))) hb)
    have n1_ := Aside0.mk (below_step (by repeat (first | (with_reducible exact HB3.out) | apply below_alloc | apply pw_below_drewN | apply below_drew | (refine below_set ?_ (by simp)))) hb)
    clear HB HB3 hb
    have HB := n0_
    have HB3 := n1_
    clear n0_ n1_
    refine hK.out _ _ ⟨(HX.out _ HB.out).1, (HX.out _ HB.out).2⟩ (fun hHeld => ?_)
    clear hK K
    refine norm_ (a' := ?_) ?_ ?_
    rotate_left
    · show Act.put _ (some 56) _ = _
      simp only [Act.put, List.setIfInBounds_toArray, List.set_cons_zero, List.set_cons_succ, i64_w, i32_w]
      rfl
    refine pure_ (i := 9) (N := some 57) (v := ?_) (a' := ?_) #[true, true, true, true, true, true, true, true, true, true] rfl rfl (by kernel_rfl) (fun _ _ _ h => h) (Or.inl ⟨by rfl, ?_⟩) ?_ ?_
    rotate_left
    · intro w'
      go_simp
      with_reducible rfl
    rotate_left
    · simp only [Act.put, List.setIfInBounds_toArray, List.set_cons_zero, List.set_cons_succ, i64_w, i32_w]
      rfl
    refine done_ (by kernel_rfl) ?_
    go_wp2_with (first | (go_at_call 24; (with_reducible refine (part_Of.calls _ c0 l0 a2 _ _ (Kd.C_below HR.out (by repeat (first | (with_reducible exact HB.out) | apply below_alloc | apply pw_below_drewN | apply below_drew | (refine below_set ?_ (by simp))))) hc0 HO1'.out).mono ?_); rintro e w' ⟨rfl, hb⟩; have n0_ := Aside0.mk (below_step (by repeat (first | (with_reducible exact HB.out) | apply below_alloc | apply pw_below_drewN | apply below_drew | (refine below_set ?_ (by simp)))) hb); have n1_ := Aside0.mk (below_step (by repeat (first | (with_reducible exact HB3.out) | apply below_alloc | apply pw_below_drewN | apply below_drew | (refine below_set ?_ (by simp)))) hb); clear HB HB3 hb; have HB := n0_; have HB3 := n1_; clear n0_ n1_) | (go_at_call 24; (with_reducible refine (part_Of.calls A3 c3 l3 a2 _ _ (Kd.C_below HR3.out (by repeat (first | (with_reducible exact HB3.out) | apply below_alloc | apply pw_below_drewN | apply below_drew | (refine below_set ?_ (by simp))))) hc3 HO2'.out).mono ?_); rintro e w' ⟨rfl, hb⟩; have n0_ := Aside0.mk (below_step (by repeat (first | (with_reducible exact HB.out) | apply below_alloc | apply pw_below_drewN | apply below_drew | (refine below_set ?_ (by simp)))) hb); have n1_ := Aside0.mk (below_step (by repeat (first | (with_reducible exact HB3.out) | apply below_alloc | apply pw_below_drewN | apply below_drew | (refine below_set ?_ (by simp)))) hb); clear HB HB3 hb; have HB := n0_; have HB3 := n1_; clear n0_ n1_) | (go_at_call 17; (with_reducible refine (part_Good.calls 20 A3 c3 l3 _ _ (Kd.C_below HR3.out (by repeat (first | (with_reducible exact HB3.out) | apply below_alloc | apply pw_below_drewN | apply below_drew | (refine below_set ?_ (by simp))))) hc3 HD2.out).mono ?_); rintro e w' ⟨rfl, hb⟩; have n0_ := Aside0.mk (below_step (by repeat (first | (with_reducible exact HB.out) | apply below_alloc | apply pw_below_drewN | apply below_drew | (refine below_set ?_ (by simp)))) hb); have n1_ := Aside0.mk (below_step (by repeat (first | (with_reducible exact HB3.out) | apply below_alloc | apply pw_below_drewN | apply below_drew | (refine below_set ?_ (by simp)))) hb); clear HB HB3 hb; have HB := n0_; have HB3 := n1_; clear n0_ n1_) | (go_at_call 14; (with_reducible refine (inkhornlaw12_awake.calls true _ rfl).mono ?_); rintro e w' ⟨rfl, hb⟩; have n0_ := Aside0.mk (below_step (by repeat (first | (with_reducible exact HB.out) | apply below_alloc | apply pw_below_drewN | apply below_drew | (refine below_set ?_ (by simp)))) hb); have n1_ := Aside0.mk (below_step (by repeat (first | (with_reducible exact HB3.out) | apply below_alloc | apply pw_below_drewN | apply below_drew | (refine below_set ?_ (by simp)))) hb); clear HB HB3 hb; have HB := n0_; have HB3 := n1_; clear n0_ n1_))
    go_ret
    exact ⟨by simp, HB.out⟩
end Go.Proofs.Ytiobphijbpdolaa.P
