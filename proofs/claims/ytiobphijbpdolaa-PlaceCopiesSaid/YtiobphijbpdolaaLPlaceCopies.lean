/- inkhornlaw13.PlaceCopies returns true, whatever the configuration. -/
import Derived.Test.YtiobphijbpdolaaQ13c
import Derived.Test.YtiobphijbpdolaaQ12b
import Derived.Test.YtiobphijbpdolaaPx9
import Derived.Test.YtiobphijbpdolaaQCfg
import Derived.Test.YtiobphijbpdolaaKinds
import Derived.Deep.RegionLaw
import Derived.Deep.RegionWith
import Derived.IntWalk
import Derived.Deep.QuietTactic
import Derived.BigQuiet
namespace Go.Proofs.Ytiobphijbpdolaa.P
open Go.RowKit Go.Proofs.YtiobphijbpdolaaW.PrintWords Go.Proofs.YtiobphijbpdolaaW.PrintLast Go.Proofs.YtiobphijbpdolaaW.PrintMore
set_option linter.unusedVariables false
set_option linter.unusedSimpArgs false

theorem box_cells {W : World} {b : Nat} {v0 v1 v2 v3 v4 v5 v6 v7 v8 v9 v10 v11 : Value} {t : TypeId} (h : W.heap[b]? = some (.cells #[v0, v1, v2, v3, v4, v5, v6, v7, v8, v9, v10, v11] t (0, 0))) :
    W.cell? ⟨b, 0, none⟩ = some v0 ∧ W.cell? ⟨b, 1, none⟩ = some v1 ∧ W.cell? ⟨b, 2, none⟩ = some v2 ∧ W.cell? ⟨b, 3, none⟩ = some v3 ∧ W.cell? ⟨b, 4, none⟩ = some v4 ∧ W.cell? ⟨b, 5, none⟩ = some v5 ∧ W.cell? ⟨b, 6, none⟩ = some v6 ∧ W.cell? ⟨b, 7, none⟩ = some v7 ∧ W.cell? ⟨b, 8, none⟩ = some v8 ∧ W.cell? ⟨b, 9, none⟩ = some v9 ∧ W.cell? ⟨b, 10, none⟩ = some v10 ∧ W.cell? ⟨b, 11, none⟩ = some v11 :=
  ⟨(blk_cell h 0).trans rfl, (blk_cell h 1).trans rfl, (blk_cell h 2).trans rfl, (blk_cell h 3).trans rfl, (blk_cell h 4).trans rfl, (blk_cell h 5).trans rfl, (blk_cell h 6).trans rfl, (blk_cell h 7).trans rfl, (blk_cell h 8).trans rfl, (blk_cell h 9).trans rfl, (blk_cell h 10).trans rfl, (blk_cell h 11).trans rfl⟩
theorem box_stays {W0 : World} {b : Nat} {o : Obj} (h : W0.heap[b]? = some o) : ∀ W, Below W0.heap.size W0 W → W.heap[b]? = some o := fun W hb => by
  rw [hb.block b (blk_lt h)]
  exact h

set_option maxHeartbeats 4000000 in
set_option maxRecDepth 100000 in
theorem PlaceCopies_go (A0 : Option Addr) (c0 : Nat) (A1 : Option Addr) (c1 : Nat) (c : Cfg) (w : World) (hr0 : Kd.C Kd.string w A0 c.ws.length c.ws) (hc0 : c.ws.length ≤ c0) (hr1 : Kd.C k24 w A1 c.cs.length c.cs) (hc1 : c.cs.length ≤ c1) (hl : c.ws.length ≤ 140737488355328) (hl1 : c.cs.length ≤ 140737488355328) (hs : Sized c) :
    Calls Try.prog 9 #[.agg #[.slice A0 c.ws.length c0, .slice A1 c.cs.length c1, .int .i64 c.workers, .int .i64 c.copies, .int .i64 c.slots, .int .i64 c.batch, .int .i64 c.lease, .int .i64 c.hedge, .int .i64 c.first, .int .i64 c.cap, .int .i64 c.jitter, .int .i64 c.net]] w fun e w' => e = .returned (.bool true) ∧ Below w.heap.size w w' := by
  have hu43 := Try.underlying43
  obtain ⟨kG, hG⟩ := (greatC_is c hl hl1).rounds
  have HG := Aside0.mk hG
  obtain ⟨kM, hM⟩ := (may_is c hs).rounds
  have HM := Aside0.mk hM
  obtain ⟨kA, hA⟩ := awake13_is.rounds
  have HA := Aside0.mk hA
  have HR0 := Aside0.mk hr0
  have HR1 := Aside0.mk hr1
  clear hr0 hr1 hG hM hA
  have HB := Aside0.mk (Below.refl w.heap.size w)
  cases hg : greatCfg c with
  | true =>
    rw [hg] at HG
    clear hg
    go_enter Try.func9, Try.ntmps9
    go_wp2_with (first | ((with_reducible refine gate_dst (N := 1) rfl ?_); (try (refine gate_guard (by rfl) ?_; dsimp only)); refine box_event ?hg (N := 1) ?hd (cs := #[.slice A0 c.ws.length c0, .slice A1 c.cs.length c1, .int .i64 c.workers, .int .i64 c.copies, .int .i64 c.slots, .int .i64 c.batch, .int .i64 c.lease, .int .i64 c.hedge, .int .i64 c.first, .int .i64 c.cap, .int .i64 c.jitter, .int .i64 c.net]) (t := 43) ?hr ?_; (case hd => rfl); (case hg => rfl); (case hr => first | (go_simp; done) | (go_simp; rfl)); intro gb hg w4 hbox hb; have n0_ := Aside0.mk (below_step (by repeat (first | (with_reducible exact HB.out) | apply below_alloc | apply pw_below_drewN | apply below_drew | (refine below_set ?_ (by simp)))) hb); have BX := Aside0.mk (box_stays hbox); clear HB hb hbox hg; have HB := n0_; have HB3 := Aside0.mk (Below.refl w4.heap.size w4); have HB5 := HB3; clear n0_; obtain ⟨x0, x1, x2, x3, x4, x5, x6, x7, x8, x9, x10, x11⟩ := box_cells (BX.out _ HB3.out)) | (go_at_call 25; (with_reducible refine (inkhornlaw0_GreatConfig.calls kG A0 c0 c.ws A1 c1 c.cs c.workers c.copies c.slots c.batch c.lease c.hedge c.first c.cap c.jitter c.net _ _ (Kd.C_below HR0.out (by repeat (first | (with_reducible exact HB.out) | apply below_alloc | apply pw_below_drewN | apply below_drew | (refine below_set ?_ (by simp))))) hc0 (Kd.C_below HR1.out (by repeat (first | (with_reducible exact HB.out) | apply below_alloc | apply pw_below_drewN | apply below_drew | (refine below_set ?_ (by simp))))) hc1 HG.out).mono ?_); rintro e w' ⟨rfl, hb⟩; have n0_ := Aside0.mk (below_step (by repeat (first | (with_reducible exact HB.out) | apply below_alloc | apply pw_below_drewN | apply below_drew | (refine below_set ?_ (by simp)))) hb); have n1_ := Aside0.mk (below_step (by repeat (first | (with_reducible exact HB3.out) | apply below_alloc | apply pw_below_drewN | apply below_drew | (refine below_set ?_ (by simp)))) hb); have n2_ := Aside0.mk (below_step (by repeat (first | (with_reducible exact HB5.out) | apply below_alloc | apply pw_below_drewN | apply below_drew | (refine below_set ?_ (by simp)))) hb); clear HB HB3 HB5 hb x0 x1 x2 x3 x4 x5 x6 x7 x8 x9 x10 x11; have HB := n0_; have HB3 := n1_; have HB5 := n2_; clear n0_ n1_ n2_; obtain ⟨x0, x1, x2, x3, x4, x5, x6, x7, x8, x9, x10, x11⟩ := box_cells (BX.out _ HB3.out)) | (go_at_call 27; (with_reducible refine (inkhornlaw13_awake.calls kA true _ HA.out).mono ?_); rintro e w' ⟨rfl, hb⟩; have n0_ := Aside0.mk (below_step (by repeat (first | (with_reducible exact HB.out) | apply below_alloc | apply pw_below_drewN | apply below_drew | (refine below_set ?_ (by simp)))) hb); have n1_ := Aside0.mk (below_step (by repeat (first | (with_reducible exact HB3.out) | apply below_alloc | apply pw_below_drewN | apply below_drew | (refine below_set ?_ (by simp)))) hb); have n2_ := Aside0.mk (below_step (by repeat (first | (with_reducible exact HB5.out) | apply below_alloc | apply pw_below_drewN | apply below_drew | (refine below_set ?_ (by simp)))) hb); clear HB HB3 HB5 hb x0 x1 x2 x3 x4 x5 x6 x7 x8 x9 x10 x11; have HB := n0_; have HB3 := n1_; have HB5 := n2_; clear n0_ n1_ n2_; obtain ⟨x0, x1, x2, x3, x4, x5, x6, x7, x8, x9, x10, x11⟩ := box_cells (BX.out _ HB3.out)))
    go_ret
    exact ⟨rfl, HB.out⟩
  | false =>
  cases hm : mayB c with
  | false =>
    rw [hg] at HG
    rw [hm] at HM
    clear hg hm
    go_enter Try.func9, Try.ntmps9
    go_wp2_with (first | ((with_reducible refine gate_dst (N := 1) rfl ?_); (try (refine gate_guard (by rfl) ?_; dsimp only)); refine box_event ?hg (N := 1) ?hd (cs := #[.slice A0 c.ws.length c0, .slice A1 c.cs.length c1, .int .i64 c.workers, .int .i64 c.copies, .int .i64 c.slots, .int .i64 c.batch, .int .i64 c.lease, .int .i64 c.hedge, .int .i64 c.first, .int .i64 c.cap, .int .i64 c.jitter, .int .i64 c.net]) (t := 43) ?hr ?_; (case hd => rfl); (case hg => rfl); (case hr => first | (go_simp; done) | (go_simp; rfl)); intro gb hg w4 hbox hb; have n0_ := Aside0.mk (below_step (by repeat (first | (with_reducible exact HB.out) | apply below_alloc | apply pw_below_drewN | apply below_drew | (refine below_set ?_ (by simp)))) hb); have BX := Aside0.mk (box_stays hbox); clear HB hb hbox hg; have HB := n0_; have HB3 := Aside0.mk (Below.refl w4.heap.size w4); have HB5 := HB3; clear n0_; obtain ⟨x0, x1, x2, x3, x4, x5, x6, x7, x8, x9, x10, x11⟩ := box_cells (BX.out _ HB3.out)) | (go_at_call 25; (with_reducible refine (inkhornlaw0_GreatConfig.calls kG A0 c0 c.ws A1 c1 c.cs c.workers c.copies c.slots c.batch c.lease c.hedge c.first c.cap c.jitter c.net _ _ (Kd.C_below HR0.out (by repeat (first | (with_reducible exact HB.out) | apply below_alloc | apply pw_below_drewN | apply below_drew | (refine below_set ?_ (by simp))))) hc0 (Kd.C_below HR1.out (by repeat (first | (with_reducible exact HB.out) | apply below_alloc | apply pw_below_drewN | apply below_drew | (refine below_set ?_ (by simp))))) hc1 HG.out).mono ?_); rintro e w' ⟨rfl, hb⟩; have n0_ := Aside0.mk (below_step (by repeat (first | (with_reducible exact HB.out) | apply below_alloc | apply pw_below_drewN | apply below_drew | (refine below_set ?_ (by simp)))) hb); have n1_ := Aside0.mk (below_step (by repeat (first | (with_reducible exact HB3.out) | apply below_alloc | apply pw_below_drewN | apply below_drew | (refine below_set ?_ (by simp)))) hb); have n2_ := Aside0.mk (below_step (by repeat (first | (with_reducible exact HB5.out) | apply below_alloc | apply pw_below_drewN | apply below_drew | (refine below_set ?_ (by simp)))) hb); clear HB HB3 HB5 hb x0 x1 x2 x3 x4 x5 x6 x7 x8 x9 x10 x11; have HB := n0_; have HB3 := n1_; have HB5 := n2_; clear n0_ n1_ n2_; obtain ⟨x0, x1, x2, x3, x4, x5, x6, x7, x8, x9, x10, x11⟩ := box_cells (BX.out _ HB3.out)) | (go_at_call 26; (with_reducible refine (place_May.calls kM A0 c0 c.ws A1 c1 c.cs c.workers c.copies c.slots c.batch c.lease c.hedge c.first c.cap c.jitter c.net _ _ (Kd.C_below HR0.out (by repeat (first | (with_reducible exact HB.out) | apply below_alloc | apply pw_below_drewN | apply below_drew | (refine below_set ?_ (by simp))))) hc0 (Kd.C_below HR1.out (by repeat (first | (with_reducible exact HB.out) | apply below_alloc | apply pw_below_drewN | apply below_drew | (refine below_set ?_ (by simp))))) hc1 HM.out).mono ?_); rintro e w' ⟨rfl, hb⟩; have n0_ := Aside0.mk (below_step (by repeat (first | (with_reducible exact HB.out) | apply below_alloc | apply pw_below_drewN | apply below_drew | (refine below_set ?_ (by simp)))) hb); have n1_ := Aside0.mk (below_step (by repeat (first | (with_reducible exact HB3.out) | apply below_alloc | apply pw_below_drewN | apply below_drew | (refine below_set ?_ (by simp)))) hb); have n2_ := Aside0.mk (below_step (by repeat (first | (with_reducible exact HB5.out) | apply below_alloc | apply pw_below_drewN | apply below_drew | (refine below_set ?_ (by simp)))) hb); clear HB HB3 HB5 hb x0 x1 x2 x3 x4 x5 x6 x7 x8 x9 x10 x11; have HB := n0_; have HB3 := n1_; have HB5 := n2_; clear n0_ n1_ n2_; obtain ⟨x0, x1, x2, x3, x4, x5, x6, x7, x8, x9, x10, x11⟩ := box_cells (BX.out _ HB3.out)) | (go_at_call 27; (with_reducible refine (inkhornlaw13_awake.calls kA true _ HA.out).mono ?_); rintro e w' ⟨rfl, hb⟩; have n0_ := Aside0.mk (below_step (by repeat (first | (with_reducible exact HB.out) | apply below_alloc | apply pw_below_drewN | apply below_drew | (refine below_set ?_ (by simp)))) hb); have n1_ := Aside0.mk (below_step (by repeat (first | (with_reducible exact HB3.out) | apply below_alloc | apply pw_below_drewN | apply below_drew | (refine below_set ?_ (by simp)))) hb); have n2_ := Aside0.mk (below_step (by repeat (first | (with_reducible exact HB5.out) | apply below_alloc | apply pw_below_drewN | apply below_drew | (refine below_set ?_ (by simp)))) hb); clear HB HB3 HB5 hb x0 x1 x2 x3 x4 x5 x6 x7 x8 x9 x10 x11; have HB := n0_; have HB3 := n1_; have HB5 := n2_; clear n0_ n1_ n2_; obtain ⟨x0, x1, x2, x3, x4, x5, x6, x7, x8, x9, x10, x11⟩ := box_cells (BX.out _ HB3.out)))
    go_ret
    exact ⟨rfl, HB.out⟩
  | true =>
  have hb := may_cuts hm
  have hsh : shards c = c.cs.length + 1 := by simp [shards, hm]
  have hmd := hm
  simp only [mayB, Bool.and_eq_true, decide_eq_true_eq] at hmd
  obtain ⟨h60, hwd, hpw⟩ := goodW_pairs hmd.1.1
  have hcd := hmd.1.2
  clear hmd
  obtain ⟨W, hW⟩ : ∃ W : Nat, c.workers = W := ⟨c.workers.toNat, by omega⟩
  obtain ⟨C, hC⟩ : ∃ C : Nat, c.copies = C := ⟨c.copies.toNat, by omega⟩
  obtain ⟨n, hn⟩ : ∃ n, n = c.cs.length + 1 := ⟨_, rfl⟩
  have hcop : ∀ s : Nat, s < n → copiesOf c (s : Int) = copiesL W C s := fun s h => by
    rw [copiesOf, if_pos (by rw [hsh]; omega), hW, hC]; rfl
  -- what is reckoned
  have hof : ∀ x ∈ c.ws, ofI c.cs x = shardOf c.cs (keyOf x) := fun x hx => by unfold ofI; rw [hwd x hx, if_pos rfl]
  have hX : ∀ s : Nat, sliceL c.cs c.ws (s : Int) = shX c.cs c.ws s := fun s => by
    unfold sliceL shX
    refine List.filter_congr fun x hx => ?_
    have := (shard_range c.cs (keyOf x)).1
    simp only [inShard, hof x hx]
    simp [this]
  have HWD := Aside0.mk (fun s : Nat => (show ∃ k, place_Words.f k c.ws c.cs c.workers c.copies c.slots c.batch c.lease c.hedge c.first c.cap c.jitter c.net (s : Int) = some (shX c.cs c.ws s) from by
    obtain ⟨k, hk⟩ := (slice_is c.cs c.ws (s : Int) hl1 (by omega) hs.1).rounds
    exact ⟨k, by unfold place_Words.f; rw [hk, Option.bind_some, hX]⟩))
  have HMG := Aside0.mk (fun j : Nat => (show ∃ k, list_Merge.f k (shU c.cs c.ws j) (shX c.cs c.ws j) = some (shU c.cs c.ws (j + 1)) from (ev_eq (merge_loop (fun x => decide (shardOf c.cs (keyOf x) < (j : Int))) (fun x => decide (shardOf c.cs (keyOf x) = (j : Int))) c.ws [] hpw (fun x _ => by simp only [decide_eq_true_eq]; omega) (by simp; omega)) (r' := shU c.cs c.ws (j + 1)) (by
    show [] ++ _ = _
    rw [List.nil_append]
    unfold shU
    refine List.filter_congr fun x _ => ?_
    rw [← Bool.decide_or]
    exact decide_eq_decide.2 (by omega))).rounds))
  have HU0 := Aside0.mk (show shU c.cs c.ws 0 = [] from by
    unfold shU
    refine List.filter_eq_nil_iff.2 fun x _ => ?_
    have := (shard_range c.cs (keyOf x)).1
    simp only [decide_eq_true_eq]
    omega)
  have HUn := Aside0.mk (show shU c.cs c.ws n = c.ws from by
    unfold shU
    refine List.filter_eq_self.2 fun x _ => ?_
    have := (shard_range c.cs (keyOf x)).2
    simp only [decide_eq_true_eq]
    omega)
  have HCP := Aside0.mk (fun s : Int => (copies_is c hs s).rounds)
  have HKP := Aside0.mk (fun s : Int => (keeps_is c hs s).rounds)
  obtain ⟨kS, hS⟩ := (shards_is c hs).rounds
  rw [hsh, ← hn] at hS
  have HS := Aside0.mk hS
  obtain ⟨kQ, hQ⟩ := (sameT_self c.ws (by omega)).rounds
  have HQ := Aside0.mk hQ
  have HCO := Aside0.mk hcop
  have HCA := Aside0.mk (fun (s i : Nat) (h : s < n) (hi : i < C) => copy_all W C s i (by omega) (by omega) (by omega) (by omega) (by omega) hi)
  have HKC := Aside0.mk (fun w : Int => (show (keepsOf c w).length = cntK2 n W C w from by rw [keeps_cnt2 c hm w, hn, hW, hC]; rfl))
  have HKM := Aside0.mk (fun (w : Int) (i : Nat) (hi : i < (keepsOf c w).length) => (show ∃ s : Nat, s < n ∧ rd (keepsOf c w) (i : Int) = (s : Int) ∧ ((copiesL W C s).any fun y => decide (w = y)) = true from by
    obtain ⟨s, h1, h2, h3⟩ := keeps_mem c w i hi
    rw [hsh, ← hn] at h1
    rw [hcop s h1] at h3
    exact ⟨s, h1, h2, h3⟩))
  have HSA := Aside0.mk (sum_all n W C (by omega) (by omega) (by omega) (by omega) (by omega))
  have hSL : ∀ j, sumK n W C j ≤ j * 7 := fun j => by
    induction j with
    | zero => exact Nat.le_refl _
    | succ j ih =>
      have := List.length_filter_le (fun s => (copiesL W C s).any fun y => decide (((j + 1 : Nat) : Int) = y)) (List.range n)
      rw [List.length_range] at this
      rw [sumK]
      unfold cntK2
      omega
  have HSL := Aside0.mk hSL
  have hn7 : n ≤ 6 := by omega
  have hW5 : W ≤ 5 := by omega
  have hC3 : C ≤ 3 := by omega
  have hW1 : 1 ≤ W := by omega
  rw [hg] at HG
  rw [hm] at HM
  clear hg hm hQ hS hX hof hwd hpw hcd hcop hSL hs hsh hb hl hl1 hn
  have HWW := Aside0.mk hW
  have HCC := Aside0.mk hC
  clear hW hC
  go_enter Try.func9, Try.ntmps9
  go_wp2_with (first | ((with_reducible refine gate_dst (N := 1) rfl ?_); (try (refine gate_guard (by rfl) ?_; dsimp only)); refine box_event ?hg (N := 1) ?hd (cs := #[.slice A0 c.ws.length c0, .slice A1 c.cs.length c1, .int .i64 c.workers, .int .i64 c.copies, .int .i64 c.slots, .int .i64 c.batch, .int .i64 c.lease, .int .i64 c.hedge, .int .i64 c.first, .int .i64 c.cap, .int .i64 c.jitter, .int .i64 c.net]) (t := 43) ?hr ?_; (case hd => rfl); (case hg => rfl); (case hr => first | (go_simp; done) | (go_simp; rfl)); intro gb hg w4 hbox hb; have n0_ := Aside0.mk (below_step (by repeat (first | (with_reducible exact HB.out) | apply below_alloc | apply pw_below_drewN | apply below_drew | (refine below_set ?_ (by simp)))) hb); have BX := Aside0.mk (box_stays hbox); clear HB hb hbox hg; have HB := n0_; have HB3 := Aside0.mk (Below.refl w4.heap.size w4); have HB5 := HB3; clear n0_; obtain ⟨x0, x1, x2, x3, x4, x5, x6, x7, x8, x9, x10, x11⟩ := box_cells (BX.out _ HB3.out)) | (go_at_call 25; (with_reducible refine (inkhornlaw0_GreatConfig.calls kG A0 c0 c.ws A1 c1 c.cs c.workers c.copies c.slots c.batch c.lease c.hedge c.first c.cap c.jitter c.net _ _ (Kd.C_below HR0.out (by repeat (first | (with_reducible exact HB.out) | apply below_alloc | apply pw_below_drewN | apply below_drew | (refine below_set ?_ (by simp))))) hc0 (Kd.C_below HR1.out (by repeat (first | (with_reducible exact HB.out) | apply below_alloc | apply pw_below_drewN | apply below_drew | (refine below_set ?_ (by simp))))) hc1 HG.out).mono ?_); rintro e w' ⟨rfl, hb⟩; have n0_ := Aside0.mk (below_step (by repeat (first | (with_reducible exact HB.out) | apply below_alloc | apply pw_below_drewN | apply below_drew | (refine below_set ?_ (by simp)))) hb); have n1_ := Aside0.mk (below_step (by repeat (first | (with_reducible exact HB3.out) | apply below_alloc | apply pw_below_drewN | apply below_drew | (refine below_set ?_ (by simp)))) hb); have n2_ := Aside0.mk (below_step (by repeat (first | (with_reducible exact HB5.out) | apply below_alloc | apply pw_below_drewN | apply below_drew | (refine below_set ?_ (by simp)))) hb); clear HB HB3 HB5 hb x0 x1 x2 x3 x4 x5 x6 x7 x8 x9 x10 x11; have HB := n0_; have HB3 := n1_; have HB5 := n2_; clear n0_ n1_ n2_; obtain ⟨x0, x1, x2, x3, x4, x5, x6, x7, x8, x9, x10, x11⟩ := box_cells (BX.out _ HB3.out)) | (go_at_call 26; (with_reducible refine (place_May.calls kM A0 c0 c.ws A1 c1 c.cs c.workers c.copies c.slots c.batch c.lease c.hedge c.first c.cap c.jitter c.net _ _ (Kd.C_below HR0.out (by repeat (first | (with_reducible exact HB.out) | apply below_alloc | apply pw_below_drewN | apply below_drew | (refine below_set ?_ (by simp))))) hc0 (Kd.C_below HR1.out (by repeat (first | (with_reducible exact HB.out) | apply below_alloc | apply pw_below_drewN | apply below_drew | (refine below_set ?_ (by simp))))) hc1 HM.out).mono ?_); rintro e w' ⟨rfl, hb⟩; have n0_ := Aside0.mk (below_step (by repeat (first | (with_reducible exact HB.out) | apply below_alloc | apply pw_below_drewN | apply below_drew | (refine below_set ?_ (by simp)))) hb); have n1_ := Aside0.mk (below_step (by repeat (first | (with_reducible exact HB3.out) | apply below_alloc | apply pw_below_drewN | apply below_drew | (refine below_set ?_ (by simp)))) hb); have n2_ := Aside0.mk (below_step (by repeat (first | (with_reducible exact HB5.out) | apply below_alloc | apply pw_below_drewN | apply below_drew | (refine below_set ?_ (by simp)))) hb); clear HB HB3 HB5 hb x0 x1 x2 x3 x4 x5 x6 x7 x8 x9 x10 x11; have HB := n0_; have HB3 := n1_; have HB5 := n2_; clear n0_ n1_ n2_; obtain ⟨x0, x1, x2, x3, x4, x5, x6, x7, x8, x9, x10, x11⟩ := box_cells (BX.out _ HB3.out)))
  go_loopw [4, 5] (fun v4 v5 w' => ∃ (j b : Nat), j ≤ n ∧ v5 = .int .i64 j ∧ Aside0 (Kd.R Kd.string 9 w' b (fun _ => True) v4 (shU c.cs c.ws j)) ∧ Aside0 (Below w.heap.size w w') ∧ Aside0 (Below w4.heap.size w4 w')) (fun _ v5 _ => n - (intOf v5).toNat)
  case atStart => exact ⟨0, 0, Nat.zero_le _, rfl, ⟨by rw [HU0.out]; exact Kd.R_nil _ _ _ _ _⟩, HB, HB3⟩
  case round =>
    clear HB HB3 HB5 x0 x1 x2 x3 x4 x5 x6 x7 x8 x9 x10 x11
    obtain ⟨j, b, hj, rfl, HL, HB, HB3⟩ := hrel
    have HB5 := Aside0.mk (Below.refl wr.heap.size wr)
    obtain ⟨x0, x1, x2, x3, x4, x5, x6, x7, x8, x9, x10, x11⟩ := box_cells (BX.out _ HB3.out)
    by_cases hlt : j < n
    · have d1 : decide ((j : Int) < (n : Int)) = true := decide_eq_true (by omega)
      obtain ⟨kC, hK⟩ := HCP.out (j : Int)
      rw [HCO.out j hlt] at hK
      have HC1 := Aside0.mk hK
      clear hK
      obtain ⟨kX, hK⟩ := HWD.out j
      have HX1 := Aside0.mk hK
      clear hK
      obtain ⟨kU, hK⟩ := HMG.out j
      have HU1 := Aside0.mk hK
      clear hK
      have HCA1 := Aside0.mk (fun i hi => HCA.out j i hlt hi)
      have hCl := Aside0.mk (show (copiesL W C j).length = C by simp [copiesL])
      generalize copiesL W C j = L at HC1 HCA1 hCl
      have d2 : ((L.length : Int) != c.copies) = false := by rw [HCC.out, hCl.out]; simp
      obtain ⟨A5, c5, e5, hc5, hC5⟩ := Kd.R_reads HL.out
      subst e5
      clear hC5
      obtain ⟨X, hX1⟩ : ∃ X, X = shX c.cs c.ws j := ⟨_, rfl⟩
      obtain ⟨U, hU1⟩ : ∃ U, U = shU c.cs c.ws j := ⟨_, rfl⟩
      obtain ⟨U', hU2⟩ : ∃ U', U' = shU c.cs c.ws (j + 1) := ⟨_, rfl⟩
      rw [← hX1] at HX1 HU1
      rw [← hU1] at HL HU1
      rw [← hU2] at HU1
      rw [← hU1]
      have hU2' := Aside0.mk hU2
      clear hX1 hU1 hU2
      go_wp2_with (first | (go_at_call 39; (with_reducible refine (place_Shards.calls kS A0 c0 c.ws A1 c1 c.cs c.workers c.copies c.slots c.batch c.lease c.hedge c.first c.cap c.jitter c.net _ _ (Kd.C_below HR0.out (by repeat (first | (with_reducible exact HB.out) | apply below_alloc | apply pw_below_drewN | apply below_drew | (refine below_set ?_ (by simp))))) hc0 (Kd.C_below HR1.out (by repeat (first | (with_reducible exact HB.out) | apply below_alloc | apply pw_below_drewN | apply below_drew | (refine below_set ?_ (by simp))))) hc1 HS.out).mono ?_); rintro e w' ⟨rfl, hb⟩; have n0_ := Aside0.mk (below_step (by repeat (first | (with_reducible exact HB.out) | apply below_alloc | apply pw_below_drewN | apply below_drew | (refine below_set ?_ (by simp)))) hb); have n1_ := Aside0.mk (below_step (by repeat (first | (with_reducible exact HB3.out) | apply below_alloc | apply pw_below_drewN | apply below_drew | (refine below_set ?_ (by simp)))) hb); have n2_ := Aside0.mk (below_step (by repeat (first | (with_reducible exact HB5.out) | apply below_alloc | apply pw_below_drewN | apply below_drew | (refine below_set ?_ (by simp)))) hb); clear HB HB3 HB5 hb x0 x1 x2 x3 x4 x5 x6 x7 x8 x9 x10 x11; have HB := n0_; have HB3 := n1_; have HB5 := n2_; clear n0_ n1_ n2_; obtain ⟨x0, x1, x2, x3, x4, x5, x6, x7, x8, x9, x10, x11⟩ := box_cells (BX.out _ HB3.out)) | (go_at_call 40; (with_reducible refine (place_Copies.calls kC A0 c0 c.ws A1 c1 c.cs c.workers c.copies c.slots c.batch c.lease c.hedge c.first c.cap c.jitter c.net _ _ _ (Kd.C_below HR0.out (by repeat (first | (with_reducible exact HB.out) | apply below_alloc | apply pw_below_drewN | apply below_drew | (refine below_set ?_ (by simp))))) hc0 (Kd.C_below HR1.out (by repeat (first | (with_reducible exact HB.out) | apply below_alloc | apply pw_below_drewN | apply below_drew | (refine below_set ?_ (by simp))))) hc1 HC1.out).mono ?_); rintro e w' ⟨v9, rfl, hv, hb⟩; obtain ⟨A9, c9, e9, hc9, hC9⟩ := Kd.R_reads hv; subst e9; have HLs := Aside0.mk hC9; have n0_ := Aside0.mk (below_step (by repeat (first | (with_reducible exact HB.out) | apply below_alloc | apply pw_below_drewN | apply below_drew | (refine below_set ?_ (by simp)))) hb); have n1_ := Aside0.mk (below_step (by repeat (first | (with_reducible exact HB3.out) | apply below_alloc | apply pw_below_drewN | apply below_drew | (refine below_set ?_ (by simp)))) hb); have HL2 := Aside0.mk (Kd.R_below HL.out (below_step (by repeat (first | (with_reducible exact HB5.out) | apply below_alloc | apply pw_below_drewN | apply below_drew | (refine below_set ?_ (by simp)))) hb)); clear HB HB3 HB5 hb hv hC9 x0 x1 x2 x3 x4 x5 x6 x7 x8 x9 x10 x11; have HB := n0_; have HB3 := n1_; clear n0_ n1_; obtain ⟨x0, x1, x2, x3, x4, x5, x6, x7, x8, x9, x10, x11⟩ := box_cells (BX.out _ HB3.out); have HB5 := Aside0.mk (Below.refl w'.heap.size w')))
      go_loopw [7] (fun v7 w3 => ∃ i : Int, Aside0 (0 ≤ i) ∧ Aside0 (i ≤ C) ∧ v7 = .int .i64 i ∧ Aside0 (Below w.heap.size w w3) ∧ Aside0 (Below w4.heap.size w4 w3) ∧ Aside0 (Below w'.heap.size w' w3)) (fun v7 _ => C - (intOf v7).toNat)
      case atStart => exact ⟨0, ⟨Int.le_refl _⟩, ⟨by omega⟩, rfl, ⟨(by repeat (first | (with_reducible exact HB.out) | apply below_alloc | apply pw_below_drewN | apply below_drew | (refine below_set ?_ (by simp))))⟩, ⟨(by repeat (first | (with_reducible exact HB3.out) | apply below_alloc | apply pw_below_drewN | apply below_drew | (refine below_set ?_ (by simp))))⟩, ⟨(by repeat (first | (with_reducible exact HB5.out) | apply below_alloc | apply pw_below_drewN | apply below_drew | (refine below_set ?_ (by simp))))⟩⟩
      case round =>
        clear HB HB3 HB5 x0 x1 x2 x3 x4 x5 x6 x7 x8 x9 x10 x11
        obtain ⟨i, HI0, HI1, rfl, HB, HB3, HB5⟩ := hrel
        obtain ⟨x0, x1, x2, x3, x4, x5, x6, x7, x8, x9, x10, x11⟩ := box_cells (BX.out _ HB3.out)
        by_cases hil : i < C
        · have hi0 := HI0.out
          obtain ⟨hv1, hv2, hv3, hv4⟩ := HCA1.out i.toNat (by omega)
          rw [show ((i.toNat : Nat) : Int) = i by omega] at hv1 hv2 hv3 hv4
          have d3 : decide (i < (L.length : Int)) = true := decide_eq_true (by have := hCl.out; omega)
          have d4 : decide (rd L i < 1) = false := decide_eq_false (by omega)
          have d5 : decide (c.workers < rd L i) = false := decide_eq_false (by rw [HWW.out]; omega)
          have p1 : 0 ≤ i := hi0
          have p2 : i < (L.length : Int) := by have := hCl.out; omega
          obtain ⟨ad, e1, hx⟩ := Kd.at_int (Kd.C_below HLs.out HB5.out) i p1 p2
          subst e1
          have w0 : IntKind.i64.wrap (i + 1) = i + 1 := IntWalk.i64_in _ (by omega)
          have w0b : wrap64 (i + 1) = i + 1 := wrap_small (by omega) (by omega)
          replace p1 := eq_true p1
          replace p2 := eq_true p2
          by_cases hi1 : 0 < i
          · have d6 : decide (0 < i) = true := decide_eq_true hi1
            have d8 : (rd L i == rd L (i - 1)) = false := by simpa using hv3 (by omega)
            obtain ⟨i1, he1⟩ : ∃ z, z = i - 1 := ⟨_, rfl⟩
            rw [← he1] at d8
            have w1 : IntKind.i64.wrap (i - 1) = i1 := by rw [he1]; exact IntWalk.i64_in _ (by omega)
            have w1b : wrap64 (i - 1) = i1 := by rw [he1]; exact wrap_small (by omega) (by omega)
            have p3 : 0 ≤ i1 := by omega
            have p4 : i1 < (L.length : Int) := by have := hCl.out; omega
            obtain ⟨ad2, e1, hx2⟩ := Kd.at_int (Kd.C_below HLs.out HB5.out) i1 p3 p4
            cases e1
            replace p3 := eq_true p3
            replace p4 := eq_true p4
            clear he1
            by_cases hi2 : 1 < i
            · have d7 : decide (1 < i) = true := decide_eq_true hi2
              have d9 : (rd L i == rd L (i - 2)) = false := by simpa using hv4 (by omega)
              obtain ⟨i2, he2⟩ : ∃ z, z = i - 2 := ⟨_, rfl⟩
              rw [← he2] at d9
              have w2 : IntKind.i64.wrap (i - 2) = i2 := by rw [he2]; exact IntWalk.i64_in _ (by omega)
              have w2b : wrap64 (i - 2) = i2 := by rw [he2]; exact wrap_small (by omega) (by omega)
              have p5 : 0 ≤ i2 := by omega
              have p6 : i2 < (L.length : Int) := by have := hCl.out; omega
              obtain ⟨ad3, e1, hx3⟩ := Kd.at_int (Kd.C_below HLs.out HB5.out) i2 p5 p6
              cases e1
              replace p5 := eq_true p5
              replace p6 := eq_true p6
              clear he2
              clear hv1 hv2 hv3 hv4
              go_wp2
              go_quiet (fail)
              go_wp2
              go_roundw
              case rel => exact ⟨i + 1, ⟨by omega⟩, ⟨by omega⟩, by first | rfl | go_num, ⟨(by repeat (first | (with_reducible exact HB.out) | apply below_alloc | apply pw_below_drewN | apply below_drew | (refine below_set ?_ (by simp))))⟩, ⟨(by repeat (first | (with_reducible exact HB3.out) | apply below_alloc | apply pw_below_drewN | apply below_drew | (refine below_set ?_ (by simp))))⟩, ⟨(by repeat (first | (with_reducible exact HB5.out) | apply below_alloc | apply pw_below_drewN | apply below_drew | (refine below_set ?_ (by simp))))⟩⟩
              case measure => have := HI0.out; simp [intOf]; omega
            · have d7 : decide (1 < i) = false := decide_eq_false hi2
              clear hv1 hv2 hv3 hv4
              go_wp2
              go_quiet (fail)
              go_wp2
              go_roundw
              case rel => exact ⟨i + 1, ⟨by omega⟩, ⟨by omega⟩, by first | rfl | go_num, ⟨(by repeat (first | (with_reducible exact HB.out) | apply below_alloc | apply pw_below_drewN | apply below_drew | (refine below_set ?_ (by simp))))⟩, ⟨(by repeat (first | (with_reducible exact HB3.out) | apply below_alloc | apply pw_below_drewN | apply below_drew | (refine below_set ?_ (by simp))))⟩, ⟨(by repeat (first | (with_reducible exact HB5.out) | apply below_alloc | apply pw_below_drewN | apply below_drew | (refine below_set ?_ (by simp))))⟩⟩
              case measure => have := HI0.out; simp [intOf]; omega
          · have d6 : decide (0 < i) = false := decide_eq_false hi1
            have d7 : decide (1 < i) = false := decide_eq_false (by omega)
            clear hv1 hv2 hv3 hv4
            go_wp2
            go_quiet (fail)
            go_wp2
            go_roundw
            case rel => exact ⟨i + 1, ⟨by omega⟩, ⟨by omega⟩, by first | rfl | go_num, ⟨(by repeat (first | (with_reducible exact HB.out) | apply below_alloc | apply pw_below_drewN | apply below_drew | (refine below_set ?_ (by simp))))⟩, ⟨(by repeat (first | (with_reducible exact HB3.out) | apply below_alloc | apply pw_below_drewN | apply below_drew | (refine below_set ?_ (by simp))))⟩, ⟨(by repeat (first | (with_reducible exact HB5.out) | apply below_alloc | apply pw_below_drewN | apply below_drew | (refine below_set ?_ (by simp))))⟩⟩
            case measure => have := HI0.out; simp [intOf]; omega
        · have d3 : decide (i < (L.length : Int)) = false := decide_eq_false (by have := hCl.out; omega)
          have hi2 := HI1.out
          have HV2 := Aside0.mk (fun (W : World) (hb : Below w'.heap.size w' W) => Kd.R_V (base' := W.heap.size) (Kd.R_below HL2.out hb))
          go_wp2_with (first | (go_at_call 41; (with_reducible refine (place_Words.calls kX A0 c0 c.ws A1 c1 c.cs c.workers c.copies c.slots c.batch c.lease c.hedge c.first c.cap c.jitter c.net _ _ _ (Kd.C_below HR0.out (by repeat (first | (with_reducible exact HB.out) | apply below_alloc | apply pw_below_drewN | apply below_drew | (refine below_set ?_ (by simp))))) hc0 (Kd.C_below HR1.out (by repeat (first | (with_reducible exact HB.out) | apply below_alloc | apply pw_below_drewN | apply below_drew | (refine below_set ?_ (by simp))))) hc1 HX1.out).mono ?_); rintro e w' ⟨v10, rfl, hv, hb⟩; obtain ⟨A10, c10, e10, hc10, hC10⟩ := Kd.R_reads hv; subst e10; have HV3 := Aside0.mk hv; clear hC10 hv; have n0_ := Aside0.mk (below_step (by repeat (first | (with_reducible exact HB.out) | apply below_alloc | apply pw_below_drewN | apply below_drew | (refine below_set ?_ (by simp)))) hb); have n1_ := Aside0.mk (below_step (by repeat (first | (with_reducible exact HB3.out) | apply below_alloc | apply pw_below_drewN | apply below_drew | (refine below_set ?_ (by simp)))) hb); have n2_ := Aside0.mk (below_step (by repeat (first | (with_reducible exact HB5.out) | apply below_alloc | apply pw_below_drewN | apply below_drew | (refine below_set ?_ (by simp)))) hb); clear HB HB3 HB5 hb x0 x1 x2 x3 x4 x5 x6 x7 x8 x9 x10 x11; have HB := n0_; have HB3 := n1_; have HB5 := n2_; clear n0_ n1_ n2_; obtain ⟨x0, x1, x2, x3, x4, x5, x6, x7, x8, x9, x10, x11⟩ := box_cells (BX.out _ HB3.out)) | (go_at_call 34; (with_reducible refine (list_Merge.calls kU (fun _ => True) A5 c5 U (fun _ => True) A10 c10 X _ _ (HV2.out _ (by repeat (first | (with_reducible exact HB5.out) | apply below_alloc | apply pw_below_drewN | apply below_drew | (refine below_set ?_ (by simp))))) (Kd.R_V HV3.out) HU1.out).mono ?_); rintro e w' ⟨v11, rfl, hv, hb⟩; have HR5 := Aside0.mk (Kd.R_mono hv (fun _ _ => trivial)); clear hv; have n0_ := Aside0.mk (below_step (by repeat (first | (with_reducible exact HB.out) | apply below_alloc | apply pw_below_drewN | apply below_drew | (refine below_set ?_ (by simp)))) hb); have n1_ := Aside0.mk (below_step (by repeat (first | (with_reducible exact HB3.out) | apply below_alloc | apply pw_below_drewN | apply below_drew | (refine below_set ?_ (by simp)))) hb); have n2_ := Aside0.mk (below_step (by repeat (first | (with_reducible exact HB5.out) | apply below_alloc | apply pw_below_drewN | apply below_drew | (refine below_set ?_ (by simp)))) hb); clear HB HB3 HB5 hb x0 x1 x2 x3 x4 x5 x6 x7 x8 x9 x10 x11; have HB := n0_; have HB3 := n1_; have HB5 := n2_; clear n0_ n1_ n2_; obtain ⟨x0, x1, x2, x3, x4, x5, x6, x7, x8, x9, x10, x11⟩ := box_cells (BX.out _ HB3.out)))
          go_roundw
          case rel => exact ⟨j + 1, _, by omega, by go_num, ⟨by rw [← hU2'.out]; exact HR5.out⟩, HB, HB3⟩
          case measure => simp [intOf]; omega
    · have e : j = n := by omega
      subst e
      have d1 : decide ((j : Int) < (j : Int)) = false := decide_eq_false (by omega)
      obtain ⟨A5, c5, e5, hc5, hC5⟩ := Kd.R_reads HL.out
      rw [HUn.out] at e5 hC5 hc5
      subst e5
      have HC5 := Aside0.mk hC5
      clear hC5 HL
      go_wp2_with ((go_at_call 39; (with_reducible refine (place_Shards.calls kS A0 c0 c.ws A1 c1 c.cs c.workers c.copies c.slots c.batch c.lease c.hedge c.first c.cap c.jitter c.net _ _ (Kd.C_below HR0.out (by repeat (first | (with_reducible exact HB.out) | apply below_alloc | apply pw_below_drewN | apply below_drew | (refine below_set ?_ (by simp))))) hc0 (Kd.C_below HR1.out (by repeat (first | (with_reducible exact HB.out) | apply below_alloc | apply pw_below_drewN | apply below_drew | (refine below_set ?_ (by simp))))) hc1 HS.out).mono ?_); rintro e w' ⟨rfl, hb⟩; have n0_ := Aside0.mk (below_step (by repeat (first | (with_reducible exact HB.out) | apply below_alloc | apply pw_below_drewN | apply below_drew | (refine below_set ?_ (by simp)))) hb); have n1_ := Aside0.mk (below_step (by repeat (first | (with_reducible exact HB3.out) | apply below_alloc | apply pw_below_drewN | apply below_drew | (refine below_set ?_ (by simp)))) hb); have n2_ := Aside0.mk (below_step (by repeat (first | (with_reducible exact HB5.out) | apply below_alloc | apply pw_below_drewN | apply below_drew | (refine below_set ?_ (by simp)))) hb); clear HB HB3 HB5 hb x0 x1 x2 x3 x4 x5 x6 x7 x8 x9 x10 x11; have HB := n0_; have HB3 := n1_; have HB5 := n2_; clear n0_ n1_ n2_; obtain ⟨x0, x1, x2, x3, x4, x5, x6, x7, x8, x9, x10, x11⟩ := box_cells (BX.out _ HB3.out)))
      have HC6 := Aside0.mk (fun (W : World) (hb : Below w4.heap.size w4 W) => hb)
      clear HC6
      have HC6 := Aside0.mk (Kd.C_below HC5.out HB5.out)
      clear HC5 HB5
      obtain ⟨w5, hw5⟩ : ∃ w5, w5 = w' := ⟨_, rfl⟩
      rw [← hw5] at HC6
      have HB5 := Aside0.mk (show Below w5.heap.size w5 w' by rw [hw5]; exact Below.refl _ _)
      clear hw5
      go_loopw [3, 8] (fun v3 v8 w6 => ∃ (q t : Int), Aside0 (1 ≤ q) ∧ Aside0 (q ≤ W + 1) ∧ v8 = .int .i64 q ∧ v3 = .int .i64 t ∧ Aside0 (t = (sumK j W C (q - 1).toNat : Int)) ∧ Aside0 (Below w.heap.size w w6) ∧ Aside0 (Below w4.heap.size w4 w6) ∧ Aside0 (Below w5.heap.size w5 w6)) (fun _ v8 _ => W + 1 - (intOf v8).toNat)
      case atStart => exact ⟨1, 0, ⟨Int.le_refl _⟩, ⟨by omega⟩, rfl, rfl, ⟨rfl⟩, ⟨(by repeat (first | (with_reducible exact HB.out) | apply below_alloc | apply pw_below_drewN | apply below_drew | (refine below_set ?_ (by simp))))⟩, ⟨(by repeat (first | (with_reducible exact HB3.out) | apply below_alloc | apply pw_below_drewN | apply below_drew | (refine below_set ?_ (by simp))))⟩, ⟨(by repeat (first | (with_reducible exact HB5.out) | apply below_alloc | apply pw_below_drewN | apply below_drew | (refine below_set ?_ (by simp))))⟩⟩
      case round =>
        clear HB HB3 HB5 x0 x1 x2 x3 x4 x5 x6 x7 x8 x9 x10 x11
        obtain ⟨q, t, HQ1, HQ2, rfl, rfl, HT, HB, HB3, HB5⟩ := hrel
        obtain ⟨x0, x1, x2, x3, x4, x5, x6, x7, x8, x9, x10, x11⟩ := box_cells (BX.out _ HB3.out)
        by_cases hql : q ≤ W
        · have d2 : decide (q ≤ c.workers) = true := decide_eq_true (by rw [HWW.out]; exact hql)
          obtain ⟨kK, hK⟩ := HKP.out q
          have HK1 := Aside0.mk hK
          clear hK
          have HKl := Aside0.mk (HKC.out q)
          have HKm := Aside0.mk (HKM.out q)
          have HKr := Aside0.mk (fun i h1 h2 => keeps_rise c q i h1 h2)
          generalize keepsOf c q = K at HK1 HKl HKm HKr
          go_wp2_with ((go_at_call 28; (with_reducible refine (place_Keeps.calls kK A0 c0 c.ws A1 c1 c.cs c.workers c.copies c.slots c.batch c.lease c.hedge c.first c.cap c.jitter c.net _ _ _ (Kd.C_below HR0.out (by repeat (first | (with_reducible exact HB.out) | apply below_alloc | apply pw_below_drewN | apply below_drew | (refine below_set ?_ (by simp))))) hc0 (Kd.C_below HR1.out (by repeat (first | (with_reducible exact HB.out) | apply below_alloc | apply pw_below_drewN | apply below_drew | (refine below_set ?_ (by simp))))) hc1 HK1.out).mono ?_); rintro e w' ⟨v10, rfl, hv, hb⟩; obtain ⟨A10, c10, e10, hc10, hC10⟩ := Kd.R_reads hv; subst e10; have HKs := Aside0.mk hC10; clear hC10 hv; have n0_ := Aside0.mk (below_step (by repeat (first | (with_reducible exact HB.out) | apply below_alloc | apply pw_below_drewN | apply below_drew | (refine below_set ?_ (by simp)))) hb); have n1_ := Aside0.mk (below_step (by repeat (first | (with_reducible exact HB3.out) | apply below_alloc | apply pw_below_drewN | apply below_drew | (refine below_set ?_ (by simp)))) hb); have n2_ := Aside0.mk (below_step (by repeat (first | (with_reducible exact HB5.out) | apply below_alloc | apply pw_below_drewN | apply below_drew | (refine below_set ?_ (by simp)))) hb); clear HB HB3 HB5 hb x0 x1 x2 x3 x4 x5 x6 x7 x8 x9 x10 x11; have HB := n0_; have HB3 := n1_; have HB5 := n2_; clear n0_ n1_ n2_; obtain ⟨x0, x1, x2, x3, x4, x5, x6, x7, x8, x9, x10, x11⟩ := box_cells (BX.out _ HB3.out); have HB6 := Aside0.mk (Below.refl w'.heap.size w')))
          have HKc : ∀ (i : Int), 0 ≤ i → i < (K.length : Int) → ∃ ad, A10 = some ad ∧ ∀ W, Below w'.heap.size w' W → W.cell? (ad.add i.toNat) = some (.int .i64 (rd K i)) := fun i h0 h1 => by
            obtain ⟨ad, e1, _⟩ := Kd.at_int HKs.out i h0 h1
            refine ⟨ad, e1, fun W hb => ?_⟩
            obtain ⟨ad2, e2, h2⟩ := Kd.at_int (Kd.C_below HKs.out hb) i h0 h1
            rw [e1] at e2
            cases e2
            exact h2
          have HKc := Aside0.mk HKc
          have HKn : K.length ≤ 6 := by
            have := List.length_filter_le (fun s => (copiesL W C s).any fun y => decide (q = y)) (List.range j)
            rw [List.length_range] at this
            rw [HKl.out]
            exact Nat.le_trans this hn7
          obtain ⟨w7, hw7⟩ : ∃ w7, w7 = w' := ⟨_, rfl⟩
          rw [← hw7] at HKc
          have HB6 := Aside0.mk (show Below w7.heap.size w7 w' by rw [hw7]; exact Below.refl _ _)
          clear hw7 HKs
          go_loopw [10] (fun v10 w8 => ∃ i : Int, Aside0 (0 ≤ i) ∧ Aside0 (i ≤ (K.length : Int)) ∧ v10 = .int .i64 i ∧ Aside0 (Below w.heap.size w w8) ∧ Aside0 (Below w4.heap.size w4 w8) ∧ Aside0 (Below w5.heap.size w5 w8) ∧ Aside0 (Below w7.heap.size w7 w8)) (fun v10 _ => K.length - (intOf v10).toNat)
          case atStart => exact ⟨0, ⟨Int.le_refl _⟩, ⟨by omega⟩, rfl, ⟨(by repeat (first | (with_reducible exact HB.out) | apply below_alloc | apply pw_below_drewN | apply below_drew | (refine below_set ?_ (by simp))))⟩, ⟨(by repeat (first | (with_reducible exact HB3.out) | apply below_alloc | apply pw_below_drewN | apply below_drew | (refine below_set ?_ (by simp))))⟩, ⟨(by repeat (first | (with_reducible exact HB5.out) | apply below_alloc | apply pw_below_drewN | apply below_drew | (refine below_set ?_ (by simp))))⟩, ⟨(by repeat (first | (with_reducible exact HB6.out) | apply below_alloc | apply pw_below_drewN | apply below_drew | (refine below_set ?_ (by simp))))⟩⟩
          case round =>
            clear HB HB3 HB5 HB6 x0 x1 x2 x3 x4 x5 x6 x7 x8 x9 x10 x11
            obtain ⟨i, HI0, HI1, rfl, HB, HB3, HB5, HB6⟩ := hrel
            obtain ⟨x0, x1, x2, x3, x4, x5, x6, x7, x8, x9, x10, x11⟩ := box_cells (BX.out _ HB3.out)
            by_cases hil : i < (K.length : Int)
            · have d3 : decide (i < (K.length : Int)) = true := decide_eq_true hil
              have hi0 := HI0.out
              obtain ⟨s, hsn, hsv, hsa⟩ := HKm.out i.toNat (by omega)
              rw [show ((i.toNat : Nat) : Int) = i by omega] at hsv
              obtain ⟨ad, e1, hx⟩ := HKc.out i hi0 hil
              subst e1
              rw [hsv] at hx
              have HX := Aside0.mk hx
              obtain ⟨kC, hK⟩ := HCP.out (s : Int)
              rw [HCO.out s hsn] at hK
              have HC1 := Aside0.mk hK
              clear hK hx
              have hCl := Aside0.mk (show (copiesL W C s).length = C by simp [copiesL])
              have HSA2 := Aside0.mk hsa
              have HSV := Aside0.mk hsv
              clear hsa hsv
              generalize copiesL W C s = L at HC1 hCl HSA2
              obtain ⟨z, hz⟩ : ∃ z : Int, z = (s : Int) := ⟨_, rfl⟩
              rw [← hz] at HX HC1 HSV
              clear hz
              have p1 : (0 ≤ i) = True := eq_true hi0
              have p2 : (i < (K.length : Int)) = True := eq_true hil
              go_wp2
              refine start_ (n := 7) (S := fun w' => w'.cell? ⟨gb, 0, none⟩ = some (.slice A0 c.ws.length c0) ∧ w'.cell? ⟨gb, 1, none⟩ = some (.slice A1 c.cs.length c1) ∧ w'.cell? ⟨gb, 2, none⟩ = some (.int .i64 c.workers) ∧ w'.cell? ⟨gb, 3, none⟩ = some (.int .i64 c.copies) ∧ w'.cell? ⟨gb, 4, none⟩ = some (.int .i64 c.slots) ∧ w'.cell? ⟨gb, 5, none⟩ = some (.int .i64 c.batch) ∧ w'.cell? ⟨gb, 6, none⟩ = some (.int .i64 c.lease) ∧ w'.cell? ⟨gb, 7, none⟩ = some (.int .i64 c.hedge) ∧ w'.cell? ⟨gb, 8, none⟩ = some (.int .i64 c.first) ∧ w'.cell? ⟨gb, 9, none⟩ = some (.int .i64 c.cap) ∧ w'.cell? ⟨gb, 10, none⟩ = some (.int .i64 c.jitter) ∧ w'.cell? ⟨gb, 11, none⟩ = some (.int .i64 c.net) ∧ w'.cell? (ad.add i.toNat) = some (.int .i64 z)) (ds := []) #[false, false, false, false, false, false, false] (by kernel_rfl) rfl rfl ⟨(box_cells (BX.out _ (by repeat (first | (with_reducible exact HB3.out) | apply below_alloc | apply pw_below_drewN | apply below_drew | (refine below_set ?_ (by simp)))))).1, (box_cells (BX.out _ (by repeat (first | (with_reducible exact HB3.out) | apply below_alloc | apply pw_below_drewN | apply below_drew | (refine below_set ?_ (by simp)))))).2.1, (box_cells (BX.out _ (by repeat (first | (with_reducible exact HB3.out) | apply below_alloc | apply pw_below_drewN | apply below_drew | (refine below_set ?_ (by simp)))))).2.2.1, (box_cells (BX.out _ (by repeat (first | (with_reducible exact HB3.out) | apply below_alloc | apply pw_below_drewN | apply below_drew | (refine below_set ?_ (by simp)))))).2.2.2.1, (box_cells (BX.out _ (by repeat (first | (with_reducible exact HB3.out) | apply below_alloc | apply pw_below_drewN | apply below_drew | (refine below_set ?_ (by simp)))))).2.2.2.2.1, (box_cells (BX.out _ (by repeat (first | (with_reducible exact HB3.out) | apply below_alloc | apply pw_below_drewN | apply below_drew | (refine below_set ?_ (by simp)))))).2.2.2.2.2.1, (box_cells (BX.out _ (by repeat (first | (with_reducible exact HB3.out) | apply below_alloc | apply pw_below_drewN | apply below_drew | (refine below_set ?_ (by simp)))))).2.2.2.2.2.2.1, (box_cells (BX.out _ (by repeat (first | (with_reducible exact HB3.out) | apply below_alloc | apply pw_below_drewN | apply below_drew | (refine below_set ?_ (by simp)))))).2.2.2.2.2.2.2.1, (box_cells (BX.out _ (by repeat (first | (with_reducible exact HB3.out) | apply below_alloc | apply pw_below_drewN | apply below_drew | (refine below_set ?_ (by simp)))))).2.2.2.2.2.2.2.2.1, (box_cells (BX.out _ (by repeat (first | (with_reducible exact HB3.out) | apply below_alloc | apply pw_below_drewN | apply below_drew | (refine below_set ?_ (by simp)))))).2.2.2.2.2.2.2.2.2.1, (box_cells (BX.out _ (by repeat (first | (with_reducible exact HB3.out) | apply below_alloc | apply pw_below_drewN | apply below_drew | (refine below_set ?_ (by simp)))))).2.2.2.2.2.2.2.2.2.2.1, (box_cells (BX.out _ (by repeat (first | (with_reducible exact HB3.out) | apply below_alloc | apply pw_below_drewN | apply below_drew | (refine below_set ?_ (by simp)))))).2.2.2.2.2.2.2.2.2.2.2, HX.out _ (by repeat (first | (with_reducible exact HB6.out) | apply below_alloc | apply pw_below_drewN | apply below_drew | (refine below_set ?_ (by simp))))⟩ (fun hHeld => ?_)
              refine pure_ (i := 1) (N := some 109) (v := ?_) (a' := ?_) #[false, true, false, false, false, false, false] rfl rfl (by kernel_rfl) (fun _ _ _ h => h) (Or.inl ⟨by rfl, ?_⟩) ?_ ?_
              rotate_left
              · intro w'
                go_simp
                with_reducible rfl
              rotate_left
              · simp only [Act.put, List.setIfInBounds_toArray, List.set_cons_zero, List.set_cons_succ, i64_w, i32_w]
                rfl
              refine pure_ (i := 2) (N := some 110) (v := ?_) (a' := ?_) #[false, true, true, false, false, false, false] rfl rfl (by kernel_rfl) (fun _ _ _ h => h) (Or.inl ⟨by rfl, ?_⟩) ?_ ?_
              rotate_left
              · intro w'
                go_simp
                with_reducible rfl
              rotate_left
              · simp only [Act.put, List.setIfInBounds_toArray, List.set_cons_zero, List.set_cons_succ, i64_w, i32_w]
                rfl
              refine pure_ (i := 3) (N := some 111) (v := ?_) (a' := ?_) #[false, true, true, true, false, false, false] rfl rfl (by kernel_rfl) (fun _ _ _ h => h) (Or.inl ⟨by rfl, ?_⟩) ?_ ?_
              rotate_left
              · intro w'
                go_simp
                with_reducible rfl
              rotate_left
              · simp only [Act.put, List.setIfInBounds_toArray, List.set_cons_zero, List.set_cons_succ, i64_w, i32_w]
                rfl
              refine take_ (i := 0) (N := some 108) (v := ?_) (a' := ?_) #[true, true, true, true, false, false, false] rfl rfl (by kernel_rfl) (fun _ _ _ h => h) (Or.inl ⟨by rfl, ?_⟩) hHeld ?_ ?_
              rotate_left
              · rintro w' ⟨s0, s1, s2, s3, s4, s5, s6, s7, s8, s9, s10, s11, s12⟩
                go_simp
                with_reducible rfl
              rotate_left
              · simp only [Act.put, List.setIfInBounds_toArray, List.set_cons_zero, List.set_cons_succ, i64_w, i32_w]
                rfl
              refine take_ (i := 4) (N := some 112) (v := ?_) (a' := ?_) #[true, true, true, true, true, false, false] rfl rfl (by kernel_rfl) (fun _ _ _ h => h) (Or.inl ⟨by rfl, ?_⟩) hHeld ?_ ?_
              rotate_left
              · rintro w' ⟨s0, s1, s2, s3, s4, s5, s6, s7, s8, s9, s10, s11, s12⟩
                go_simp
                with_reducible rfl
              rotate_left
              · simp only [Act.put, List.setIfInBounds_toArray, List.set_cons_zero, List.set_cons_succ, i64_w, i32_w]
                rfl
              refine one_ (i := 5) (N := some 113) #[true, true, true, true, true, true, false] rfl rfl (by kernel_rfl) (by decide) (fun K hK => ?_)
              refine goes_ Try.func40 (by kernel_rfl) rfl #[.agg #[.slice A0 c.ws.length c0, .slice A1 c.cs.length c1, .int .i64 c.workers, .int .i64 c.copies, .int .i64 c.slots, .int .i64 c.batch, .int .i64 c.lease, .int .i64 c.hedge, .int .i64 c.first, .int .i64 c.cap, .int .i64 c.jitter, .int .i64 c.net], .int .i64 z] (by rfl) rfl rfl (by simp only [List.map_toArray, List.map_cons, List.map_nil] <;> rfl) ?_
              with_reducible refine (place_Copies.calls kC A0 c0 c.ws A1 c1 c.cs c.workers c.copies c.slots c.batch c.lease c.hedge c.first c.cap c.jitter c.net _ _ _ (Kd.C_below HR0.out (by repeat (first | (with_reducible exact HB.out) | apply below_alloc | apply pw_below_drewN | apply below_drew | (refine below_set ?_ (by simp))))) hc0 (Kd.C_below HR1.out (by repeat (first | (with_reducible exact HB.out) | apply below_alloc | apply pw_below_drewN | apply below_drew | (refine below_set ?_ (by simp))))) hc1 HC1.out).mono ?_
              rintro e w3 ⟨v12, rfl, hv, hb⟩
              refine ⟨_, rfl, ?_⟩
              obtain ⟨A12, c12, e12, hc12, hC12⟩ := Kd.R_reads hv
              subst e12
              have HLs := Aside0.mk hC12
              have n0_ := Aside0.mk (below_step (by repeat (first | (with_reducible exact HB.out) | apply below_alloc | apply pw_below_drewN | apply below_drew | (refine below_set ?_ (by simp)))) hb)
              have n1_ := Aside0.mk (below_step (by repeat (first | (with_reducible exact HB3.out) | apply below_alloc | apply pw_below_drewN | apply below_drew | (refine below_set ?_ (by simp)))) hb)
              have n2_ := Aside0.mk (below_step (by repeat (first | (with_reducible exact HB5.out) | apply below_alloc | apply pw_below_drewN | apply below_drew | (refine below_set ?_ (by simp)))) hb)
              have n3_ := Aside0.mk (below_step (by repeat (first | (with_reducible exact HB6.out) | apply below_alloc | apply pw_below_drewN | apply below_drew | (refine below_set ?_ (by simp)))) hb)
              clear HB HB3 HB5 HB6 hb hv hC12
              have HB := n0_
              have HB3 := n1_
              have HB5 := n2_
              have HB6 := n3_
              clear n0_ n1_ n2_ n3_
              have HB7 := Aside0.mk (Below.refl w3.heap.size w3)
              refine hK.out _ _ ⟨(box_cells (BX.out _ HB3.out)).1, (box_cells (BX.out _ HB3.out)).2.1, (box_cells (BX.out _ HB3.out)).2.2.1, (box_cells (BX.out _ HB3.out)).2.2.2.1, (box_cells (BX.out _ HB3.out)).2.2.2.2.1, (box_cells (BX.out _ HB3.out)).2.2.2.2.2.1, (box_cells (BX.out _ HB3.out)).2.2.2.2.2.2.1, (box_cells (BX.out _ HB3.out)).2.2.2.2.2.2.2.1, (box_cells (BX.out _ HB3.out)).2.2.2.2.2.2.2.2.1, (box_cells (BX.out _ HB3.out)).2.2.2.2.2.2.2.2.2.1, (box_cells (BX.out _ HB3.out)).2.2.2.2.2.2.2.2.2.2.1, (box_cells (BX.out _ HB3.out)).2.2.2.2.2.2.2.2.2.2.2, HX.out _ HB6.out⟩ (fun hHeld => ?_)
              clear hK K
              refine norm_ (a' := ?_) ?_ ?_
              rotate_left
              · show Act.put _ (some 113) _ = _
                simp only [Act.put, List.setIfInBounds_toArray, List.set_cons_zero, List.set_cons_succ, i64_w, i32_w]
                rfl
              refine pure_ (i := 6) (N := some 11) (v := ?_) (a' := ?_) #[true, true, true, true, true, true, true] rfl rfl (by kernel_rfl) (fun _ _ _ h => h) (Or.inl ⟨by rfl, ?_⟩) ?_ ?_
              rotate_left
              · intro w'
                go_simp
                with_reducible rfl
              rotate_left
              · simp only [Act.put, List.setIfInBounds_toArray, List.set_cons_zero, List.set_cons_succ, i64_w, i32_w]
                rfl
              refine done_ (by kernel_rfl) ?_
              obtain ⟨w9, hw9⟩ : ∃ w9, w9 = w3 := ⟨_, rfl⟩
              rw [← hw9] at HLs
              have HB8 := Aside0.mk (show Below w9.heap.size w9 w3 by rw [hw9]; exact Below.refl _ _)
              clear hw9 HB7
              have HB7 := HB8
              clear HB8 x0 x1 x2 x3 x4 x5 x6 x7 x8 x9 x10 x11
              obtain ⟨x0, x1, x2, x3, x4, x5, x6, x7, x8, x9, x10, x11⟩ := box_cells (BX.out _ HB3.out)
              go_wp2
              go_loopw [12, 13] (fun v12 v13 w8 => ∃ (m : Int) (b : Bool), Aside0 (0 ≤ m) ∧ Aside0 (m ≤ (L.length : Int)) ∧ v13 = .int .i64 m ∧ v12 = .bool b ∧ Aside0 (b = (L.take m.toNat).any fun y => decide (q = y)) ∧ Aside0 (Below w.heap.size w w8) ∧ Aside0 (Below w4.heap.size w4 w8) ∧ Aside0 (Below w5.heap.size w5 w8) ∧ Aside0 (Below w7.heap.size w7 w8) ∧ Aside0 (Below w9.heap.size w9 w8)) (fun _ v13 _ => L.length - (intOf v13).toNat)
              case atStart => exact ⟨0, false, ⟨Int.le_refl _⟩, ⟨by omega⟩, rfl, rfl, ⟨rfl⟩, ⟨(by repeat (first | (with_reducible exact HB.out) | apply below_alloc | apply pw_below_drewN | apply below_drew | (refine below_set ?_ (by simp))))⟩, ⟨(by repeat (first | (with_reducible exact HB3.out) | apply below_alloc | apply pw_below_drewN | apply below_drew | (refine below_set ?_ (by simp))))⟩, ⟨(by repeat (first | (with_reducible exact HB5.out) | apply below_alloc | apply pw_below_drewN | apply below_drew | (refine below_set ?_ (by simp))))⟩, ⟨(by repeat (first | (with_reducible exact HB6.out) | apply below_alloc | apply pw_below_drewN | apply below_drew | (refine below_set ?_ (by simp))))⟩, ⟨(by repeat (first | (with_reducible exact HB7.out) | apply below_alloc | apply pw_below_drewN | apply below_drew | (refine below_set ?_ (by simp))))⟩⟩
              case round =>
                clear HB HB3 HB5 HB6 HB7 x0 x1 x2 x3 x4 x5 x6 x7 x8 x9 x10 x11
                obtain ⟨m, b, HM0, HM1, rfl, rfl, HBB, HB, HB3, HB5, HB6, HB7⟩ := hrel
                by_cases hml : m < (L.length : Int)
                · have d5 : decide (m < (L.length : Int)) = true := decide_eq_true hml
                  have hm0 := HM0.out
                  have hCl' := hCl.out
                  obtain ⟨ad0, e1, hx0⟩ := Kd.at_int (Kd.C_below HLs.out HB7.out) m hm0 hml
                  subst e1
                  have p3 : (0 ≤ m) = True := eq_true hm0
                  have p4 : (m < (L.length : Int)) = True := eq_true hml
                  have hst : ∀ bb : Bool, bb = (b || decide (q = rd L m)) → Aside0 (bb = (L.take (m + 1).toNat).any fun y => decide (q = y)) := fun bb e => ⟨by
                    rw [e, HBB.out, show (m + 1).toNat = m.toNat + 1 by omega, List.take_succ_eq_append_getElem (by omega), List.any_append]
                    congr 1
                    have : rd L m = L[m.toNat]'(by omega) := by simp [rd, show m.toNat < L.length by omega]
                    rw [this]
                    simp⟩
                  have HST := Aside0.mk hst
                  have wm : IntKind.i64.wrap (m + 1) = m + 1 := IntWalk.i64_in _ (by omega)
                  have wmb : wrap64 (m + 1) = m + 1 := wrap_small (by omega) (by omega)
                  clear hst
                  cases b with
                  | true =>
                    go_wp2
                    go_roundw
                    case rel => exact ⟨m + 1, _, ⟨by omega⟩, ⟨by omega⟩, by first | rfl | go_num, rfl, HST.out _ rfl, HB, HB3, HB5, HB6, HB7⟩
                    case measure => have := HM0.out; simp [intOf]; omega
                  | false =>
                    go_wp2
                    go_roundw
                    case rel => exact ⟨m + 1, _, ⟨by omega⟩, ⟨by omega⟩, by first | rfl | go_num, rfl, HST.out _ (by rw [Bool.false_or]; exact decide_eq_decide.2 ⟨fun h => h.symm, fun h => h.symm⟩), HB, HB3, HB5, HB6, HB7⟩
                    case measure => have := HM0.out; simp [intOf]; omega
                · have d5 : decide (m < (L.length : Int)) = false := decide_eq_false hml
                  have hb1 : b = true := by
                    rw [HBB.out, List.take_of_length_le (by have := HM0.out; omega)]
                    exact HSA2.out
                  subst hb1
                  have wi : IntKind.i64.wrap (i + 1) = i + 1 := IntWalk.i64_in _ (by omega)
                  have wib : wrap64 (i + 1) = i + 1 := wrap_small (by omega) (by omega)
                  have hxi := HX.out _ HB6.out
                  by_cases hi1 : 0 < i
                  · have d6 : decide (0 < i) = true := decide_eq_true hi1
                    have hr := HKr.out i.toNat (by omega) (by omega)
                    rw [show ((i.toNat : Nat) : Int) = i by omega, HSV.out] at hr
                    obtain ⟨i1, he1⟩ : ∃ z, z = i - 1 := ⟨_, rfl⟩
                    rw [← he1] at hr
                    have w1 : IntKind.i64.wrap (i - 1) = i1 := by rw [he1]; exact IntWalk.i64_in _ (by omega)
                    have w1b : wrap64 (i - 1) = i1 := by rw [he1]; exact wrap_small (by omega) (by omega)
                    obtain ⟨ad4, e1, hx1⟩ := HKc.out i1 (by omega) (by omega)
                    cases e1
                    have hx1 := hx1 _ HB6.out
                    have p5 : (0 ≤ i1) = True := eq_true (by omega)
                    have p6 : (i1 < (K.length : Int)) = True := eq_true (by omega)
                    have d7 : decide (z ≤ rd K i1) = false := decide_eq_false (by omega)
                    clear he1 hr
                    go_wp2
                    go_quiet (fail)
                    go_wp2
                    go_roundw
                    case rel => exact ⟨i + 1, ⟨by omega⟩, ⟨by omega⟩, by first | rfl | go_num, ⟨(by repeat (first | (with_reducible exact HB.out) | apply below_alloc | apply pw_below_drewN | apply below_drew | (refine below_set ?_ (by simp))))⟩, ⟨(by repeat (first | (with_reducible exact HB3.out) | apply below_alloc | apply pw_below_drewN | apply below_drew | (refine below_set ?_ (by simp))))⟩, ⟨(by repeat (first | (with_reducible exact HB5.out) | apply below_alloc | apply pw_below_drewN | apply below_drew | (refine below_set ?_ (by simp))))⟩, ⟨(by repeat (first | (with_reducible exact HB6.out) | apply below_alloc | apply pw_below_drewN | apply below_drew | (refine below_set ?_ (by simp))))⟩⟩
                    case measure => have := HI0.out; simp [intOf]; omega
                  · have d6 : decide (0 < i) = false := decide_eq_false hi1
                    go_wp2
                    go_quiet (fail)
                    go_wp2
                    go_roundw
                    case rel => exact ⟨i + 1, ⟨by omega⟩, ⟨by omega⟩, by first | rfl | go_num, ⟨(by repeat (first | (with_reducible exact HB.out) | apply below_alloc | apply pw_below_drewN | apply below_drew | (refine below_set ?_ (by simp))))⟩, ⟨(by repeat (first | (with_reducible exact HB3.out) | apply below_alloc | apply pw_below_drewN | apply below_drew | (refine below_set ?_ (by simp))))⟩, ⟨(by repeat (first | (with_reducible exact HB5.out) | apply below_alloc | apply pw_below_drewN | apply below_drew | (refine below_set ?_ (by simp))))⟩, ⟨(by repeat (first | (with_reducible exact HB6.out) | apply below_alloc | apply pw_below_drewN | apply below_drew | (refine below_set ?_ (by simp))))⟩⟩
                    case measure => have := HI0.out; simp [intOf]; omega
            · have d3 : decide (i < (K.length : Int)) = false := decide_eq_false hil
              have hq1 := HQ1.out
              have hsum := HSL.out (q - 1).toNat
              have ht : t + (K.length : Int) = (sumK j W C (q + 1 - 1).toNat : Int) := by
                rw [show (q + 1 - 1).toNat = (q - 1).toNat + 1 by omega, sumK, show (((q - 1).toNat + 1 : Nat) : Int) = q by omega, HT.out, HKl.out, Int.natCast_add]
              have HT2 := Aside0.mk ht
              have ht0 := HT.out
              have wt : IntKind.i64.wrap (t + (K.length : Int)) = t + (K.length : Int) := IntWalk.i64_in _ (by omega)
              have wtb : wrap64 (t + (K.length : Int)) = t + (K.length : Int) := wrap_small (by omega) (by omega)
              have wq : IntKind.i64.wrap (q + 1) = q + 1 := IntWalk.i64_in _ (by omega)
              have wqb : wrap64 (q + 1) = q + 1 := wrap_small (by omega) (by omega)
              clear ht hsum ht0
              go_wp2
              go_roundw
              case rel => exact ⟨q + 1, _, ⟨by omega⟩, ⟨by omega⟩, by first | rfl | go_num, rfl, HT2, HB, HB3, HB5⟩
              case measure => have := HQ1.out; simp [intOf]; omega
        · have hqe : q = W + 1 := by have := HQ2.out; omega
          have d2 : decide (q ≤ c.workers) = false := decide_eq_false (by rw [HWW.out]; exact hql)
          have ht : t = ((C * j : Nat) : Int) := by
            rw [HT.out, hqe, show ((W : Int) + 1 - 1).toNat = W by omega, HSA.out]
          have htb : C * j ≤ 18 := Nat.le_trans (Nat.mul_le_mul hC3 hn7) (by omega)
          have hm1 : IntKind.i64.wrap (c.copies * (j : Int)) = t := by
            rw [HCC.out, ht, Int.natCast_mul]
            exact IntWalk.i64_in _ (by rw [← Int.natCast_mul]; omega)
          have hm2 : wrap64 (c.copies * (j : Int)) = t := by rw [← i64_w]; exact hm1
          clear ht htb HT hqe
          go_wp2
          refine start_ (n := 17) (S := fun w' => w'.cell? ⟨gb, 0, none⟩ = some (.slice A0 c.ws.length c0) ∧ w'.cell? ⟨gb, 1, none⟩ = some (.slice A1 c.cs.length c1) ∧ w'.cell? ⟨gb, 2, none⟩ = some (.int .i64 c.workers) ∧ w'.cell? ⟨gb, 3, none⟩ = some (.int .i64 c.copies) ∧ w'.cell? ⟨gb, 4, none⟩ = some (.int .i64 c.slots) ∧ w'.cell? ⟨gb, 5, none⟩ = some (.int .i64 c.batch) ∧ w'.cell? ⟨gb, 6, none⟩ = some (.int .i64 c.lease) ∧ w'.cell? ⟨gb, 7, none⟩ = some (.int .i64 c.hedge) ∧ w'.cell? ⟨gb, 8, none⟩ = some (.int .i64 c.first) ∧ w'.cell? ⟨gb, 9, none⟩ = some (.int .i64 c.cap) ∧ w'.cell? ⟨gb, 10, none⟩ = some (.int .i64 c.jitter) ∧ w'.cell? ⟨gb, 11, none⟩ = some (.int .i64 c.net)) (ds := []) #[false, false, false, false, false, false, false, false, false, false, false, false, false, false, false, false, false] (by kernel_rfl) rfl rfl ⟨(box_cells (BX.out _ (by repeat (first | (with_reducible exact HB3.out) | apply below_alloc | apply pw_below_drewN | apply below_drew | (refine below_set ?_ (by simp)))))).1, (box_cells (BX.out _ (by repeat (first | (with_reducible exact HB3.out) | apply below_alloc | apply pw_below_drewN | apply below_drew | (refine below_set ?_ (by simp)))))).2.1, (box_cells (BX.out _ (by repeat (first | (with_reducible exact HB3.out) | apply below_alloc | apply pw_below_drewN | apply below_drew | (refine below_set ?_ (by simp)))))).2.2.1, (box_cells (BX.out _ (by repeat (first | (with_reducible exact HB3.out) | apply below_alloc | apply pw_below_drewN | apply below_drew | (refine below_set ?_ (by simp)))))).2.2.2.1, (box_cells (BX.out _ (by repeat (first | (with_reducible exact HB3.out) | apply below_alloc | apply pw_below_drewN | apply below_drew | (refine below_set ?_ (by simp)))))).2.2.2.2.1, (box_cells (BX.out _ (by repeat (first | (with_reducible exact HB3.out) | apply below_alloc | apply pw_below_drewN | apply below_drew | (refine below_set ?_ (by simp)))))).2.2.2.2.2.1, (box_cells (BX.out _ (by repeat (first | (with_reducible exact HB3.out) | apply below_alloc | apply pw_below_drewN | apply below_drew | (refine below_set ?_ (by simp)))))).2.2.2.2.2.2.1, (box_cells (BX.out _ (by repeat (first | (with_reducible exact HB3.out) | apply below_alloc | apply pw_below_drewN | apply below_drew | (refine below_set ?_ (by simp)))))).2.2.2.2.2.2.2.1, (box_cells (BX.out _ (by repeat (first | (with_reducible exact HB3.out) | apply below_alloc | apply pw_below_drewN | apply below_drew | (refine below_set ?_ (by simp)))))).2.2.2.2.2.2.2.2.1, (box_cells (BX.out _ (by repeat (first | (with_reducible exact HB3.out) | apply below_alloc | apply pw_below_drewN | apply below_drew | (refine below_set ?_ (by simp)))))).2.2.2.2.2.2.2.2.2.1, (box_cells (BX.out _ (by repeat (first | (with_reducible exact HB3.out) | apply below_alloc | apply pw_below_drewN | apply below_drew | (refine below_set ?_ (by simp)))))).2.2.2.2.2.2.2.2.2.2.1, (box_cells (BX.out _ (by repeat (first | (with_reducible exact HB3.out) | apply below_alloc | apply pw_below_drewN | apply below_drew | (refine below_set ?_ (by simp)))))).2.2.2.2.2.2.2.2.2.2.2⟩ (fun hHeld => ?_)
          refine pure_ (i := 0) (N := some 151) (v := ?_) (a' := ?_) #[true, false, false, false, false, false, false, false, false, false, false, false, false, false, false, false, false] rfl rfl (by kernel_rfl) (fun _ _ _ h => h) (Or.inl ⟨by rfl, ?_⟩) ?_ ?_
          rotate_left
          · intro w'
            go_simp
            with_reducible rfl
          rotate_left
          · simp only [Act.put, List.setIfInBounds_toArray, List.set_cons_zero, List.set_cons_succ, i64_w, i32_w]
            rfl
          refine pure_ (i := 1) (N := some 152) (v := ?_) (a' := ?_) #[true, true, false, false, false, false, false, false, false, false, false, false, false, false, false, false, false] rfl rfl (by kernel_rfl) (fun _ _ _ h => h) (Or.inl ⟨by rfl, ?_⟩) ?_ ?_
          rotate_left
          · intro w'
            go_simp
            with_reducible rfl
          rotate_left
          · simp only [Act.put, List.setIfInBounds_toArray, List.set_cons_zero, List.set_cons_succ, i64_w, i32_w]
            rfl
          refine take_ (i := 2) (N := some 153) (v := ?_) (a' := ?_) #[true, true, true, false, false, false, false, false, false, false, false, false, false, false, false, false, false] rfl rfl (by kernel_rfl) (fun _ _ _ h => h) (Or.inl ⟨by rfl, ?_⟩) hHeld ?_ ?_
          rotate_left
          · rintro w' ⟨s0, s1, s2, s3, s4, s5, s6, s7, s8, s9, s10, s11⟩
            go_simp
            with_reducible rfl
          rotate_left
          · simp only [Act.put, List.setIfInBounds_toArray, List.set_cons_zero, List.set_cons_succ, i64_w, i32_w]
            rfl
          refine take_ (i := 3) (N := some 154) (v := ?_) (a' := ?_) #[true, true, true, true, false, false, false, false, false, false, false, false, false, false, false, false, false] rfl rfl (by kernel_rfl) (fun _ _ _ h => h) (Or.inl ⟨by rfl, ?_⟩) hHeld ?_ ?_
          rotate_left
          · rintro w' ⟨s0, s1, s2, s3, s4, s5, s6, s7, s8, s9, s10, s11⟩
            go_simp
            with_reducible rfl
          rotate_left
          · simp only [Act.put, List.setIfInBounds_toArray, List.set_cons_zero, List.set_cons_succ, i64_w, i32_w]
            rfl
          refine one_ (i := 4) (N := some 155) #[true, true, true, true, true, false, false, false, false, false, false, false, false, false, false, false, false] rfl rfl (by kernel_rfl) (by decide) (fun K hK => ?_)
          refine goes_ Try.func39 (by kernel_rfl) rfl #[.agg #[.slice A0 c.ws.length c0, .slice A1 c.cs.length c1, .int .i64 c.workers, .int .i64 c.copies, .int .i64 c.slots, .int .i64 c.batch, .int .i64 c.lease, .int .i64 c.hedge, .int .i64 c.first, .int .i64 c.cap, .int .i64 c.jitter, .int .i64 c.net]] (by rfl) rfl rfl (by simp only [List.map_toArray, List.map_cons, List.map_nil] <;> rfl) ?_
          with_reducible refine (place_Shards.calls kS A0 c0 c.ws A1 c1 c.cs c.workers c.copies c.slots c.batch c.lease c.hedge c.first c.cap c.jitter c.net _ _ (Kd.C_below HR0.out (by repeat (first | (with_reducible exact HB.out) | apply below_alloc | apply pw_below_drewN | apply below_drew | (refine below_set ?_ (by simp))))) hc0 (Kd.C_below HR1.out (by repeat (first | (with_reducible exact HB.out) | apply below_alloc | apply pw_below_drewN | apply below_drew | (refine below_set ?_ (by simp))))) hc1 HS.out).mono ?_
          rintro e w3 ⟨rfl, hb⟩
          refine ⟨_, rfl, ?_⟩
          have n0_ := Aside0.mk (below_step (by repeat (first | (with_reducible exact HB.out) | apply below_alloc | apply pw_below_drewN | apply below_drew | (refine below_set ?_ (by simp)))) hb)
          have n1_ := Aside0.mk (below_step (by repeat (first | (with_reducible exact HB3.out) | apply below_alloc | apply pw_below_drewN | apply below_drew | (refine below_set ?_ (by simp)))) hb)
          have n2_ := Aside0.mk (below_step (by repeat (first | (with_reducible exact HB5.out) | apply below_alloc | apply pw_below_drewN | apply below_drew | (refine below_set ?_ (by simp)))) hb)
          clear HB HB3 HB5 hb
          have HB := n0_
          have HB3 := n1_
          have HB5 := n2_
          clear n0_ n1_ n2_
          refine hK.out _ _ ⟨(box_cells (BX.out _ HB3.out)).1, (box_cells (BX.out _ HB3.out)).2.1, (box_cells (BX.out _ HB3.out)).2.2.1, (box_cells (BX.out _ HB3.out)).2.2.2.1, (box_cells (BX.out _ HB3.out)).2.2.2.2.1, (box_cells (BX.out _ HB3.out)).2.2.2.2.2.1, (box_cells (BX.out _ HB3.out)).2.2.2.2.2.2.1, (box_cells (BX.out _ HB3.out)).2.2.2.2.2.2.2.1, (box_cells (BX.out _ HB3.out)).2.2.2.2.2.2.2.2.1, (box_cells (BX.out _ HB3.out)).2.2.2.2.2.2.2.2.2.1, (box_cells (BX.out _ HB3.out)).2.2.2.2.2.2.2.2.2.2.1, (box_cells (BX.out _ HB3.out)).2.2.2.2.2.2.2.2.2.2.2⟩ (fun hHeld => ?_)
          clear hK K
          refine norm_ (a' := ?_) ?_ ?_
          rotate_left
          · show Act.put _ (some 155) _ = _
            simp only [Act.put, List.setIfInBounds_toArray, List.set_cons_zero, List.set_cons_succ, i64_w, i32_w]
            rfl
          refine pure_ (i := 5) (N := some 156) (v := ?_) (a' := ?_) #[true, true, true, true, true, true, false, false, false, false, false, false, false, false, false, false, false] rfl rfl (by kernel_rfl) (fun _ _ _ h => h) (Or.inl ⟨by rfl, ?_⟩) ?_ ?_
          rotate_left
          · intro w'
            go_simp
            with_reducible rfl
          rotate_left
          · simp only [Act.put, List.setIfInBounds_toArray, List.set_cons_zero, List.set_cons_succ, i64_w, i32_w]
            rfl
          refine pure_ (i := 6) (N := some 157) (v := ?_) (a' := ?_) #[true, true, true, true, true, true, true, false, false, false, false, false, false, false, false, false, false] rfl rfl (by kernel_rfl) (fun _ _ _ h => h) (Or.inl ⟨by rfl, ?_⟩) ?_ ?_
          rotate_left
          · intro w'
            go_simp
            with_reducible rfl
          rotate_left
          · simp only [Act.put, List.setIfInBounds_toArray, List.set_cons_zero, List.set_cons_succ, i64_w, i32_w]
            rfl
          refine pure_ (i := 7) (N := some 158) (v := ?_) (a' := ?_) #[true, true, true, true, true, true, true, true, false, false, false, false, false, false, false, false, false] rfl rfl (by kernel_rfl) (fun _ _ _ h => h) (Or.inl ⟨by rfl, ?_⟩) ?_ ?_
          rotate_left
          · intro w'
            go_simp
            with_reducible rfl
          rotate_left
          · simp only [Act.put, List.setIfInBounds_toArray, List.set_cons_zero, List.set_cons_succ, i64_w, i32_w]
            rfl
          refine pure_ (i := 8) (N := some 159) (v := ?_) (a' := ?_) #[true, true, true, true, true, true, true, true, true, false, false, false, false, false, false, false, false] rfl rfl (by kernel_rfl) (fun _ _ _ h => h) (Or.inl ⟨by rfl, ?_⟩) ?_ ?_
          rotate_left
          · intro w'
            go_simp
            with_reducible rfl
          rotate_left
          · simp only [Act.put, List.setIfInBounds_toArray, List.set_cons_zero, List.set_cons_succ, i64_w, i32_w]
            rfl
          refine pure_ (i := 9) (N := some 160) (v := ?_) (a' := ?_) #[true, true, true, true, true, true, true, true, true, true, false, false, false, false, false, false, false] rfl rfl (by kernel_rfl) (fun _ _ _ h => h) (Or.inl ⟨by rfl, ?_⟩) ?_ ?_
          rotate_left
          · intro w'
            go_simp
            with_reducible rfl
          rotate_left
          · simp only [Act.put, List.setIfInBounds_toArray, List.set_cons_zero, List.set_cons_succ, i64_w, i32_w]
            rfl
          refine take_ (i := 10) (N := some 161) (v := ?_) (a' := ?_) #[true, true, true, true, true, true, true, true, true, true, true, false, false, false, false, false, false] rfl rfl (by kernel_rfl) (fun _ _ _ h => h) (Or.inl ⟨by rfl, ?_⟩) hHeld ?_ ?_
          rotate_left
          · rintro w' ⟨s0, s1, s2, s3, s4, s5, s6, s7, s8, s9, s10, s11⟩
            go_simp
            with_reducible rfl
          rotate_left
          · simp only [Act.put, List.setIfInBounds_toArray, List.set_cons_zero, List.set_cons_succ, i64_w, i32_w]
            rfl
          refine one_ (i := 11) (N := some 162) #[true, true, true, true, true, true, true, true, true, true, true, true, false, false, false, false, false] rfl rfl (by kernel_rfl) (by decide) (fun K hK => ?_)
          refine goes_ Try.func35 (by kernel_rfl) rfl #[.slice A5 c.ws.length c5, .slice A0 c.ws.length c0] (by rfl) rfl rfl (by simp only [List.map_toArray, List.map_cons, List.map_nil] <;> rfl) ?_
          with_reducible refine (inkhornlaw0_SameTexts.calls kQ A5 c5 c.ws A0 c0 c.ws _ _ (Kd.C_below HC6.out (by repeat (first | (with_reducible exact HB5.out) | apply below_alloc | apply pw_below_drewN | apply below_drew | (refine below_set ?_ (by simp))))) hc5 (Kd.C_below HR0.out (by repeat (first | (with_reducible exact HB.out) | apply below_alloc | apply pw_below_drewN | apply below_drew | (refine below_set ?_ (by simp))))) hc0 HQ.out).mono ?_
          rintro e w3 ⟨rfl, ⟨nd, rfl⟩⟩
          refine ⟨_, rfl, ?_⟩
          refine hK.out _ _ ⟨(box_cells (BX.out _ (by repeat (first | (with_reducible exact HB3.out) | apply below_alloc | apply pw_below_drewN | apply below_drew | (refine below_set ?_ (by simp)))))).1, (box_cells (BX.out _ (by repeat (first | (with_reducible exact HB3.out) | apply below_alloc | apply pw_below_drewN | apply below_drew | (refine below_set ?_ (by simp)))))).2.1, (box_cells (BX.out _ (by repeat (first | (with_reducible exact HB3.out) | apply below_alloc | apply pw_below_drewN | apply below_drew | (refine below_set ?_ (by simp)))))).2.2.1, (box_cells (BX.out _ (by repeat (first | (with_reducible exact HB3.out) | apply below_alloc | apply pw_below_drewN | apply below_drew | (refine below_set ?_ (by simp)))))).2.2.2.1, (box_cells (BX.out _ (by repeat (first | (with_reducible exact HB3.out) | apply below_alloc | apply pw_below_drewN | apply below_drew | (refine below_set ?_ (by simp)))))).2.2.2.2.1, (box_cells (BX.out _ (by repeat (first | (with_reducible exact HB3.out) | apply below_alloc | apply pw_below_drewN | apply below_drew | (refine below_set ?_ (by simp)))))).2.2.2.2.2.1, (box_cells (BX.out _ (by repeat (first | (with_reducible exact HB3.out) | apply below_alloc | apply pw_below_drewN | apply below_drew | (refine below_set ?_ (by simp)))))).2.2.2.2.2.2.1, (box_cells (BX.out _ (by repeat (first | (with_reducible exact HB3.out) | apply below_alloc | apply pw_below_drewN | apply below_drew | (refine below_set ?_ (by simp)))))).2.2.2.2.2.2.2.1, (box_cells (BX.out _ (by repeat (first | (with_reducible exact HB3.out) | apply below_alloc | apply pw_below_drewN | apply below_drew | (refine below_set ?_ (by simp)))))).2.2.2.2.2.2.2.2.1, (box_cells (BX.out _ (by repeat (first | (with_reducible exact HB3.out) | apply below_alloc | apply pw_below_drewN | apply below_drew | (refine below_set ?_ (by simp)))))).2.2.2.2.2.2.2.2.2.1, (box_cells (BX.out _ (by repeat (first | (with_reducible exact HB3.out) | apply below_alloc | apply pw_below_drewN | apply below_drew | (refine below_set ?_ (by simp)))))).2.2.2.2.2.2.2.2.2.2.1, (box_cells (BX.out _ (by repeat (first | (with_reducible exact HB3.out) | apply below_alloc | apply pw_below_drewN | apply below_drew | (refine below_set ?_ (by simp)))))).2.2.2.2.2.2.2.2.2.2.2⟩ (fun hHeld => ?_)
          clear hK K
          refine norm_ (a' := ?_) ?_ ?_
          rotate_left
          · show Act.put _ (some 162) _ = _
            simp only [Act.put, List.setIfInBounds_toArray, List.set_cons_zero, List.set_cons_succ, i64_w, i32_w]
            rfl
          refine pure_ (i := 12) (N := some 163) (v := ?_) (a' := ?_) #[true, true, true, true, true, true, true, true, true, true, true, true, true, false, false, false, false] rfl rfl (by kernel_rfl) (fun _ _ _ h => h) (Or.inl ⟨by rfl, ?_⟩) ?_ ?_
          rotate_left
          · intro w'
            go_simp
            with_reducible rfl
          rotate_left
          · simp only [Act.put, List.setIfInBounds_toArray, List.set_cons_zero, List.set_cons_succ, i64_w, i32_w]
            rfl
          refine pure_ (i := 13) (N := some 164) (v := ?_) (a' := ?_) #[true, true, true, true, true, true, true, true, true, true, true, true, true, true, false, false, false] rfl rfl (by kernel_rfl) (fun _ _ _ h => h) (Or.inl ⟨by rfl, ?_⟩) ?_ ?_
          rotate_left
          · intro w'
            go_simp
            with_reducible rfl
          rotate_left
          · simp only [Act.put, List.setIfInBounds_toArray, List.set_cons_zero, List.set_cons_succ, i64_w, i32_w]
            rfl
          refine one_ (i := 14) (N := some 165) #[true, true, true, true, true, true, true, true, true, true, true, true, true, true, true, false, false] rfl rfl (by kernel_rfl) (by decide) (fun K hK => ?_)
          refine goes_ Try.func27 (by kernel_rfl) rfl #[] (by rfl) rfl rfl (by simp only [List.map_toArray, List.map_cons, List.map_nil] <;> rfl) ?_
          with_reducible refine (inkhornlaw13_awake.calls kA true _ HA.out).mono ?_
          rintro e w3 ⟨rfl, hb⟩
          refine ⟨_, rfl, ?_⟩
          have n0_ := Aside0.mk (below_step (by repeat (first | (with_reducible exact HB.out) | apply below_alloc | apply pw_below_drewN | apply below_drew | (refine below_set ?_ (by simp)))) hb)
          have n1_ := Aside0.mk (below_step (by repeat (first | (with_reducible exact HB3.out) | apply below_alloc | apply pw_below_drewN | apply below_drew | (refine below_set ?_ (by simp)))) hb)
          clear HB HB3 hb
          have HB := n0_
          have HB3 := n1_
          clear n0_ n1_
          refine hK.out _ _ ⟨(box_cells (BX.out _ HB3.out)).1, (box_cells (BX.out _ HB3.out)).2.1, (box_cells (BX.out _ HB3.out)).2.2.1, (box_cells (BX.out _ HB3.out)).2.2.2.1, (box_cells (BX.out _ HB3.out)).2.2.2.2.1, (box_cells (BX.out _ HB3.out)).2.2.2.2.2.1, (box_cells (BX.out _ HB3.out)).2.2.2.2.2.2.1, (box_cells (BX.out _ HB3.out)).2.2.2.2.2.2.2.1, (box_cells (BX.out _ HB3.out)).2.2.2.2.2.2.2.2.1, (box_cells (BX.out _ HB3.out)).2.2.2.2.2.2.2.2.2.1, (box_cells (BX.out _ HB3.out)).2.2.2.2.2.2.2.2.2.2.1, (box_cells (BX.out _ HB3.out)).2.2.2.2.2.2.2.2.2.2.2⟩ (fun hHeld => ?_)
          clear hK K
          refine norm_ (a' := ?_) ?_ ?_
          rotate_left
          · show Act.put _ (some 165) _ = _
            simp only [Act.put, List.setIfInBounds_toArray, List.set_cons_zero, List.set_cons_succ, i64_w, i32_w]
            rfl
          refine pure_ (i := 15) (N := some 166) (v := ?_) (a' := ?_) #[true, true, true, true, true, true, true, true, true, true, true, true, true, true, true, true, false] rfl rfl (by kernel_rfl) (fun _ _ _ h => h) (Or.inl ⟨by rfl, ?_⟩) ?_ ?_
          rotate_left
          · intro w'
            go_simp
            with_reducible rfl
          rotate_left
          · simp only [Act.put, List.setIfInBounds_toArray, List.set_cons_zero, List.set_cons_succ, i64_w, i32_w]
            rfl
          refine pure_ (i := 16) (N := some 2) (v := ?_) (a' := ?_) #[true, true, true, true, true, true, true, true, true, true, true, true, true, true, true, true, true] rfl rfl (by kernel_rfl) (fun _ _ _ h => h) (Or.inl ⟨by rfl, ?_⟩) ?_ ?_
          rotate_left
          · intro w'
            go_simp
            with_reducible rfl
          rotate_left
          · simp only [Act.put, List.setIfInBounds_toArray, List.set_cons_zero, List.set_cons_succ, i64_w, i32_w]
            rfl
          refine done_ (by kernel_rfl) ?_
          go_wp2
          go_ret
          exact ⟨by simp, HB.out⟩
theorem PlaceCopies_walk (A0 : Option Addr) (c0 : Nat) (A1 : Option Addr) (c1 : Nat) (x : S43) (w : World) (hr0 : Kd.C Kd.string w A0 x.f0.length x.f0) (hc0 : x.f0.length ≤ c0) (hr1 : Kd.C k24 w A1 x.f1.length x.f1) (hc1 : x.f1.length ≤ c1) (ff : F43 x) :
    Calls Try.prog 9 #[.agg #[.slice A0 x.f0.length c0, .slice A1 x.f1.length c1, .int .i64 x.f2, .int .i64 x.f3, .int .i64 x.f4, .int .i64 x.f5, .int .i64 x.f6, .int .i64 x.f7, .int .i64 x.f8, .int .i64 x.f9, .int .i64 x.f10, .int .i64 x.f11]] w fun e w' => e = .returned (.bool true) ∧ Below w.heap.size w w' := by
  obtain ⟨h1, h2, h3⟩ := cfg_sized ff
  exact PlaceCopies_go A0 c0 A1 c1 (cfgOf x) w hr0 hc0 hr1 hc1 h1 h2 h3
end Go.Proofs.Ytiobphijbpdolaa.P
