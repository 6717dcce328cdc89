/- inkhornlaw27.FairBounds returns true, whatever the configuration and the number. -/
import Derived.Test.YtiobphijbpdolaaHAwk27
import Derived.Test.YtiobphijbpdolaaQEv
import Derived.Test.YtiobphijbpdolaaQP
namespace Go.Proofs.Ytiobphijbpdolaa.P
open Go.RowKit Go.Proofs.YtiobphijbpdolaaW.PrintWords Go.Proofs.YtiobphijbpdolaaW.PrintLast Go.Proofs.YtiobphijbpdolaaW.PrintMore
set_option linter.unusedVariables false
set_option linter.unusedSimpArgs false

set_option maxHeartbeats 4000000 in
set_option maxRecDepth 100000 in
theorem FairBounds_go (A0 : Option Addr) (c0 : Nat) (A1 : Option Addr) (c1 : Nat) (c : Cfg) (a1 : Int) (w : World) (hr0 : Kd.C Kd.string w A0 c.ws.length c.ws) (hc0 : c.ws.length ≤ c0) (hr1 : Kd.C k24 w A1 c.cs.length c.cs) (hc1 : c.cs.length ≤ c1) (hl : c.ws.length ≤ 140737488355328) (hl1 : c.cs.length ≤ 140737488355328) (hs : Sized c) :
    Calls Try.prog 10 #[.agg #[.slice A0 c.ws.length c0, .slice A1 c.cs.length c1, .int .i64 c.workers, .int .i64 c.copies, .int .i64 c.slots, .int .i64 c.batch, .int .i64 c.lease, .int .i64 c.hedge, .int .i64 c.first, .int .i64 c.cap, .int .i64 c.jitter, .int .i64 c.net], .int .i64 a1] w fun e w' => e = .returned (.bool true) ∧ Below w.heap.size w w' := by
  have hu43 := Try.underlying43
  obtain ⟨kG, hG⟩ := (greatC_is c hl hl1).rounds
  have HG := Aside0.mk hG
  obtain ⟨kM, hM⟩ := (may_is c hs).rounds
  have HM := Aside0.mk hM
  have HR0 := Aside0.mk hr0
  have HR1 := Aside0.mk hr1
  clear hr0 hr1 hG hM
  have HB := Aside0.mk (Below.refl w.heap.size w)
  cases hg : greatCfg c with
  | true =>
    rw [hg] at HG
    clear hg
    go_enter Try.func10, Try.ntmps10
    go_wp2_with (first | ((with_reducible refine gate_dst (N := 2) rfl ?_); (try (refine gate_guard (by rfl) ?_; dsimp only)); refine box_event ?hg (N := 2) ?hd (cs := #[.slice A0 c.ws.length c0, .slice A1 c.cs.length c1, .int .i64 c.workers, .int .i64 c.copies, .int .i64 c.slots, .int .i64 c.batch, .int .i64 c.lease, .int .i64 c.hedge, .int .i64 c.first, .int .i64 c.cap, .int .i64 c.jitter, .int .i64 c.net]) (t := 43) ?hr ?_; (case hd => rfl); (case hg => rfl); (case hr => first | (go_simp; done) | (go_simp; rfl)); intro gb hg w4 hbox hb; have n0_ := Aside0.mk (below_step (by repeat (first | (with_reducible exact HB.out) | apply below_alloc | apply pw_below_drewN | apply below_drew | (refine below_set ?_ (by simp)))) hb); have BX := Aside0.mk (box_stays hbox); clear HB hb hbox hg; have HB := n0_; have HB3 := Aside0.mk (Below.refl w4.heap.size w4); clear n0_; obtain ⟨x0, x1, x2, x3, x4, x5, x6, x7, x8, x9, x10, x11⟩ := box_cells (BX.out _ HB3.out)) | (go_at_call 25; (with_reducible refine (inkhornlaw0_GreatConfig.calls kG A0 c0 c.ws A1 c1 c.cs c.workers c.copies c.slots c.batch c.lease c.hedge c.first c.cap c.jitter c.net _ _ (Kd.C_below HR0.out (by repeat (first | (with_reducible exact HB.out) | apply below_alloc | apply pw_below_drewN | apply below_drew | (refine below_set ?_ (by simp))))) hc0 (Kd.C_below HR1.out (by repeat (first | (with_reducible exact HB.out) | apply below_alloc | apply pw_below_drewN | apply below_drew | (refine below_set ?_ (by simp))))) hc1 HG.out).mono ?_); rintro e w' ⟨rfl, hb⟩; have n0_ := Aside0.mk (below_step (by repeat (first | (with_reducible exact HB.out) | apply below_alloc | apply pw_below_drewN | apply below_drew | (refine below_set ?_ (by simp)))) hb); have n1_ := Aside0.mk (below_step (by repeat (first | (with_reducible exact HB3.out) | apply below_alloc | apply pw_below_drewN | apply below_drew | (refine below_set ?_ (by simp)))) hb); clear HB HB3 hb x0 x1 x2 x3 x4 x5 x6 x7 x8 x9 x10 x11; have HB := n0_; have HB3 := n1_; clear n0_ n1_; obtain ⟨x0, x1, x2, x3, x4, x5, x6, x7, x8, x9, x10, x11⟩ := box_cells (BX.out _ HB3.out)) | (go_at_call 42; (with_reducible refine (awake27_calls _).mono ?_); rintro e w' ⟨rfl, hb⟩; have n0_ := Aside0.mk (below_step (by repeat (first | (with_reducible exact HB.out) | apply below_alloc | apply pw_below_drewN | apply below_drew | (refine below_set ?_ (by simp)))) hb); have n1_ := Aside0.mk (below_step (by repeat (first | (with_reducible exact HB3.out) | apply below_alloc | apply pw_below_drewN | apply below_drew | (refine below_set ?_ (by simp)))) hb); clear HB HB3 hb x0 x1 x2 x3 x4 x5 x6 x7 x8 x9 x10 x11; have HB := n0_; have HB3 := n1_; clear n0_ n1_; obtain ⟨x0, x1, x2, x3, x4, x5, x6, x7, x8, x9, x10, x11⟩ := box_cells (BX.out _ HB3.out)))
    go_ret
    exact ⟨rfl, HB.out⟩
  | false =>
  cases hm : mayB c with
  | false =>
    rw [hg] at HG
    rw [hm] at HM
    clear hg hm
    go_enter Try.func10, Try.ntmps10
    go_wp2_with (first | ((with_reducible refine gate_dst (N := 2) rfl ?_); (try (refine gate_guard (by rfl) ?_; dsimp only)); refine box_event ?hg (N := 2) ?hd (cs := #[.slice A0 c.ws.length c0, .slice A1 c.cs.length c1, .int .i64 c.workers, .int .i64 c.copies, .int .i64 c.slots, .int .i64 c.batch, .int .i64 c.lease, .int .i64 c.hedge, .int .i64 c.first, .int .i64 c.cap, .int .i64 c.jitter, .int .i64 c.net]) (t := 43) ?hr ?_; (case hd => rfl); (case hg => rfl); (case hr => first | (go_simp; done) | (go_simp; rfl)); intro gb hg w4 hbox hb; have n0_ := Aside0.mk (below_step (by repeat (first | (with_reducible exact HB.out) | apply below_alloc | apply pw_below_drewN | apply below_drew | (refine below_set ?_ (by simp)))) hb); have BX := Aside0.mk (box_stays hbox); clear HB hb hbox hg; have HB := n0_; have HB3 := Aside0.mk (Below.refl w4.heap.size w4); clear n0_; obtain ⟨x0, x1, x2, x3, x4, x5, x6, x7, x8, x9, x10, x11⟩ := box_cells (BX.out _ HB3.out)) | (go_at_call 25; (with_reducible refine (inkhornlaw0_GreatConfig.calls kG A0 c0 c.ws A1 c1 c.cs c.workers c.copies c.slots c.batch c.lease c.hedge c.first c.cap c.jitter c.net _ _ (Kd.C_below HR0.out (by repeat (first | (with_reducible exact HB.out) | apply below_alloc | apply pw_below_drewN | apply below_drew | (refine below_set ?_ (by simp))))) hc0 (Kd.C_below HR1.out (by repeat (first | (with_reducible exact HB.out) | apply below_alloc | apply pw_below_drewN | apply below_drew | (refine below_set ?_ (by simp))))) hc1 HG.out).mono ?_); rintro e w' ⟨rfl, hb⟩; have n0_ := Aside0.mk (below_step (by repeat (first | (with_reducible exact HB.out) | apply below_alloc | apply pw_below_drewN | apply below_drew | (refine below_set ?_ (by simp)))) hb); have n1_ := Aside0.mk (below_step (by repeat (first | (with_reducible exact HB3.out) | apply below_alloc | apply pw_below_drewN | apply below_drew | (refine below_set ?_ (by simp)))) hb); clear HB HB3 hb x0 x1 x2 x3 x4 x5 x6 x7 x8 x9 x10 x11; have HB := n0_; have HB3 := n1_; clear n0_ n1_; obtain ⟨x0, x1, x2, x3, x4, x5, x6, x7, x8, x9, x10, x11⟩ := box_cells (BX.out _ HB3.out)) | (go_at_call 26; (with_reducible refine (place_May.calls kM A0 c0 c.ws A1 c1 c.cs c.workers c.copies c.slots c.batch c.lease c.hedge c.first c.cap c.jitter c.net _ _ (Kd.C_below HR0.out (by repeat (first | (with_reducible exact HB.out) | apply below_alloc | apply pw_below_drewN | apply below_drew | (refine below_set ?_ (by simp))))) hc0 (Kd.C_below HR1.out (by repeat (first | (with_reducible exact HB.out) | apply below_alloc | apply pw_below_drewN | apply below_drew | (refine below_set ?_ (by simp))))) hc1 HM.out).mono ?_); rintro e w' ⟨rfl, hb⟩; have n0_ := Aside0.mk (below_step (by repeat (first | (with_reducible exact HB.out) | apply below_alloc | apply pw_below_drewN | apply below_drew | (refine below_set ?_ (by simp)))) hb); have n1_ := Aside0.mk (below_step (by repeat (first | (with_reducible exact HB3.out) | apply below_alloc | apply pw_below_drewN | apply below_drew | (refine below_set ?_ (by simp)))) hb); clear HB HB3 hb x0 x1 x2 x3 x4 x5 x6 x7 x8 x9 x10 x11; have HB := n0_; have HB3 := n1_; clear n0_ n1_; obtain ⟨x0, x1, x2, x3, x4, x5, x6, x7, x8, x9, x10, x11⟩ := box_cells (BX.out _ HB3.out)) | (go_at_call 42; (with_reducible refine (awake27_calls _).mono ?_); rintro e w' ⟨rfl, hb⟩; have n0_ := Aside0.mk (below_step (by repeat (first | (with_reducible exact HB.out) | apply below_alloc | apply pw_below_drewN | apply below_drew | (refine below_set ?_ (by simp)))) hb); have n1_ := Aside0.mk (below_step (by repeat (first | (with_reducible exact HB3.out) | apply below_alloc | apply pw_below_drewN | apply below_drew | (refine below_set ?_ (by simp)))) hb); clear HB HB3 hb x0 x1 x2 x3 x4 x5 x6 x7 x8 x9 x10 x11; have HB := n0_; have HB3 := n1_; clear n0_ n1_; obtain ⟨x0, x1, x2, x3, x4, x5, x6, x7, x8, x9, x10, x11⟩ := box_cells (BX.out _ HB3.out)))
    go_ret
    exact ⟨rfl, HB.out⟩
  | true =>
  obtain ⟨x, hx⟩ : ∃ x : Int, x = a1 % 18446744073709551616 % 9 := ⟨_, rfl⟩
  have hxr := low_range a1 9 (by omega)
  have hlo := low_is a1 9 (by omega) (by omega)
  rw [← hx] at hxr hlo
  have HLO := Aside0.mk hlo
  clear hx hlo
  have her := each_range hm
  have h5 := clip_range c.jitter
  have h4 := clip_range c.cap
  have h6 : 0 ≤ mostF c ∧ mostF c ≤ 2000 := by unfold mostF; omega
  have hms := most_is c
  obtain ⟨m, hmm⟩ : ∃ m : Int, m = 1 + x := ⟨_, rfl⟩
  obtain ⟨m1, hm1⟩ : ∃ m1 : Int, m1 = m + 1 := ⟨_, rfl⟩
  obtain ⟨k1, hb1⟩ := (bound_is c hs m).rounds
  obtain ⟨k2, hb2⟩ := (bound_is c hs m1).rounds
  obtain ⟨k3, hb3⟩ := (bound_is c hs 0).rounds
  obtain ⟨k4, hb4⟩ := (bound_is c hs 11).rounds
  obtain ⟨kS, hsh⟩ := (shards_is c hs).rounds
  unfold boundF at hb1 hb2 hb3 hb4
  rw [if_pos ⟨hm, by omega, by omega⟩] at hb1 hb2
  rw [if_neg (by omega)] at hb3 hb4
  obtain ⟨ms, hmse⟩ : ∃ ms, ms = mostF c := ⟨_, rfl⟩
  obtain ⟨n, hn⟩ : ∃ n : Int, n = (shards c : Int) := ⟨_, rfl⟩
  rw [← hmse] at hms her hb1 hb2 h6
  rw [← hn] at hsh her hb1 hb2
  obtain ⟨ms2, e1⟩ : ∃ z, z = ms + 2 := ⟨_, rfl⟩
  rw [← e1] at hb1 hb2 her
  obtain ⟨cm, e2⟩ : ∃ z, z = c.copies * ms2 := ⟨_, rfl⟩
  rw [← e2] at hb1 hb2 her
  obtain ⟨sn, e3⟩ : ∃ z, z = c.slots * n := ⟨_, rfl⟩
  rw [← e3] at hb1 hb2 her
  obtain ⟨q, e4⟩ : ∃ z, z = cm + sn := ⟨_, rfl⟩
  rw [← e4] at hb1 hb2
  obtain ⟨e, e5⟩ : ∃ z, z = q + 6 := ⟨_, rfl⟩
  rw [← e5] at hb1 hb2
  obtain ⟨pe, e6⟩ : ∃ z, z = (m + 1) * e := ⟨_, rfl⟩
  have hper : 0 ≤ pe ∧ pe ≤ 77000 := by
    have hm1' := Int.mul_le_mul (a := m + 1) (b := e) (c := 11) (d := 7000) (by omega) (by omega) (by omega) (by omega)
    have hm0' := Int.mul_nonneg (a := m + 1) (b := e) (by omega) (by omega)
    rw [e6]
    omega
  have e7 : (m1 + 1) * e = pe + e := by rw [e6, hm1, Int.add_mul (m + 1) 1 e, Int.one_mul]
  rw [← e6] at hb1
  rw [e7] at hb2
  obtain ⟨va, e8⟩ : ∃ z, z = 4 + pe := ⟨_, rfl⟩
  rw [← e8] at hb1
  obtain ⟨vb, e9⟩ : ∃ z, z = 4 + (pe + e) := ⟨_, rfl⟩
  rw [← e9] at hb2
  have u1 : wrap64 (1 + x) = m := by rw [hmm]; exact wrap_small (by omega) (by omega)
  have u2 : wrap64 (m + 1) = m1 := by rw [hm1]; exact wrap_small (by omega) (by omega)
  have u3 : wrap64 (ms + 2) = ms2 := by rw [e1]; exact wrap_small (by omega) (by omega)
  have u4 : wrap64 (c.copies * ms2) = cm := by rw [← e2]; exact wrap_small (by omega) (by omega)
  have u5 : wrap64 (c.slots * n) = sn := by rw [← e3]; exact wrap_small (by omega) (by omega)
  have u6 : wrap64 (cm + sn) = q := by rw [← e4]; exact wrap_small (by omega) (by omega)
  have u7 : wrap64 (q + 6) = e := by rw [← e5]; exact wrap_small (by omega) (by omega)
  have u8 : wrap64 (vb - va) = e := by rw [show vb - va = e by omega]; exact wrap_small (by omega) (by omega)
  have u9 : wrap64 (m1 * e) = pe := by rw [hm1, ← e6]; exact wrap_small (by omega) (by omega)
  have u10 : wrap64 (4 + pe) = va := by rw [← e8]; exact wrap_small (by omega) (by omega)
  have vu1 : IntKind.i64.wrap (1 + x) = m := (i64_w _).trans u1
  have vu2 : IntKind.i64.wrap (m + 1) = m1 := (i64_w _).trans u2
  have vu3 : IntKind.i64.wrap (ms + 2) = ms2 := (i64_w _).trans u3
  have vu4 : IntKind.i64.wrap (c.copies * ms2) = cm := (i64_w _).trans u4
  have vu5 : IntKind.i64.wrap (c.slots * n) = sn := (i64_w _).trans u5
  have vu6 : IntKind.i64.wrap (cm + sn) = q := (i64_w _).trans u6
  have vu7 : IntKind.i64.wrap (q + 6) = e := (i64_w _).trans u7
  have vu8 : IntKind.i64.wrap (vb - va) = e := (i64_w _).trans u8
  have vu9 : IntKind.i64.wrap (m1 * e) = pe := (i64_w _).trans u9
  have vu10 : IntKind.i64.wrap (4 + pe) = va := (i64_w _).trans u10
  have HK1 := Aside0.mk hb1
  have HK2 := Aside0.mk hb2
  have HK3 := Aside0.mk hb3
  have HK4 := Aside0.mk hb4
  have HMS := Aside0.mk hms
  have HSH := Aside0.mk hsh
  rw [hg] at HG
  rw [hm] at HM
  clear hg hm hb1 hb2 hb3 hb4 hms hsh her h4 h5 h6 hper hxr hmse hn e1 e2 e3 e4 e5 e6 e7 e8 e9 hmm hm1
  go_enter Try.func10, Try.ntmps10
  go_wp2_with (first | ((with_reducible refine gate_dst (N := 2) rfl ?_); (try (refine gate_guard (by rfl) ?_; dsimp only)); refine box_event ?hg (N := 2) ?hd (cs := #[.slice A0 c.ws.length c0, .slice A1 c.cs.length c1, .int .i64 c.workers, .int .i64 c.copies, .int .i64 c.slots, .int .i64 c.batch, .int .i64 c.lease, .int .i64 c.hedge, .int .i64 c.first, .int .i64 c.cap, .int .i64 c.jitter, .int .i64 c.net]) (t := 43) ?hr ?_; (case hd => rfl); (case hg => rfl); (case hr => first | (go_simp; done) | (go_simp; rfl)); intro gb hg w4 hbox hb; have n0_ := Aside0.mk (below_step (by repeat (first | (with_reducible exact HB.out) | apply below_alloc | apply pw_below_drewN | apply below_drew | (refine below_set ?_ (by simp)))) hb); have BX := Aside0.mk (box_stays hbox); clear HB hb hbox hg; have HB := n0_; have HB3 := Aside0.mk (Below.refl w4.heap.size w4); clear n0_; obtain ⟨x0, x1, x2, x3, x4, x5, x6, x7, x8, x9, x10, x11⟩ := box_cells (BX.out _ HB3.out)) | (go_at_call 25; (with_reducible refine (inkhornlaw0_GreatConfig.calls kG A0 c0 c.ws A1 c1 c.cs c.workers c.copies c.slots c.batch c.lease c.hedge c.first c.cap c.jitter c.net _ _ (Kd.C_below HR0.out (by repeat (first | (with_reducible exact HB.out) | apply below_alloc | apply pw_below_drewN | apply below_drew | (refine below_set ?_ (by simp))))) hc0 (Kd.C_below HR1.out (by repeat (first | (with_reducible exact HB.out) | apply below_alloc | apply pw_below_drewN | apply below_drew | (refine below_set ?_ (by simp))))) hc1 HG.out).mono ?_); rintro e w' ⟨rfl, hb⟩; have n0_ := Aside0.mk (below_step (by repeat (first | (with_reducible exact HB.out) | apply below_alloc | apply pw_below_drewN | apply below_drew | (refine below_set ?_ (by simp)))) hb); have n1_ := Aside0.mk (below_step (by repeat (first | (with_reducible exact HB3.out) | apply below_alloc | apply pw_below_drewN | apply below_drew | (refine below_set ?_ (by simp)))) hb); clear HB HB3 hb x0 x1 x2 x3 x4 x5 x6 x7 x8 x9 x10 x11; have HB := n0_; have HB3 := n1_; clear n0_ n1_; obtain ⟨x0, x1, x2, x3, x4, x5, x6, x7, x8, x9, x10, x11⟩ := box_cells (BX.out _ HB3.out)) | (go_at_call 26; (with_reducible refine (place_May.calls kM A0 c0 c.ws A1 c1 c.cs c.workers c.copies c.slots c.batch c.lease c.hedge c.first c.cap c.jitter c.net _ _ (Kd.C_below HR0.out (by repeat (first | (with_reducible exact HB.out) | apply below_alloc | apply pw_below_drewN | apply below_drew | (refine below_set ?_ (by simp))))) hc0 (Kd.C_below HR1.out (by repeat (first | (with_reducible exact HB.out) | apply below_alloc | apply pw_below_drewN | apply below_drew | (refine below_set ?_ (by simp))))) hc1 HM.out).mono ?_); rintro e w' ⟨rfl, hb⟩; have n0_ := Aside0.mk (below_step (by repeat (first | (with_reducible exact HB.out) | apply below_alloc | apply pw_below_drewN | apply below_drew | (refine below_set ?_ (by simp)))) hb); have n1_ := Aside0.mk (below_step (by repeat (first | (with_reducible exact HB3.out) | apply below_alloc | apply pw_below_drewN | apply below_drew | (refine below_set ?_ (by simp)))) hb); clear HB HB3 hb x0 x1 x2 x3 x4 x5 x6 x7 x8 x9 x10 x11; have HB := n0_; have HB3 := n1_; clear n0_ n1_; obtain ⟨x0, x1, x2, x3, x4, x5, x6, x7, x8, x9, x10, x11⟩ := box_cells (BX.out _ HB3.out)) | (go_at_call 29; (with_reducible refine (inkhornlaw0_Low.calls a1 9 _ _ HLO.out).mono ?_); rintro e w' ⟨rfl, ⟨nd, rfl⟩⟩))
  refine start_ (n := 9) (S := fun w' => w'.cell? ⟨gb, 0, none⟩ = some (.slice A0 c.ws.length c0) ∧ w'.cell? ⟨gb, 1, none⟩ = some (.slice A1 c.cs.length c1) ∧ w'.cell? ⟨gb, 2, none⟩ = some (.int .i64 c.workers) ∧ w'.cell? ⟨gb, 3, none⟩ = some (.int .i64 c.copies) ∧ w'.cell? ⟨gb, 4, none⟩ = some (.int .i64 c.slots) ∧ w'.cell? ⟨gb, 5, none⟩ = some (.int .i64 c.batch) ∧ w'.cell? ⟨gb, 6, none⟩ = some (.int .i64 c.lease) ∧ w'.cell? ⟨gb, 7, none⟩ = some (.int .i64 c.hedge) ∧ w'.cell? ⟨gb, 8, none⟩ = some (.int .i64 c.first) ∧ w'.cell? ⟨gb, 9, none⟩ = some (.int .i64 c.cap) ∧ w'.cell? ⟨gb, 10, none⟩ = some (.int .i64 c.jitter) ∧ w'.cell? ⟨gb, 11, none⟩ = some (.int .i64 c.net)) (ds := []) #[false, false, false, false, false, false, false, false, false] (by kernel_rfl) rfl rfl ⟨(box_cells (BX.out _ (by repeat (first | (with_reducible exact HB3.out) | apply below_alloc | apply pw_below_drewN | apply below_drew | (refine below_set ?_ (by simp)))))).1, (box_cells (BX.out _ (by repeat (first | (with_reducible exact HB3.out) | apply below_alloc | apply pw_below_drewN | apply below_drew | (refine below_set ?_ (by simp)))))).2.1, (box_cells (BX.out _ (by repeat (first | (with_reducible exact HB3.out) | apply below_alloc | apply pw_below_drewN | apply below_drew | (refine below_set ?_ (by simp)))))).2.2.1, (box_cells (BX.out _ (by repeat (first | (with_reducible exact HB3.out) | apply below_alloc | apply pw_below_drewN | apply below_drew | (refine below_set ?_ (by simp)))))).2.2.2.1, (box_cells (BX.out _ (by repeat (first | (with_reducible exact HB3.out) | apply below_alloc | apply pw_below_drewN | apply below_drew | (refine below_set ?_ (by simp)))))).2.2.2.2.1, (box_cells (BX.out _ (by repeat (first | (with_reducible exact HB3.out) | apply below_alloc | apply pw_below_drewN | apply below_drew | (refine below_set ?_ (by simp)))))).2.2.2.2.2.1, (box_cells (BX.out _ (by repeat (first | (with_reducible exact HB3.out) | apply below_alloc | apply pw_below_drewN | apply below_drew | (refine below_set ?_ (by simp)))))).2.2.2.2.2.2.1, (box_cells (BX.out _ (by repeat (first | (with_reducible exact HB3.out) | apply below_alloc | apply pw_below_drewN | apply below_drew | (refine below_set ?_ (by simp)))))).2.2.2.2.2.2.2.1, (box_cells (BX.out _ (by repeat (first | (with_reducible exact HB3.out) | apply below_alloc | apply pw_below_drewN | apply below_drew | (refine below_set ?_ (by simp)))))).2.2.2.2.2.2.2.2.1, (box_cells (BX.out _ (by repeat (first | (with_reducible exact HB3.out) | apply below_alloc | apply pw_below_drewN | apply below_drew | (refine below_set ?_ (by simp)))))).2.2.2.2.2.2.2.2.2.1, (box_cells (BX.out _ (by repeat (first | (with_reducible exact HB3.out) | apply below_alloc | apply pw_below_drewN | apply below_drew | (refine below_set ?_ (by simp)))))).2.2.2.2.2.2.2.2.2.2.1, (box_cells (BX.out _ (by repeat (first | (with_reducible exact HB3.out) | apply below_alloc | apply pw_below_drewN | apply below_drew | (refine below_set ?_ (by simp)))))).2.2.2.2.2.2.2.2.2.2.2⟩ (fun hHeld => ?_)
  refine pure_ (i := 1) (N := some 20) (v := ?_) (a' := ?_) #[false, true, false, false, false, false, false, false, false] rfl rfl (by kernel_rfl) (fun _ _ _ h => h) (Or.inl ⟨by rfl, ?_⟩) ?_ ?_
  rotate_left
  · intro w'
    go_simp
    with_reducible rfl
  rotate_left
  · simp only [Act.put, List.setIfInBounds_toArray, List.set_cons_zero, List.set_cons_succ, i64_w, i32_w]
    rfl
  refine pure_ (i := 4) (N := some 23) (v := ?_) (a' := ?_) #[false, true, false, false, true, false, false, false, false] rfl rfl (by kernel_rfl) (fun _ _ _ h => h) (Or.inl ⟨by rfl, ?_⟩) ?_ ?_
  rotate_left
  · intro w'
    go_simp
    with_reducible rfl
  rotate_left
  · simp only [Act.put, List.setIfInBounds_toArray, List.set_cons_zero, List.set_cons_succ, i64_w, i32_w]
    rfl
  refine pure_ (i := 5) (N := some 24) (v := ?_) (a' := ?_) #[false, true, false, false, true, true, false, false, false] rfl rfl (by kernel_rfl) (fun _ _ _ h => h) (Or.inl ⟨by rfl, ?_⟩) ?_ ?_
  rotate_left
  · intro w'
    go_simp
    with_reducible rfl
  rotate_left
  · simp only [Act.put, List.setIfInBounds_toArray, List.set_cons_zero, List.set_cons_succ, i64_w, i32_w]
    rfl
  refine take_ (i := 0) (N := some 19) (v := ?_) (a' := ?_) #[true, true, false, false, true, true, false, false, false] rfl rfl (by kernel_rfl) (fun _ _ _ h => h) (Or.inl ⟨by rfl, ?_⟩) hHeld ?_ ?_
  rotate_left
  · rintro w' ⟨s0, s1, s2, s3, s4, s5, s6, s7, s8, s9, s10, s11⟩
    go_simp
    with_reducible rfl
  rotate_left
  · simp only [Act.put, List.setIfInBounds_toArray, List.set_cons_zero, List.set_cons_succ, i64_w, i32_w]
    rfl
  refine take_ (i := 3) (N := some 22) (v := ?_) (a' := ?_) #[true, true, false, true, true, true, false, false, false] rfl rfl (by kernel_rfl) (fun _ _ _ h => h) (Or.inl ⟨by rfl, ?_⟩) hHeld ?_ ?_
  rotate_left
  · rintro w' ⟨s0, s1, s2, s3, s4, s5, s6, s7, s8, s9, s10, s11⟩
    go_simp
    with_reducible rfl
  rotate_left
  · simp only [Act.put, List.setIfInBounds_toArray, List.set_cons_zero, List.set_cons_succ, i64_w, i32_w]
    rfl
  refine one_ (i := 2) (N := some 21) #[true, true, true, true, true, true, false, false, false] rfl rfl (by kernel_rfl) (by decide) (fun K hK => ?_)
  refine goes_ Try.func43 (by kernel_rfl) rfl #[.agg #[.slice A0 c.ws.length c0, .slice A1 c.cs.length c1, .int .i64 c.workers, .int .i64 c.copies, .int .i64 c.slots, .int .i64 c.batch, .int .i64 c.lease, .int .i64 c.hedge, .int .i64 c.first, .int .i64 c.cap, .int .i64 c.jitter, .int .i64 c.net], .int .i64 m] (by rfl) rfl rfl (by simp only [List.map_toArray, List.map_cons, List.map_nil] <;> rfl) ?_
  with_reducible refine (fair_Bound.calls k1 A0 c0 c.ws A1 c1 c.cs c.workers c.copies c.slots c.batch c.lease c.hedge c.first c.cap c.jitter c.net m va _ (Kd.C_below HR0.out (by repeat (first | (with_reducible exact HB.out) | apply below_alloc | apply pw_below_drewN | apply below_drew | (refine below_set ?_ (by simp))))) hc0 (Kd.C_below HR1.out (by repeat (first | (with_reducible exact HB.out) | apply below_alloc | apply pw_below_drewN | apply below_drew | (refine below_set ?_ (by simp))))) hc1 HK1.out).mono ?_
  rintro e w3 ⟨rfl, hb⟩
  refine ⟨_, rfl, ?_⟩
  have n0_ := Aside0.mk (below_step (by repeat (first | (with_reducible exact HB.out) | apply below_alloc | apply pw_below_drewN | apply below_drew | (refine below_set ?_ (by simp)))) hb)
  have n1_ := Aside0.mk (below_step (by repeat (first | (with_reducible exact HB3.out) | apply below_alloc | apply pw_below_drewN | apply below_drew | (refine below_set ?_ (by simp)))) hb)
  clear HB HB3 hb
  have HB := n0_
  have HB3 := n1_
  clear n0_ n1_
  refine hK.out _ _ ⟨(box_cells (BX.out _ HB3.out)).1, (box_cells (BX.out _ HB3.out)).2.1, (box_cells (BX.out _ HB3.out)).2.2.1, (box_cells (BX.out _ HB3.out)).2.2.2.1, (box_cells (BX.out _ HB3.out)).2.2.2.2.1, (box_cells (BX.out _ HB3.out)).2.2.2.2.2.1, (box_cells (BX.out _ HB3.out)).2.2.2.2.2.2.1, (box_cells (BX.out _ HB3.out)).2.2.2.2.2.2.2.1, (box_cells (BX.out _ HB3.out)).2.2.2.2.2.2.2.2.1, (box_cells (BX.out _ HB3.out)).2.2.2.2.2.2.2.2.2.1, (box_cells (BX.out _ HB3.out)).2.2.2.2.2.2.2.2.2.2.1, (box_cells (BX.out _ HB3.out)).2.2.2.2.2.2.2.2.2.2.2⟩ (fun hHeld => ?_)
  clear hK K
  refine norm_ (a' := ?_) ?_ ?_
  rotate_left
  · show Act.put _ (some 21) _ = _
    simp only [Act.put, List.setIfInBounds_toArray, List.set_cons_zero, List.set_cons_succ, i64_w, i32_w]
    rfl
  refine one_ (i := 6) (N := some 25) #[true, true, true, true, true, true, true, false, false] rfl rfl (by kernel_rfl) (by decide) (fun K hK => ?_)
  refine goes_ Try.func43 (by kernel_rfl) rfl #[.agg #[.slice A0 c.ws.length c0, .slice A1 c.cs.length c1, .int .i64 c.workers, .int .i64 c.copies, .int .i64 c.slots, .int .i64 c.batch, .int .i64 c.lease, .int .i64 c.hedge, .int .i64 c.first, .int .i64 c.cap, .int .i64 c.jitter, .int .i64 c.net], .int .i64 m1] (by rfl) rfl rfl (by simp only [List.map_toArray, List.map_cons, List.map_nil] <;> rfl) ?_
  with_reducible refine (fair_Bound.calls k2 A0 c0 c.ws A1 c1 c.cs c.workers c.copies c.slots c.batch c.lease c.hedge c.first c.cap c.jitter c.net m1 vb _ (Kd.C_below HR0.out (by repeat (first | (with_reducible exact HB.out) | apply below_alloc | apply pw_below_drewN | apply below_drew | (refine below_set ?_ (by simp))))) hc0 (Kd.C_below HR1.out (by repeat (first | (with_reducible exact HB.out) | apply below_alloc | apply pw_below_drewN | apply below_drew | (refine below_set ?_ (by simp))))) hc1 HK2.out).mono ?_
  rintro e w3 ⟨rfl, hb⟩
  refine ⟨_, rfl, ?_⟩
  have n0_ := Aside0.mk (below_step (by repeat (first | (with_reducible exact HB.out) | apply below_alloc | apply pw_below_drewN | apply below_drew | (refine below_set ?_ (by simp)))) hb)
  have n1_ := Aside0.mk (below_step (by repeat (first | (with_reducible exact HB3.out) | apply below_alloc | apply pw_below_drewN | apply below_drew | (refine below_set ?_ (by simp)))) hb)
  clear HB HB3 hb
  have HB := n0_
  have HB3 := n1_
  clear n0_ n1_
  refine hK.out _ _ ⟨(box_cells (BX.out _ HB3.out)).1, (box_cells (BX.out _ HB3.out)).2.1, (box_cells (BX.out _ HB3.out)).2.2.1, (box_cells (BX.out _ HB3.out)).2.2.2.1, (box_cells (BX.out _ HB3.out)).2.2.2.2.1, (box_cells (BX.out _ HB3.out)).2.2.2.2.2.1, (box_cells (BX.out _ HB3.out)).2.2.2.2.2.2.1, (box_cells (BX.out _ HB3.out)).2.2.2.2.2.2.2.1, (box_cells (BX.out _ HB3.out)).2.2.2.2.2.2.2.2.1, (box_cells (BX.out _ HB3.out)).2.2.2.2.2.2.2.2.2.1, (box_cells (BX.out _ HB3.out)).2.2.2.2.2.2.2.2.2.2.1, (box_cells (BX.out _ HB3.out)).2.2.2.2.2.2.2.2.2.2.2⟩ (fun hHeld => ?_)
  clear hK K
  refine norm_ (a' := ?_) ?_ ?_
  rotate_left
  · show Act.put _ (some 25) _ = _
    simp only [Act.put, List.setIfInBounds_toArray, List.set_cons_zero, List.set_cons_succ, i64_w, i32_w]
    rfl
  refine pure_ (i := 7) (N := some 5) (v := ?_) (a' := ?_) #[true, true, true, true, true, true, true, true, false] rfl rfl (by kernel_rfl) (fun _ _ _ h => h) (Or.inl ⟨by rfl, ?_⟩) ?_ ?_
  rotate_left
  · intro w'
    go_simp
    with_reducible rfl
  rotate_left
  · simp only [Act.put, List.setIfInBounds_toArray, List.set_cons_zero, List.set_cons_succ, i64_w, i32_w]
    rfl
  refine pure_ (i := 8) (N := some 6) (v := ?_) (a' := ?_) #[true, true, true, true, true, true, true, true, true] rfl rfl (by kernel_rfl) (fun _ _ _ h => h) (Or.inl ⟨by rfl, ?_⟩) ?_ ?_
  rotate_left
  · intro w'
    go_simp
    with_reducible rfl
  rotate_left
  · simp only [Act.put, List.setIfInBounds_toArray, List.set_cons_zero, List.set_cons_succ, i64_w, i32_w]
    rfl
  refine done_ (by kernel_rfl) ?_
  clear x0 x1 x2 x3 x4 x5 x6 x7 x8 x9 x10 x11
  obtain ⟨x0, x1, x2, x3, x4, x5, x6, x7, x8, x9, x10, x11⟩ := box_cells (BX.out _ HB3.out)
  go_wp2
  refine start_ (n := 14) (S := fun w' => w'.cell? ⟨gb, 0, none⟩ = some (.slice A0 c.ws.length c0) ∧ w'.cell? ⟨gb, 1, none⟩ = some (.slice A1 c.cs.length c1) ∧ w'.cell? ⟨gb, 2, none⟩ = some (.int .i64 c.workers) ∧ w'.cell? ⟨gb, 3, none⟩ = some (.int .i64 c.copies) ∧ w'.cell? ⟨gb, 4, none⟩ = some (.int .i64 c.slots) ∧ w'.cell? ⟨gb, 5, none⟩ = some (.int .i64 c.batch) ∧ w'.cell? ⟨gb, 6, none⟩ = some (.int .i64 c.lease) ∧ w'.cell? ⟨gb, 7, none⟩ = some (.int .i64 c.hedge) ∧ w'.cell? ⟨gb, 8, none⟩ = some (.int .i64 c.first) ∧ w'.cell? ⟨gb, 9, none⟩ = some (.int .i64 c.cap) ∧ w'.cell? ⟨gb, 10, none⟩ = some (.int .i64 c.jitter) ∧ w'.cell? ⟨gb, 11, none⟩ = some (.int .i64 c.net)) (ds := []) #[false, false, false, false, false, false, false, false, false, false, false, false, false, false] (by kernel_rfl) rfl rfl ⟨(box_cells (BX.out _ (by repeat (first | (with_reducible exact HB3.out) | apply below_alloc | apply pw_below_drewN | apply below_drew | (refine below_set ?_ (by simp)))))).1, (box_cells (BX.out _ (by repeat (first | (with_reducible exact HB3.out) | apply below_alloc | apply pw_below_drewN | apply below_drew | (refine below_set ?_ (by simp)))))).2.1, (box_cells (BX.out _ (by repeat (first | (with_reducible exact HB3.out) | apply below_alloc | apply pw_below_drewN | apply below_drew | (refine below_set ?_ (by simp)))))).2.2.1, (box_cells (BX.out _ (by repeat (first | (with_reducible exact HB3.out) | apply below_alloc | apply pw_below_drewN | apply below_drew | (refine below_set ?_ (by simp)))))).2.2.2.1, (box_cells (BX.out _ (by repeat (first | (with_reducible exact HB3.out) | apply below_alloc | apply pw_below_drewN | apply below_drew | (refine below_set ?_ (by simp)))))).2.2.2.2.1, (box_cells (BX.out _ (by repeat (first | (with_reducible exact HB3.out) | apply below_alloc | apply pw_below_drewN | apply below_drew | (refine below_set ?_ (by simp)))))).2.2.2.2.2.1, (box_cells (BX.out _ (by repeat (first | (with_reducible exact HB3.out) | apply below_alloc | apply pw_below_drewN | apply below_drew | (refine below_set ?_ (by simp)))))).2.2.2.2.2.2.1, (box_cells (BX.out _ (by repeat (first | (with_reducible exact HB3.out) | apply below_alloc | apply pw_below_drewN | apply below_drew | (refine below_set ?_ (by simp)))))).2.2.2.2.2.2.2.1, (box_cells (BX.out _ (by repeat (first | (with_reducible exact HB3.out) | apply below_alloc | apply pw_below_drewN | apply below_drew | (refine below_set ?_ (by simp)))))).2.2.2.2.2.2.2.2.1, (box_cells (BX.out _ (by repeat (first | (with_reducible exact HB3.out) | apply below_alloc | apply pw_below_drewN | apply below_drew | (refine below_set ?_ (by simp)))))).2.2.2.2.2.2.2.2.2.1, (box_cells (BX.out _ (by repeat (first | (with_reducible exact HB3.out) | apply below_alloc | apply pw_below_drewN | apply below_drew | (refine below_set ?_ (by simp)))))).2.2.2.2.2.2.2.2.2.2.1, (box_cells (BX.out _ (by repeat (first | (with_reducible exact HB3.out) | apply below_alloc | apply pw_below_drewN | apply below_drew | (refine below_set ?_ (by simp)))))).2.2.2.2.2.2.2.2.2.2.2⟩ (fun hHeld => ?_)
  refine pure_ (i := 0) (N := some 26) (v := ?_) (a' := ?_) #[true, false, false, false, false, false, false, false, false, false, false, false, false, false] rfl rfl (by kernel_rfl) (fun _ _ _ h => h) (Or.inl ⟨by rfl, ?_⟩) ?_ ?_
  rotate_left
  · intro w'
    go_simp
    with_reducible rfl
  rotate_left
  · simp only [Act.put, List.setIfInBounds_toArray, List.set_cons_zero, List.set_cons_succ, i64_w, i32_w]
    rfl
  refine pure_ (i := 6) (N := some 32) (v := ?_) (a' := ?_) #[true, false, false, false, false, false, true, false, false, false, false, false, false, false] rfl rfl (by kernel_rfl) (fun _ _ _ h => h) (Or.inl ⟨by rfl, ?_⟩) ?_ ?_
  rotate_left
  · intro w'
    go_simp
    with_reducible rfl
  rotate_left
  · simp only [Act.put, List.setIfInBounds_toArray, List.set_cons_zero, List.set_cons_succ, i64_w, i32_w]
    rfl
  refine take_ (i := 1) (N := some 27) (v := ?_) (a' := ?_) #[true, true, false, false, false, false, true, false, false, false, false, false, false, false] rfl rfl (by kernel_rfl) (fun _ _ _ h => h) (Or.inl ⟨by rfl, ?_⟩) hHeld ?_ ?_
  rotate_left
  · rintro w' ⟨s0, s1, s2, s3, s4, s5, s6, s7, s8, s9, s10, s11⟩
    go_simp
    with_reducible rfl
  rotate_left
  · simp only [Act.put, List.setIfInBounds_toArray, List.set_cons_zero, List.set_cons_succ, i64_w, i32_w]
    rfl
  refine take_ (i := 2) (N := some 28) (v := ?_) (a' := ?_) #[true, true, true, false, false, false, true, false, false, false, false, false, false, false] rfl rfl (by kernel_rfl) (fun _ _ _ h => h) (Or.inl ⟨by rfl, ?_⟩) hHeld ?_ ?_
  rotate_left
  · rintro w' ⟨s0, s1, s2, s3, s4, s5, s6, s7, s8, s9, s10, s11⟩
    go_simp
    with_reducible rfl
  rotate_left
  · simp only [Act.put, List.setIfInBounds_toArray, List.set_cons_zero, List.set_cons_succ, i64_w, i32_w]
    rfl
  refine take_ (i := 7) (N := some 33) (v := ?_) (a' := ?_) #[true, true, true, false, false, false, true, true, false, false, false, false, false, false] rfl rfl (by kernel_rfl) (fun _ _ _ h => h) (Or.inl ⟨by rfl, ?_⟩) hHeld ?_ ?_
  rotate_left
  · rintro w' ⟨s0, s1, s2, s3, s4, s5, s6, s7, s8, s9, s10, s11⟩
    go_simp
    with_reducible rfl
  rotate_left
  · simp only [Act.put, List.setIfInBounds_toArray, List.set_cons_zero, List.set_cons_succ, i64_w, i32_w]
    rfl
  refine take_ (i := 8) (N := some 34) (v := ?_) (a' := ?_) #[true, true, true, false, false, false, true, true, true, false, false, false, false, false] rfl rfl (by kernel_rfl) (fun _ _ _ h => h) (Or.inl ⟨by rfl, ?_⟩) hHeld ?_ ?_
  rotate_left
  · rintro w' ⟨s0, s1, s2, s3, s4, s5, s6, s7, s8, s9, s10, s11⟩
    go_simp
    with_reducible rfl
  rotate_left
  · simp only [Act.put, List.setIfInBounds_toArray, List.set_cons_zero, List.set_cons_succ, i64_w, i32_w]
    rfl
  refine one_ (i := 3) (N := some 29) #[true, true, true, true, false, false, true, true, true, false, false, false, false, false] rfl rfl (by kernel_rfl) (by decide) (fun K hK => ?_)
  refine goes_ Try.func44 (by kernel_rfl) rfl #[.agg #[.slice A0 c.ws.length c0, .slice A1 c.cs.length c1, .int .i64 c.workers, .int .i64 c.copies, .int .i64 c.slots, .int .i64 c.batch, .int .i64 c.lease, .int .i64 c.hedge, .int .i64 c.first, .int .i64 c.cap, .int .i64 c.jitter, .int .i64 c.net]] (by rfl) rfl rfl (by simp only [List.map_toArray, List.map_cons, List.map_nil] <;> rfl) ?_
  with_reducible refine (backoff_Most.calls A0 c0 c.ws A1 c1 c.cs c.workers c.copies c.slots c.batch c.lease c.hedge c.first c.cap c.jitter c.net ms _ (Kd.C_below HR0.out (by repeat (first | (with_reducible exact HB.out) | apply below_alloc | apply pw_below_drewN | apply below_drew | (refine below_set ?_ (by simp))))) hc0 (Kd.C_below HR1.out (by repeat (first | (with_reducible exact HB.out) | apply below_alloc | apply pw_below_drewN | apply below_drew | (refine below_set ?_ (by simp))))) hc1 HMS.out).mono ?_
  rintro e w3 ⟨rfl, hb⟩
  refine ⟨_, rfl, ?_⟩
  have n0_ := Aside0.mk (below_step (by repeat (first | (with_reducible exact HB.out) | apply below_alloc | apply pw_below_drewN | apply below_drew | (refine below_set ?_ (by simp)))) hb)
  have n1_ := Aside0.mk (below_step (by repeat (first | (with_reducible exact HB3.out) | apply below_alloc | apply pw_below_drewN | apply below_drew | (refine below_set ?_ (by simp)))) hb)
  clear HB HB3 hb
  have HB := n0_
  have HB3 := n1_
  clear n0_ n1_
  refine hK.out _ _ ⟨(box_cells (BX.out _ HB3.out)).1, (box_cells (BX.out _ HB3.out)).2.1, (box_cells (BX.out _ HB3.out)).2.2.1, (box_cells (BX.out _ HB3.out)).2.2.2.1, (box_cells (BX.out _ HB3.out)).2.2.2.2.1, (box_cells (BX.out _ HB3.out)).2.2.2.2.2.1, (box_cells (BX.out _ HB3.out)).2.2.2.2.2.2.1, (box_cells (BX.out _ HB3.out)).2.2.2.2.2.2.2.1, (box_cells (BX.out _ HB3.out)).2.2.2.2.2.2.2.2.1, (box_cells (BX.out _ HB3.out)).2.2.2.2.2.2.2.2.2.1, (box_cells (BX.out _ HB3.out)).2.2.2.2.2.2.2.2.2.2.1, (box_cells (BX.out _ HB3.out)).2.2.2.2.2.2.2.2.2.2.2⟩ (fun hHeld => ?_)
  clear hK K
  refine norm_ (a' := ?_) ?_ ?_
  rotate_left
  · show Act.put _ (some 29) _ = _
    simp only [Act.put, List.setIfInBounds_toArray, List.set_cons_zero, List.set_cons_succ, i64_w, i32_w]
    rfl
  refine pure_ (i := 4) (N := some 30) (v := ?_) (a' := ?_) #[true, true, true, true, true, false, true, true, true, false, false, false, false, false] rfl rfl (by kernel_rfl) (fun _ _ _ h => h) (Or.inl ⟨by rfl, ?_⟩) ?_ ?_
  rotate_left
  · intro w'
    go_simp
    with_reducible rfl
  rotate_left
  · simp only [Act.put, List.setIfInBounds_toArray, List.set_cons_zero, List.set_cons_succ, i64_w, i32_w]
    rfl
  refine pure_ (i := 5) (N := some 31) (v := ?_) (a' := ?_) #[true, true, true, true, true, true, true, true, true, false, false, false, false, false] rfl rfl (by kernel_rfl) (fun _ _ _ h => h) (Or.inl ⟨by rfl, ?_⟩) ?_ ?_
  rotate_left
  · intro w'
    go_simp
    with_reducible rfl
  rotate_left
  · simp only [Act.put, List.setIfInBounds_toArray, List.set_cons_zero, List.set_cons_succ, i64_w, i32_w]
    rfl
  refine one_ (i := 9) (N := some 35) #[true, true, true, true, true, true, true, true, true, true, false, false, false, false] rfl rfl (by kernel_rfl) (by decide) (fun K hK => ?_)
  refine goes_ Try.func39 (by kernel_rfl) rfl #[.agg #[.slice A0 c.ws.length c0, .slice A1 c.cs.length c1, .int .i64 c.workers, .int .i64 c.copies, .int .i64 c.slots, .int .i64 c.batch, .int .i64 c.lease, .int .i64 c.hedge, .int .i64 c.first, .int .i64 c.cap, .int .i64 c.jitter, .int .i64 c.net]] (by rfl) rfl rfl (by simp only [List.map_toArray, List.map_cons, List.map_nil] <;> rfl) ?_
  with_reducible refine (place_Shards.calls kS A0 c0 c.ws A1 c1 c.cs c.workers c.copies c.slots c.batch c.lease c.hedge c.first c.cap c.jitter c.net n _ (Kd.C_below HR0.out (by repeat (first | (with_reducible exact HB.out) | apply below_alloc | apply pw_below_drewN | apply below_drew | (refine below_set ?_ (by simp))))) hc0 (Kd.C_below HR1.out (by repeat (first | (with_reducible exact HB.out) | apply below_alloc | apply pw_below_drewN | apply below_drew | (refine below_set ?_ (by simp))))) hc1 HSH.out).mono ?_
  rintro e w3 ⟨rfl, hb⟩
  refine ⟨_, rfl, ?_⟩
  have n0_ := Aside0.mk (below_step (by repeat (first | (with_reducible exact HB.out) | apply below_alloc | apply pw_below_drewN | apply below_drew | (refine below_set ?_ (by simp)))) hb)
  have n1_ := Aside0.mk (below_step (by repeat (first | (with_reducible exact HB3.out) | apply below_alloc | apply pw_below_drewN | apply below_drew | (refine below_set ?_ (by simp)))) hb)
  clear HB HB3 hb
  have HB := n0_
  have HB3 := n1_
  clear n0_ n1_
  refine hK.out _ _ ⟨(box_cells (BX.out _ HB3.out)).1, (box_cells (BX.out _ HB3.out)).2.1, (box_cells (BX.out _ HB3.out)).2.2.1, (box_cells (BX.out _ HB3.out)).2.2.2.1, (box_cells (BX.out _ HB3.out)).2.2.2.2.1, (box_cells (BX.out _ HB3.out)).2.2.2.2.2.1, (box_cells (BX.out _ HB3.out)).2.2.2.2.2.2.1, (box_cells (BX.out _ HB3.out)).2.2.2.2.2.2.2.1, (box_cells (BX.out _ HB3.out)).2.2.2.2.2.2.2.2.1, (box_cells (BX.out _ HB3.out)).2.2.2.2.2.2.2.2.2.1, (box_cells (BX.out _ HB3.out)).2.2.2.2.2.2.2.2.2.2.1, (box_cells (BX.out _ HB3.out)).2.2.2.2.2.2.2.2.2.2.2⟩ (fun hHeld => ?_)
  clear hK K
  refine norm_ (a' := ?_) ?_ ?_
  rotate_left
  · show Act.put _ (some 35) _ = _
    simp only [Act.put, List.setIfInBounds_toArray, List.set_cons_zero, List.set_cons_succ, i64_w, i32_w]
    rfl
  refine pure_ (i := 10) (N := some 36) (v := ?_) (a' := ?_) #[true, true, true, true, true, true, true, true, true, true, true, false, false, false] rfl rfl (by kernel_rfl) (fun _ _ _ h => h) (Or.inl ⟨by rfl, ?_⟩) ?_ ?_
  rotate_left
  · intro w'
    go_simp
    with_reducible rfl
  rotate_left
  · simp only [Act.put, List.setIfInBounds_toArray, List.set_cons_zero, List.set_cons_succ, i64_w, i32_w]
    rfl
  refine pure_ (i := 11) (N := some 37) (v := ?_) (a' := ?_) #[true, true, true, true, true, true, true, true, true, true, true, true, false, false] rfl rfl (by kernel_rfl) (fun _ _ _ h => h) (Or.inl ⟨by rfl, ?_⟩) ?_ ?_
  rotate_left
  · intro w'
    go_simp
    with_reducible rfl
  rotate_left
  · simp only [Act.put, List.setIfInBounds_toArray, List.set_cons_zero, List.set_cons_succ, i64_w, i32_w]
    rfl
  refine pure_ (i := 12) (N := some 38) (v := ?_) (a' := ?_) #[true, true, true, true, true, true, true, true, true, true, true, true, true, false] rfl rfl (by kernel_rfl) (fun _ _ _ h => h) (Or.inl ⟨by rfl, ?_⟩) ?_ ?_
  rotate_left
  · intro w'
    go_simp
    with_reducible rfl
  rotate_left
  · simp only [Act.put, List.setIfInBounds_toArray, List.set_cons_zero, List.set_cons_succ, i64_w, i32_w]
    rfl
  refine pure_ (i := 13) (N := some 7) (v := ?_) (a' := ?_) #[true, true, true, true, true, true, true, true, true, true, true, true, true, true] rfl rfl (by kernel_rfl) (fun _ _ _ h => h) (Or.inl ⟨by rfl, ?_⟩) ?_ ?_
  rotate_left
  · intro w'
    go_simp
    with_reducible rfl
  rotate_left
  · simp only [Act.put, List.setIfInBounds_toArray, List.set_cons_zero, List.set_cons_succ, i64_w, i32_w]
    rfl
  refine done_ (by kernel_rfl) ?_
  clear x0 x1 x2 x3 x4 x5 x6 x7 x8 x9 x10 x11
  obtain ⟨x0, x1, x2, x3, x4, x5, x6, x7, x8, x9, x10, x11⟩ := box_cells (BX.out _ HB3.out)
  go_wp2_with (first | (go_at_call 43; (with_reducible refine (fair_Bound.calls k3 A0 c0 c.ws A1 c1 c.cs c.workers c.copies c.slots c.batch c.lease c.hedge c.first c.cap c.jitter c.net 0 0 _ (Kd.C_below HR0.out (by repeat (first | (with_reducible exact HB.out) | apply below_alloc | apply pw_below_drewN | apply below_drew | (refine below_set ?_ (by simp))))) hc0 (Kd.C_below HR1.out (by repeat (first | (with_reducible exact HB.out) | apply below_alloc | apply pw_below_drewN | apply below_drew | (refine below_set ?_ (by simp))))) hc1 HK3.out).mono ?_); rintro e w' ⟨rfl, hb⟩; have n0_ := Aside0.mk (below_step (by repeat (first | (with_reducible exact HB.out) | apply below_alloc | apply pw_below_drewN | apply below_drew | (refine below_set ?_ (by simp)))) hb); have n1_ := Aside0.mk (below_step (by repeat (first | (with_reducible exact HB3.out) | apply below_alloc | apply pw_below_drewN | apply below_drew | (refine below_set ?_ (by simp)))) hb); clear HB HB3 hb x0 x1 x2 x3 x4 x5 x6 x7 x8 x9 x10 x11; have HB := n0_; have HB3 := n1_; clear n0_ n1_; obtain ⟨x0, x1, x2, x3, x4, x5, x6, x7, x8, x9, x10, x11⟩ := box_cells (BX.out _ HB3.out)) | (go_at_call 43; (with_reducible refine (fair_Bound.calls k4 A0 c0 c.ws A1 c1 c.cs c.workers c.copies c.slots c.batch c.lease c.hedge c.first c.cap c.jitter c.net 11 0 _ (Kd.C_below HR0.out (by repeat (first | (with_reducible exact HB.out) | apply below_alloc | apply pw_below_drewN | apply below_drew | (refine below_set ?_ (by simp))))) hc0 (Kd.C_below HR1.out (by repeat (first | (with_reducible exact HB.out) | apply below_alloc | apply pw_below_drewN | apply below_drew | (refine below_set ?_ (by simp))))) hc1 HK4.out).mono ?_); rintro e w' ⟨rfl, hb⟩; have n0_ := Aside0.mk (below_step (by repeat (first | (with_reducible exact HB.out) | apply below_alloc | apply pw_below_drewN | apply below_drew | (refine below_set ?_ (by simp)))) hb); have n1_ := Aside0.mk (below_step (by repeat (first | (with_reducible exact HB3.out) | apply below_alloc | apply pw_below_drewN | apply below_drew | (refine below_set ?_ (by simp)))) hb); clear HB HB3 hb x0 x1 x2 x3 x4 x5 x6 x7 x8 x9 x10 x11; have HB := n0_; have HB3 := n1_; clear n0_ n1_; obtain ⟨x0, x1, x2, x3, x4, x5, x6, x7, x8, x9, x10, x11⟩ := box_cells (BX.out _ HB3.out)) | (go_at_call 42; (with_reducible refine (awake27_calls _).mono ?_); rintro e w' ⟨rfl, hb⟩; have n0_ := Aside0.mk (below_step (by repeat (first | (with_reducible exact HB.out) | apply below_alloc | apply pw_below_drewN | apply below_drew | (refine below_set ?_ (by simp)))) hb); have n1_ := Aside0.mk (below_step (by repeat (first | (with_reducible exact HB3.out) | apply below_alloc | apply pw_below_drewN | apply below_drew | (refine below_set ?_ (by simp)))) hb); clear HB HB3 hb x0 x1 x2 x3 x4 x5 x6 x7 x8 x9 x10 x11; have HB := n0_; have HB3 := n1_; clear n0_ n1_; obtain ⟨x0, x1, x2, x3, x4, x5, x6, x7, x8, x9, x10, x11⟩ := box_cells (BX.out _ HB3.out)))
  go_ret
  exact ⟨rfl, HB.out⟩
theorem FairBounds_walk (A0 : Option Addr) (c0 : Nat) (A1 : Option Addr) (c1 : Nat) (x : S43) (a1 : Int) (w : World) (hr0 : Kd.C Kd.string w A0 x.f0.length x.f0) (hc0 : x.f0.length ≤ c0) (hr1 : Kd.C k24 w A1 x.f1.length x.f1) (hc1 : x.f1.length ≤ c1) (ff : F43 x) (f1 : (Lit.int .i64 a1).wf = true) :
    Calls Try.prog 10 #[.agg #[.slice A0 x.f0.length c0, .slice A1 x.f1.length c1, .int .i64 x.f2, .int .i64 x.f3, .int .i64 x.f4, .int .i64 x.f5, .int .i64 x.f6, .int .i64 x.f7, .int .i64 x.f8, .int .i64 x.f9, .int .i64 x.f10, .int .i64 x.f11], .int .i64 a1] w fun e w' => e = .returned (.bool true) ∧ Below w.heap.size w w' := by
  obtain ⟨h1, h2, h3⟩ := cfg_sized ff
  exact FairBounds_go A0 c0 A1 c1 (cfgOf x) a1 w hr0 hc0 hr1 hc1 h1 h2 h3
end Go.Proofs.Ytiobphijbpdolaa.P
