/- The contract of fair.Window: is a window fair, of records within bounds. -/
import Derived.Test.YtiobphijbpdolaaQGood
import Derived.Test.YtiobphijbpdolaaPut
import Derived.Deep.RegionLaw
import Derived.Deep.RegionWith
namespace Go.Proofs.Ytiobphijbpdolaa.P
open Go.RowKit Go.Proofs.YtiobphijbpdolaaW.PrintWords Go.Proofs.YtiobphijbpdolaaW.PrintLast Go.Proofs.YtiobphijbpdolaaW.PrintMore Go.Maps
set_option linter.unusedVariables false
set_option linter.unusedSimpArgs false

theorem info_rec : (Try.prog.info? 71).map (fun i => (i.zero, i.size, i.bytes)) = some (some (.agg #[.int .i64 0, .int .i64 0, .int .i64 0, .int .i64 0, .string ⟨#[]⟩, .int .i64 0, .int .i64 0, .int .i64 0, .int .i64 0, .slice none 0 0, .int .i64 0, .slice none 0 0]), 12, 136) := by kernel_rfl
def cutB (n : Nat) (fr b : Int) : Bool := decide (b < 1) || decide (fr < 0) || decide ((n : Int) < fr) || decide ((n : Int) - fr < b)
def winB (c : Cfg) (recs : List S71) (fr b : Int) (good : List Int) : Bool := !cutB recs.length fr b && goodF c good && winGo c.workers good (wayL recs good) ((recs.drop fr.toNat).take b.toNat) (List.replicate (c.workers + 1).toNat false) false

set_option maxHeartbeats 4000000 in
set_option maxRecDepth 100000 in
theorem Window_calls (B0 : Option Addr) (d0 : Nat) (B1 : Option Addr) (d1 : Nat) (c : Cfg) (A0 : Option Addr) (c0 : Nat) (recs : List S71) (fr b : Int) (A1 : Option Addr) (c1 : Nat) (good : List Int) (w : World)
    (hra : Kd.C Kd.string w B0 c.ws.length c.ws) (hd0 : c.ws.length ≤ d0) (hrb : Kd.C k24 w B1 c.cs.length c.cs) (hd1 : c.cs.length ≤ d1) (hr0 : Kd.C k71 w A0 recs.length recs) (hc0 : recs.length ≤ c0) (hr1 : Kd.C (Kd.int .i64) w A1 good.length good) (hc1 : good.length ≤ c1)
    (hs : Sized c) (h0 : RecsIn recs) (h1 : good.length ≤ 100) (hz : ∀ r ∈ recs, (∀ s ∈ r.f3, (Lit.int .i64 s.f0).wf = true) ∧ ∀ x ∈ r.f5, (Lit.int .i64 x).wf = true) (hfr : (Lit.int .i64 fr).wf = true) (hbw : (Lit.int .i64 b).wf = true) :
    Calls Try.prog 46 #[.agg #[.slice B0 c.ws.length d0, .slice B1 c.cs.length d1, .int .i64 c.workers, .int .i64 c.copies, .int .i64 c.slots, .int .i64 c.batch, .int .i64 c.lease, .int .i64 c.hedge, .int .i64 c.first, .int .i64 c.cap, .int .i64 c.jitter, .int .i64 c.net], .slice A0 recs.length c0, .int .i64 fr, .int .i64 b, .slice A1 good.length c1] w fun e w' => e = .returned (.bool (winB c recs fr b good)) ∧ Below w.heap.size w w' := by
  have hu43 := Try.underlying43
  obtain ⟨kG, hG⟩ := (goodF_is c hs good).rounds
  have HG := Aside0.mk hG
  have HRa := Aside0.mk hra
  have HRb := Aside0.mk hrb
  have HR0 := Aside0.mk hr0
  have HR1 := Aside0.mk hr1
  have HZ := Aside0.mk hz
  have HB := Aside0.mk (Below.refl w.heap.size w)
  have h1000 := h0.1
  clear hG hra hrb hr0 hr1 hz
  obtain ⟨FIN, hFIN⟩ : ∃ FIN, FIN = winB c recs fr b good := ⟨_, rfl⟩
  rw [← hFIN]
  have HF := Aside0.mk hFIN
  clear hFIN
  by_cases q1 : b < 1
  · have d1' : decide (b < 1) = true := decide_eq_true q1
    have HE := Aside0.mk (show FIN = false from by rw [HF.out]; unfold winB cutB; rw [d1']; rfl)
    clear q1
    go_enter Try.func46, Try.ntmps46
    go_wp2_with (first | ((with_reducible refine gate_dst (N := 5) rfl ?_); (try (refine gate_guard (by rfl) ?_; dsimp only)); refine box_event ?hg (N := 5) ?hd (cs := #[.slice B0 c.ws.length d0, .slice B1 c.cs.length d1, .int .i64 c.workers, .int .i64 c.copies, .int .i64 c.slots, .int .i64 c.batch, .int .i64 c.lease, .int .i64 c.hedge, .int .i64 c.first, .int .i64 c.cap, .int .i64 c.jitter, .int .i64 c.net]) (t := 43) ?hr ?_; (case hd => rfl); (case hg => rfl); (case hr => first | (go_simp; done) | (go_simp; rfl)); intro gb hg w4 hbox hb; have n0_ := Aside0.mk (below_step (by repeat (first | (with_reducible exact HB.out) | apply below_alloc | apply pw_below_drewN | apply below_drew | (refine below_set ?_ (by simp)))) hb); have BX := Aside0.mk (box_stays hbox); clear HB hb hbox hg; have HB := n0_; have HB3 := Aside0.mk (Below.refl w4.heap.size w4); clear n0_; obtain ⟨x0, x1, x2, x3, x4, x5, x6, x7, x8, x9, x10, x11⟩ := box_cells (BX.out _ HB3.out)) | (go_at_call 61; (with_reducible refine (fair_Good.calls kG B0 d0 c.ws B1 d1 c.cs c.workers c.copies c.slots c.batch c.lease c.hedge c.first c.cap c.jitter c.net A1 c1 good _ _ (Kd.C_below HRa.out (by repeat (first | (with_reducible exact HB.out) | apply below_alloc | apply pw_below_drewN | apply below_drew | (refine below_set ?_ (by simp))))) hd0 (Kd.C_below HRb.out (by repeat (first | (with_reducible exact HB.out) | apply below_alloc | apply pw_below_drewN | apply below_drew | (refine below_set ?_ (by simp))))) hd1 (Kd.C_below HR1.out (by repeat (first | (with_reducible exact HB.out) | apply below_alloc | apply pw_below_drewN | apply below_drew | (refine below_set ?_ (by simp))))) hc1 HG.out).mono ?_); rintro e w' ⟨rfl, hb⟩; have n0_ := Aside0.mk (below_step (by repeat (first | (with_reducible exact HB.out) | apply below_alloc | apply pw_below_drewN | apply below_drew | (refine below_set ?_ (by simp)))) hb); have n1_ := Aside0.mk (below_step (by repeat (first | (with_reducible exact HB3.out) | apply below_alloc | apply pw_below_drewN | apply below_drew | (refine below_set ?_ (by simp)))) hb); clear HB HB3 hb x0 x1 x2 x3 x4 x5 x6 x7 x8 x9 x10 x11; have HB := n0_; have HB3 := n1_; clear n0_ n1_; obtain ⟨x0, x1, x2, x3, x4, x5, x6, x7, x8, x9, x10, x11⟩ := box_cells (BX.out _ HB3.out)))
    go_ret
    exact ⟨by rw [HE.out]; rfl, HB.out⟩
  have d1' : decide (b < 1) = false := decide_eq_false q1
  by_cases q2 : fr < 0
  · have d2' : decide (fr < 0) = true := decide_eq_true q2
    have HE := Aside0.mk (show FIN = false from by rw [HF.out]; unfold winB cutB; rw [d1', d2']; rfl)
    clear q1 q2
    go_enter Try.func46, Try.ntmps46
    go_wp2_with (first | ((with_reducible refine gate_dst (N := 5) rfl ?_); (try (refine gate_guard (by rfl) ?_; dsimp only)); refine box_event ?hg (N := 5) ?hd (cs := #[.slice B0 c.ws.length d0, .slice B1 c.cs.length d1, .int .i64 c.workers, .int .i64 c.copies, .int .i64 c.slots, .int .i64 c.batch, .int .i64 c.lease, .int .i64 c.hedge, .int .i64 c.first, .int .i64 c.cap, .int .i64 c.jitter, .int .i64 c.net]) (t := 43) ?hr ?_; (case hd => rfl); (case hg => rfl); (case hr => first | (go_simp; done) | (go_simp; rfl)); intro gb hg w4 hbox hb; have n0_ := Aside0.mk (below_step (by repeat (first | (with_reducible exact HB.out) | apply below_alloc | apply pw_below_drewN | apply below_drew | (refine below_set ?_ (by simp)))) hb); have BX := Aside0.mk (box_stays hbox); clear HB hb hbox hg; have HB := n0_; have HB3 := Aside0.mk (Below.refl w4.heap.size w4); clear n0_; obtain ⟨x0, x1, x2, x3, x4, x5, x6, x7, x8, x9, x10, x11⟩ := box_cells (BX.out _ HB3.out)) | (go_at_call 61; (with_reducible refine (fair_Good.calls kG B0 d0 c.ws B1 d1 c.cs c.workers c.copies c.slots c.batch c.lease c.hedge c.first c.cap c.jitter c.net A1 c1 good _ _ (Kd.C_below HRa.out (by repeat (first | (with_reducible exact HB.out) | apply below_alloc | apply pw_below_drewN | apply below_drew | (refine below_set ?_ (by simp))))) hd0 (Kd.C_below HRb.out (by repeat (first | (with_reducible exact HB.out) | apply below_alloc | apply pw_below_drewN | apply below_drew | (refine below_set ?_ (by simp))))) hd1 (Kd.C_below HR1.out (by repeat (first | (with_reducible exact HB.out) | apply below_alloc | apply pw_below_drewN | apply below_drew | (refine below_set ?_ (by simp))))) hc1 HG.out).mono ?_); rintro e w' ⟨rfl, hb⟩; have n0_ := Aside0.mk (below_step (by repeat (first | (with_reducible exact HB.out) | apply below_alloc | apply pw_below_drewN | apply below_drew | (refine below_set ?_ (by simp)))) hb); have n1_ := Aside0.mk (below_step (by repeat (first | (with_reducible exact HB3.out) | apply below_alloc | apply pw_below_drewN | apply below_drew | (refine below_set ?_ (by simp)))) hb); clear HB HB3 hb x0 x1 x2 x3 x4 x5 x6 x7 x8 x9 x10 x11; have HB := n0_; have HB3 := n1_; clear n0_ n1_; obtain ⟨x0, x1, x2, x3, x4, x5, x6, x7, x8, x9, x10, x11⟩ := box_cells (BX.out _ HB3.out)))
    go_ret
    exact ⟨by rw [HE.out]; rfl, HB.out⟩
  have d2' : decide (fr < 0) = false := decide_eq_false q2
  by_cases q3 : (recs.length : Int) < fr
  · have d3' : decide ((recs.length : Int) < fr) = true := decide_eq_true q3
    have HE := Aside0.mk (show FIN = false from by rw [HF.out]; unfold winB cutB; rw [d1', d2', d3']; rfl)
    clear q1 q2 q3
    go_enter Try.func46, Try.ntmps46
    go_wp2_with (first | ((with_reducible refine gate_dst (N := 5) rfl ?_); (try (refine gate_guard (by rfl) ?_; dsimp only)); refine box_event ?hg (N := 5) ?hd (cs := #[.slice B0 c.ws.length d0, .slice B1 c.cs.length d1, .int .i64 c.workers, .int .i64 c.copies, .int .i64 c.slots, .int .i64 c.batch, .int .i64 c.lease, .int .i64 c.hedge, .int .i64 c.first, .int .i64 c.cap, .int .i64 c.jitter, .int .i64 c.net]) (t := 43) ?hr ?_; (case hd => rfl); (case hg => rfl); (case hr => first | (go_simp; done) | (go_simp; rfl)); intro gb hg w4 hbox hb; have n0_ := Aside0.mk (below_step (by repeat (first | (with_reducible exact HB.out) | apply below_alloc | apply pw_below_drewN | apply below_drew | (refine below_set ?_ (by simp)))) hb); have BX := Aside0.mk (box_stays hbox); clear HB hb hbox hg; have HB := n0_; have HB3 := Aside0.mk (Below.refl w4.heap.size w4); clear n0_; obtain ⟨x0, x1, x2, x3, x4, x5, x6, x7, x8, x9, x10, x11⟩ := box_cells (BX.out _ HB3.out)) | (go_at_call 61; (with_reducible refine (fair_Good.calls kG B0 d0 c.ws B1 d1 c.cs c.workers c.copies c.slots c.batch c.lease c.hedge c.first c.cap c.jitter c.net A1 c1 good _ _ (Kd.C_below HRa.out (by repeat (first | (with_reducible exact HB.out) | apply below_alloc | apply pw_below_drewN | apply below_drew | (refine below_set ?_ (by simp))))) hd0 (Kd.C_below HRb.out (by repeat (first | (with_reducible exact HB.out) | apply below_alloc | apply pw_below_drewN | apply below_drew | (refine below_set ?_ (by simp))))) hd1 (Kd.C_below HR1.out (by repeat (first | (with_reducible exact HB.out) | apply below_alloc | apply pw_below_drewN | apply below_drew | (refine below_set ?_ (by simp))))) hc1 HG.out).mono ?_); rintro e w' ⟨rfl, hb⟩; have n0_ := Aside0.mk (below_step (by repeat (first | (with_reducible exact HB.out) | apply below_alloc | apply pw_below_drewN | apply below_drew | (refine below_set ?_ (by simp)))) hb); have n1_ := Aside0.mk (below_step (by repeat (first | (with_reducible exact HB3.out) | apply below_alloc | apply pw_below_drewN | apply below_drew | (refine below_set ?_ (by simp)))) hb); clear HB HB3 hb x0 x1 x2 x3 x4 x5 x6 x7 x8 x9 x10 x11; have HB := n0_; have HB3 := n1_; clear n0_ n1_; obtain ⟨x0, x1, x2, x3, x4, x5, x6, x7, x8, x9, x10, x11⟩ := box_cells (BX.out _ HB3.out)))
    go_ret
    exact ⟨by rw [HE.out]; rfl, HB.out⟩
  have d3' : decide ((recs.length : Int) < fr) = false := decide_eq_false q3
  obtain ⟨z, hz1⟩ : ∃ z : Int, z = (recs.length : Int) - fr := ⟨_, rfl⟩
  have wz : IntKind.i64.wrap ((recs.length : Int) - fr) = z := by rw [hz1]; exact IntWalk.i64_in _ (by omega)
  have wzb : wrap64 ((recs.length : Int) - fr) = z := by rw [← i64_w]; exact wz
  have HZ1 := Aside0.mk hz1
  by_cases q4 : z < b
  · have d4' : decide (z < b) = true := decide_eq_true q4
    have HE := Aside0.mk (show FIN = false from by rw [HF.out]; unfold winB cutB; rw [d1', d2', d3', show decide ((recs.length : Int) - fr < b) = true by rw [← hz1]; exact d4']; rfl)
    clear q1 q2 q3 q4 hz1
    go_enter Try.func46, Try.ntmps46
    go_wp2_with (first | ((with_reducible refine gate_dst (N := 5) rfl ?_); (try (refine gate_guard (by rfl) ?_; dsimp only)); refine box_event ?hg (N := 5) ?hd (cs := #[.slice B0 c.ws.length d0, .slice B1 c.cs.length d1, .int .i64 c.workers, .int .i64 c.copies, .int .i64 c.slots, .int .i64 c.batch, .int .i64 c.lease, .int .i64 c.hedge, .int .i64 c.first, .int .i64 c.cap, .int .i64 c.jitter, .int .i64 c.net]) (t := 43) ?hr ?_; (case hd => rfl); (case hg => rfl); (case hr => first | (go_simp; done) | (go_simp; rfl)); intro gb hg w4 hbox hb; have n0_ := Aside0.mk (below_step (by repeat (first | (with_reducible exact HB.out) | apply below_alloc | apply pw_below_drewN | apply below_drew | (refine below_set ?_ (by simp)))) hb); have BX := Aside0.mk (box_stays hbox); clear HB hb hbox hg; have HB := n0_; have HB3 := Aside0.mk (Below.refl w4.heap.size w4); clear n0_; obtain ⟨x0, x1, x2, x3, x4, x5, x6, x7, x8, x9, x10, x11⟩ := box_cells (BX.out _ HB3.out)) | (go_at_call 61; (with_reducible refine (fair_Good.calls kG B0 d0 c.ws B1 d1 c.cs c.workers c.copies c.slots c.batch c.lease c.hedge c.first c.cap c.jitter c.net A1 c1 good _ _ (Kd.C_below HRa.out (by repeat (first | (with_reducible exact HB.out) | apply below_alloc | apply pw_below_drewN | apply below_drew | (refine below_set ?_ (by simp))))) hd0 (Kd.C_below HRb.out (by repeat (first | (with_reducible exact HB.out) | apply below_alloc | apply pw_below_drewN | apply below_drew | (refine below_set ?_ (by simp))))) hd1 (Kd.C_below HR1.out (by repeat (first | (with_reducible exact HB.out) | apply below_alloc | apply pw_below_drewN | apply below_drew | (refine below_set ?_ (by simp))))) hc1 HG.out).mono ?_); rintro e w' ⟨rfl, hb⟩; have n0_ := Aside0.mk (below_step (by repeat (first | (with_reducible exact HB.out) | apply below_alloc | apply pw_below_drewN | apply below_drew | (refine below_set ?_ (by simp)))) hb); have n1_ := Aside0.mk (below_step (by repeat (first | (with_reducible exact HB3.out) | apply below_alloc | apply pw_below_drewN | apply below_drew | (refine below_set ?_ (by simp)))) hb); clear HB HB3 hb x0 x1 x2 x3 x4 x5 x6 x7 x8 x9 x10 x11; have HB := n0_; have HB3 := n1_; clear n0_ n1_; obtain ⟨x0, x1, x2, x3, x4, x5, x6, x7, x8, x9, x10, x11⟩ := box_cells (BX.out _ HB3.out)))
    go_ret
    exact ⟨by rw [HE.out]; rfl, HB.out⟩
  have d4' : decide (z < b) = false := decide_eq_false q4
  cases hg : goodF c good with
  | false =>
    have HE := Aside0.mk (show FIN = false from by rw [HF.out]; unfold winB; rw [hg]; simp)
    rw [hg] at HG
    clear hg q1 q2 q3 q4 hz1
    go_enter Try.func46, Try.ntmps46
    go_wp2_with (first | ((with_reducible refine gate_dst (N := 5) rfl ?_); (try (refine gate_guard (by rfl) ?_; dsimp only)); refine box_event ?hg (N := 5) ?hd (cs := #[.slice B0 c.ws.length d0, .slice B1 c.cs.length d1, .int .i64 c.workers, .int .i64 c.copies, .int .i64 c.slots, .int .i64 c.batch, .int .i64 c.lease, .int .i64 c.hedge, .int .i64 c.first, .int .i64 c.cap, .int .i64 c.jitter, .int .i64 c.net]) (t := 43) ?hr ?_; (case hd => rfl); (case hg => rfl); (case hr => first | (go_simp; done) | (go_simp; rfl)); intro gb hg w4 hbox hb; have n0_ := Aside0.mk (below_step (by repeat (first | (with_reducible exact HB.out) | apply below_alloc | apply pw_below_drewN | apply below_drew | (refine below_set ?_ (by simp)))) hb); have BX := Aside0.mk (box_stays hbox); clear HB hb hbox hg; have HB := n0_; have HB3 := Aside0.mk (Below.refl w4.heap.size w4); clear n0_; obtain ⟨x0, x1, x2, x3, x4, x5, x6, x7, x8, x9, x10, x11⟩ := box_cells (BX.out _ HB3.out)) | (go_at_call 61; (with_reducible refine (fair_Good.calls kG B0 d0 c.ws B1 d1 c.cs c.workers c.copies c.slots c.batch c.lease c.hedge c.first c.cap c.jitter c.net A1 c1 good _ _ (Kd.C_below HRa.out (by repeat (first | (with_reducible exact HB.out) | apply below_alloc | apply pw_below_drewN | apply below_drew | (refine below_set ?_ (by simp))))) hd0 (Kd.C_below HRb.out (by repeat (first | (with_reducible exact HB.out) | apply below_alloc | apply pw_below_drewN | apply below_drew | (refine below_set ?_ (by simp))))) hd1 (Kd.C_below HR1.out (by repeat (first | (with_reducible exact HB.out) | apply below_alloc | apply pw_below_drewN | apply below_drew | (refine below_set ?_ (by simp))))) hc1 HG.out).mono ?_); rintro e w' ⟨rfl, hb⟩; have n0_ := Aside0.mk (below_step (by repeat (first | (with_reducible exact HB.out) | apply below_alloc | apply pw_below_drewN | apply below_drew | (refine below_set ?_ (by simp)))) hb); have n1_ := Aside0.mk (below_step (by repeat (first | (with_reducible exact HB3.out) | apply below_alloc | apply pw_below_drewN | apply below_drew | (refine below_set ?_ (by simp)))) hb); clear HB HB3 hb x0 x1 x2 x3 x4 x5 x6 x7 x8 x9 x10 x11; have HB := n0_; have HB3 := n1_; clear n0_ n1_; obtain ⟨x0, x1, x2, x3, x4, x5, x6, x7, x8, x9, x10, x11⟩ := box_cells (BX.out _ HB3.out)))
    go_ret
    exact ⟨by rw [HE.out]; rfl, HB.out⟩
  | true =>
  rw [hg] at HG
  have hmay : mayB c = true := by
    unfold goodF at hg
    simp only [Bool.and_eq_true, decide_eq_true_eq] at hg
    cases h : mayB c with
    | true => rfl
    | false => exact absurd (show shards c = 0 by simp [shards, h]) hg.1.1
  have hmc := may_cuts hmay
  have HE := Aside0.mk (show FIN = winGo c.workers good (wayL recs good) ((recs.drop fr.toNat).take b.toNat) (List.replicate (c.workers + 1).toNat false) false from by
    rw [HF.out]
    unfold winB cutB
    rw [d1', d2', d3', show decide ((recs.length : Int) - fr < b) = false by rw [← hz1]; exact d4', hg]
    rfl)
  obtain ⟨z2, hz2⟩ : ∃ z2 : Int, z2 = fr + b := ⟨_, rfl⟩
  have wz2 : IntKind.i64.wrap (fr + b) = z2 := by rw [hz2]; exact IntWalk.i64_in _ (by omega)
  have wz2b : wrap64 (fr + b) = z2 := by rw [← i64_w]; exact wz2
  obtain ⟨L, hL⟩ : ∃ L, L = (recs.drop fr.toNat).take b.toNat := ⟨_, rfl⟩
  have hLl : L.length = b.toNat := by rw [hL, List.length_take, List.length_drop]; omega
  obtain ⟨i0, hi0, hz0, hz1', hz2'⟩ := info_parts info_rec
  have hcut := cut_mid (P := Try.prog) 62 71 .i64 .i64 Try.underlying62 hi0 12 hz1' A0 recs.length c0 fr z2 (by omega) (by omega) (by omega) hc0
  obtain ⟨A2, hA2⟩ : ∃ A2, A2 = (if c0 = fr.toNat then A0 else A0.map (·.add (fr.toNat * 12))) := ⟨_, rfl⟩
  have hCL : Kd.C k71 w A2 L.length L := by
    have h := Kd.C_drop HR0.out (m := fr.toNat) (c := c0) (by omega) hc0
    rw [hA2, hL]
    exact Kd.C_take h (by rw [List.length_drop]; omega)
  have hcc : L.length ≤ c0 - fr.toNat := by omega
  rw [← hA2, show z2.toNat - fr.toNat = L.length by omega] at hcut
  obtain ⟨c2, hc2⟩ : ∃ c2, c2 = c0 - fr.toNat := ⟨_, rfl⟩
  rw [← hc2] at hcut hcc
  have HCL := Aside0.mk hCL
  have hLin : RecsIn L := ⟨by have := List.length_take_le b.toNat (recs.drop fr.toNat); rw [hLl]; omega, fun r hr => h0.2 r (by rw [hL] at hr; exact List.mem_of_mem_drop (List.mem_of_mem_take hr))⟩
  have HLZ := Aside0.mk (fun (r : S71) (hr : r ∈ L) (x : Int) (hx : x ∈ r.f5) => (HZ.out r (by rw [hL] at hr; exact List.mem_of_mem_drop (List.mem_of_mem_take hr))).2 x hx)
  rw [← hL] at HE
  have HWY := Aside0.mk (fun (W : World) (hC : Kd.C k71 W A0 recs.length recs) (hC1 : Kd.C (Kd.int .i64) W A1 good.length good) => ways_calls A0 c0 recs A1 c1 good W hC hc0 hC1 hc1 h0 h1 (fun r hr s hs => (HZ.out r hr).1 s hs))
  have HWN := Aside0.mk (fun (W : World) (hC : Kd.C k71 W A2 L.length L) (hC1 : Kd.C (Kd.int .i64) W A1 good.length good) (bb n : Nat) (hm : MapIs W bb n (wayL recs good)) => window_calls B0 d0 B1 d1 c A2 c2 L A1 c1 good bb n (wayL recs good) W hC hcc hC1 hc1 hm hLin h1 HLZ.out (by omega) (by omega))
  clear hg q1 q2 q3 q4 hz1 hz2 hL hLl hcc hc2 hCL hLin hz0 hz1' hz2' hA2 hmc
  go_enter Try.func46, Try.ntmps46
  go_wp2_with (first | ((with_reducible refine gate_dst (N := 5) rfl ?_); (try (refine gate_guard (by rfl) ?_; dsimp only)); refine box_event ?hg (N := 5) ?hd (cs := #[.slice B0 c.ws.length d0, .slice B1 c.cs.length d1, .int .i64 c.workers, .int .i64 c.copies, .int .i64 c.slots, .int .i64 c.batch, .int .i64 c.lease, .int .i64 c.hedge, .int .i64 c.first, .int .i64 c.cap, .int .i64 c.jitter, .int .i64 c.net]) (t := 43) ?hr ?_; (case hd => rfl); (case hg => rfl); (case hr => first | (go_simp; done) | (go_simp; rfl)); intro gb hg w4 hbox hb; have n0_ := Aside0.mk (below_step (by repeat (first | (with_reducible exact HB.out) | apply below_alloc | apply pw_below_drewN | apply below_drew | (refine below_set ?_ (by simp)))) hb); have BX := Aside0.mk (box_stays hbox); clear HB hb hbox hg; have HB := n0_; have HB3 := Aside0.mk (Below.refl w4.heap.size w4); clear n0_; obtain ⟨x0, x1, x2, x3, x4, x5, x6, x7, x8, x9, x10, x11⟩ := box_cells (BX.out _ HB3.out)) | (go_at_call 61; (with_reducible refine (fair_Good.calls kG B0 d0 c.ws B1 d1 c.cs c.workers c.copies c.slots c.batch c.lease c.hedge c.first c.cap c.jitter c.net A1 c1 good _ _ (Kd.C_below HRa.out (by repeat (first | (with_reducible exact HB.out) | apply below_alloc | apply pw_below_drewN | apply below_drew | (refine below_set ?_ (by simp))))) hd0 (Kd.C_below HRb.out (by repeat (first | (with_reducible exact HB.out) | apply below_alloc | apply pw_below_drewN | apply below_drew | (refine below_set ?_ (by simp))))) hd1 (Kd.C_below HR1.out (by repeat (first | (with_reducible exact HB.out) | apply below_alloc | apply pw_below_drewN | apply below_drew | (refine below_set ?_ (by simp))))) hc1 HG.out).mono ?_); rintro e w' ⟨rfl, hb⟩; have n0_ := Aside0.mk (below_step (by repeat (first | (with_reducible exact HB.out) | apply below_alloc | apply pw_below_drewN | apply below_drew | (refine below_set ?_ (by simp)))) hb); have n1_ := Aside0.mk (below_step (by repeat (first | (with_reducible exact HB3.out) | apply below_alloc | apply pw_below_drewN | apply below_drew | (refine below_set ?_ (by simp)))) hb); clear HB HB3 hb x0 x1 x2 x3 x4 x5 x6 x7 x8 x9 x10 x11; have HB := n0_; have HB3 := n1_; clear n0_ n1_; obtain ⟨x0, x1, x2, x3, x4, x5, x6, x7, x8, x9, x10, x11⟩ := box_cells (BX.out _ HB3.out)))
  refine start_ (n := 13) (S := fun w' => w'.cell? ⟨gb, 0, none⟩ = some (.slice B0 c.ws.length d0) ∧ w'.cell? ⟨gb, 1, none⟩ = some (.slice B1 c.cs.length d1) ∧ w'.cell? ⟨gb, 2, none⟩ = some (.int .i64 c.workers) ∧ w'.cell? ⟨gb, 3, none⟩ = some (.int .i64 c.copies) ∧ w'.cell? ⟨gb, 4, none⟩ = some (.int .i64 c.slots) ∧ w'.cell? ⟨gb, 5, none⟩ = some (.int .i64 c.batch) ∧ w'.cell? ⟨gb, 6, none⟩ = some (.int .i64 c.lease) ∧ w'.cell? ⟨gb, 7, none⟩ = some (.int .i64 c.hedge) ∧ w'.cell? ⟨gb, 8, none⟩ = some (.int .i64 c.first) ∧ w'.cell? ⟨gb, 9, none⟩ = some (.int .i64 c.cap) ∧ w'.cell? ⟨gb, 10, none⟩ = some (.int .i64 c.jitter) ∧ w'.cell? ⟨gb, 11, none⟩ = some (.int .i64 c.net)) (ds := []) #[false, false, false, false, false, false, false, false, false, false, false, false, false] (by kernel_rfl) rfl rfl ⟨(box_cells (BX.out _ (by repeat (first | (with_reducible exact HB3.out) | apply below_alloc | apply pw_below_drewN | apply below_drew | (refine below_set ?_ (by simp)))))).1, (box_cells (BX.out _ (by repeat (first | (with_reducible exact HB3.out) | apply below_alloc | apply pw_below_drewN | apply below_drew | (refine below_set ?_ (by simp)))))).2.1, (box_cells (BX.out _ (by repeat (first | (with_reducible exact HB3.out) | apply below_alloc | apply pw_below_drewN | apply below_drew | (refine below_set ?_ (by simp)))))).2.2.1, (box_cells (BX.out _ (by repeat (first | (with_reducible exact HB3.out) | apply below_alloc | apply pw_below_drewN | apply below_drew | (refine below_set ?_ (by simp)))))).2.2.2.1, (box_cells (BX.out _ (by repeat (first | (with_reducible exact HB3.out) | apply below_alloc | apply pw_below_drewN | apply below_drew | (refine below_set ?_ (by simp)))))).2.2.2.2.1, (box_cells (BX.out _ (by repeat (first | (with_reducible exact HB3.out) | apply below_alloc | apply pw_below_drewN | apply below_drew | (refine below_set ?_ (by simp)))))).2.2.2.2.2.1, (box_cells (BX.out _ (by repeat (first | (with_reducible exact HB3.out) | apply below_alloc | apply pw_below_drewN | apply below_drew | (refine below_set ?_ (by simp)))))).2.2.2.2.2.2.1, (box_cells (BX.out _ (by repeat (first | (with_reducible exact HB3.out) | apply below_alloc | apply pw_below_drewN | apply below_drew | (refine below_set ?_ (by simp)))))).2.2.2.2.2.2.2.1, (box_cells (BX.out _ (by repeat (first | (with_reducible exact HB3.out) | apply below_alloc | apply pw_below_drewN | apply below_drew | (refine below_set ?_ (by simp)))))).2.2.2.2.2.2.2.2.1, (box_cells (BX.out _ (by repeat (first | (with_reducible exact HB3.out) | apply below_alloc | apply pw_below_drewN | apply below_drew | (refine below_set ?_ (by simp)))))).2.2.2.2.2.2.2.2.2.1, (box_cells (BX.out _ (by repeat (first | (with_reducible exact HB3.out) | apply below_alloc | apply pw_below_drewN | apply below_drew | (refine below_set ?_ (by simp)))))).2.2.2.2.2.2.2.2.2.2.1, (box_cells (BX.out _ (by repeat (first | (with_reducible exact HB3.out) | apply below_alloc | apply pw_below_drewN | apply below_drew | (refine below_set ?_ (by simp)))))).2.2.2.2.2.2.2.2.2.2.2⟩ (fun hHeld => ?_)
  refine pure_ (i := 1) (N := some 38) (v := ?_) (a' := ?_) #[false, true, false, false, false, false, false, false, false, false, false, false, false] rfl rfl (by kernel_rfl) (fun _ _ _ h => h) (Or.inl ⟨by rfl, ?_⟩) ?_ ?_
  rotate_left
  · intro w'
    go_simp
    with_reducible rfl
  rotate_left
  · simp only [Act.put, List.setIfInBounds_toArray, List.set_cons_zero, List.set_cons_succ, i64_w, i32_w]
    rfl
  refine pure_ (i := 2) (N := some 39) (v := ?_) (a' := ?_) #[false, true, true, false, false, false, false, false, false, false, false, false, false] rfl rfl (by kernel_rfl) (fun _ _ _ h => h) (Or.inl ⟨by rfl, ?_⟩) ?_ ?_
  rotate_left
  · intro w'
    go_simp
    with_reducible rfl
  rotate_left
  · simp only [Act.put, List.setIfInBounds_toArray, List.set_cons_zero, List.set_cons_succ, i64_w, i32_w]
    rfl
  refine pure_ (i := 3) (N := some 40) (v := ?_) (a' := ?_) #[false, true, true, true, false, false, false, false, false, false, false, false, false] rfl rfl (by kernel_rfl) (fun _ _ _ h => h) (Or.inl ⟨by rfl, ?_⟩) ?_ ?_
  rotate_left
  · intro w'
    go_simp
    with_reducible rfl
  rotate_left
  · simp only [Act.put, List.setIfInBounds_toArray, List.set_cons_zero, List.set_cons_succ, i64_w, i32_w]
    rfl
  refine pure_ (i := 4) (N := some 41) (v := ?_) (a' := ?_) #[false, true, true, true, true, false, false, false, false, false, false, false, false] rfl rfl (by kernel_rfl) (fun _ _ _ h => h) (Or.inl ⟨by rfl, ?_⟩) ?_ ?_
  rotate_left
  · intro w'
    go_simp
    with_reducible rfl
  rotate_left
  · simp only [Act.put, List.setIfInBounds_toArray, List.set_cons_zero, List.set_cons_succ, i64_w, i32_w]
    rfl
  refine pure_ (i := 5) (N := some 42) (v := ?_) (a' := ?_) #[false, true, true, true, true, true, false, false, false, false, false, false, false] rfl rfl (by kernel_rfl) (fun _ _ _ h => h) (Or.inl ⟨by rfl, ?_⟩) ?_ ?_
  rotate_left
  · intro w'
    go_simp
    with_reducible rfl
  rotate_left
  · simp only [Act.put, List.setIfInBounds_toArray, List.set_cons_zero, List.set_cons_succ, i64_w, i32_w]
    rfl
  refine pure_ (i := 6) (N := some 43) (v := ?_) (a' := ?_) #[false, true, true, true, true, true, true, false, false, false, false, false, false] rfl rfl (by kernel_rfl) (fun _ _ _ h => h) (Or.inl ⟨by rfl, ?_⟩) ?_ ?_
  rotate_left
  · intro w'
    go_simp
    with_reducible rfl
  rotate_left
  · simp only [Act.put, List.setIfInBounds_toArray, List.set_cons_zero, List.set_cons_succ, i64_w, i32_w]
    rfl
  refine pure_ (i := 7) (N := some 44) (v := ?_) (a' := ?_) #[false, true, true, true, true, true, true, true, false, false, false, false, false] rfl rfl (by kernel_rfl) (fun _ _ _ h => h) (Or.inl ⟨by rfl, ?_⟩) ?_ ?_
  rotate_left
  · intro w'
    go_simp
    with_reducible rfl
  rotate_left
  · simp only [Act.put, List.setIfInBounds_toArray, List.set_cons_zero, List.set_cons_succ, i64_w, i32_w]
    rfl
  refine pure_ (i := 8) (N := some 45) (v := ?_) (a' := ?_) #[false, true, true, true, true, true, true, true, true, false, false, false, false] rfl rfl (by kernel_rfl) (fun _ _ _ h => h) (Or.inl ⟨by rfl, ?_⟩) ?_ ?_
  rotate_left
  · intro w'
    go_simp
    with_reducible rfl
  rotate_left
  · simp only [Act.put, List.setIfInBounds_toArray, List.set_cons_zero, List.set_cons_succ, i64_w, i32_w]
    rfl
  refine pure_ (i := 9) (N := some 46) (v := ?_) (a' := ?_) #[false, true, true, true, true, true, true, true, true, true, false, false, false] rfl rfl (by kernel_rfl) (fun _ _ _ h => h) (Or.inl ⟨by rfl, ?_⟩) ?_ ?_
  rotate_left
  · intro w'
    go_simp
    with_reducible rfl
  rotate_left
  · simp only [Act.put, List.setIfInBounds_toArray, List.set_cons_zero, List.set_cons_succ, i64_w, i32_w]
    rfl
  refine take_ (i := 0) (N := some 37) (v := ?_) (a' := ?_) #[true, true, true, true, true, true, true, true, true, true, false, false, false] rfl rfl (by kernel_rfl) (fun _ _ _ h => h) (Or.inl ⟨by rfl, ?_⟩) hHeld ?_ ?_
  rotate_left
  · rintro w' ⟨s0, s1, s2, s3, s4, s5, s6, s7, s8, s9, s10, s11⟩
    go_simp
    with_reducible rfl
  rotate_left
  · simp only [Act.put, List.setIfInBounds_toArray, List.set_cons_zero, List.set_cons_succ, i64_w, i32_w]
    rfl
  refine one_ (i := 10) (N := some 47) #[true, true, true, true, true, true, true, true, true, true, true, false, false] rfl rfl (by kernel_rfl) (by decide) (fun K hK => ?_)
  refine goes_ Try.func64 (by kernel_rfl) rfl #[.slice A0 recs.length c0, .slice A1 good.length c1] (by rfl) rfl rfl (by simp only [List.map_toArray, List.map_cons, List.map_nil] <;> rfl) ?_
  with_reducible refine (HWY.out _ (Kd.C_below HR0.out (by repeat (first | (with_reducible exact HB.out) | apply below_alloc | apply pw_below_drewN | apply below_drew | (refine below_set ?_ (by simp))))) (Kd.C_below HR1.out (by repeat (first | (with_reducible exact HB.out) | apply below_alloc | apply pw_below_drewN | apply below_drew | (refine below_set ?_ (by simp)))))).mono ?_
  rintro e w3 ⟨bm, rfl, hmm, hml, hmh, hb⟩
  refine ⟨_, rfl, ?_⟩
  obtain ⟨nm, hmm⟩ := hmm
  have HMM := Aside0.mk hmm
  have n0_ := Aside0.mk (below_step (by repeat (first | (with_reducible exact HB.out) | apply below_alloc | apply pw_below_drewN | apply below_drew | (refine below_set ?_ (by simp)))) hb)
  have n1_ := Aside0.mk (below_step (by repeat (first | (with_reducible exact HB3.out) | apply below_alloc | apply pw_below_drewN | apply below_drew | (refine below_set ?_ (by simp)))) hb)
  clear HB HB3 hb hmm
  have HB := n0_
  have HB3 := n1_
  clear n0_ n1_
  refine hK.out _ _ ⟨(box_cells (BX.out _ HB3.out)).1, (box_cells (BX.out _ HB3.out)).2.1, (box_cells (BX.out _ HB3.out)).2.2.1, (box_cells (BX.out _ HB3.out)).2.2.2.1, (box_cells (BX.out _ HB3.out)).2.2.2.2.1, (box_cells (BX.out _ HB3.out)).2.2.2.2.2.1, (box_cells (BX.out _ HB3.out)).2.2.2.2.2.2.1, (box_cells (BX.out _ HB3.out)).2.2.2.2.2.2.2.1, (box_cells (BX.out _ HB3.out)).2.2.2.2.2.2.2.2.1, (box_cells (BX.out _ HB3.out)).2.2.2.2.2.2.2.2.2.1, (box_cells (BX.out _ HB3.out)).2.2.2.2.2.2.2.2.2.2.1, (box_cells (BX.out _ HB3.out)).2.2.2.2.2.2.2.2.2.2.2⟩ (fun hHeld => ?_)
  clear hK K
  refine norm_ (a' := ?_) ?_ ?_
  rotate_left
  · show Act.put _ (some 47) _ = _
    simp only [Act.put, List.setIfInBounds_toArray, List.set_cons_zero, List.set_cons_succ, i64_w, i32_w]
    rfl
  refine one_ (i := 11) (N := some 48) #[true, true, true, true, true, true, true, true, true, true, true, true, false] rfl rfl (by kernel_rfl) (by decide) (fun K hK => ?_)
  refine goes_ Try.func63 (by kernel_rfl) rfl #[.agg #[.slice B0 c.ws.length d0, .slice B1 c.cs.length d1, .int .i64 c.workers, .int .i64 c.copies, .int .i64 c.slots, .int .i64 c.batch, .int .i64 c.lease, .int .i64 c.hedge, .int .i64 c.first, .int .i64 c.cap, .int .i64 c.jitter, .int .i64 c.net], .slice A2 L.length c2, .slice A1 good.length c1, .map (some bm)] (by rfl) rfl rfl (by simp only [List.map_toArray, List.map_cons, List.map_nil] <;> rfl) ?_
  with_reducible refine (HWN.out _ (Kd.C_below HCL.out (by repeat (first | (with_reducible exact HB.out) | apply below_alloc | apply pw_below_drewN | apply below_drew | (refine below_set ?_ (by simp))))) (Kd.C_below HR1.out (by repeat (first | (with_reducible exact HB.out) | apply below_alloc | apply pw_below_drewN | apply below_drew | (refine below_set ?_ (by simp))))) bm nm HMM.out).mono ?_
  rintro e w3 ⟨rfl, hb⟩
  refine ⟨_, rfl, ?_⟩
  have n0_ := Aside0.mk (below_step (by repeat (first | (with_reducible exact HB.out) | apply below_alloc | apply pw_below_drewN | apply below_drew | (refine below_set ?_ (by simp)))) hb)
  have n1_ := Aside0.mk (below_step (by repeat (first | (with_reducible exact HB3.out) | apply below_alloc | apply pw_below_drewN | apply below_drew | (refine below_set ?_ (by simp)))) hb)
  clear HB HB3 hb
  have HB := n0_
  have HB3 := n1_
  clear n0_ n1_
  refine hK.out _ _ ⟨(box_cells (BX.out _ HB3.out)).1, (box_cells (BX.out _ HB3.out)).2.1, (box_cells (BX.out _ HB3.out)).2.2.1, (box_cells (BX.out _ HB3.out)).2.2.2.1, (box_cells (BX.out _ HB3.out)).2.2.2.2.1, (box_cells (BX.out _ HB3.out)).2.2.2.2.2.1, (box_cells (BX.out _ HB3.out)).2.2.2.2.2.2.1, (box_cells (BX.out _ HB3.out)).2.2.2.2.2.2.2.1, (box_cells (BX.out _ HB3.out)).2.2.2.2.2.2.2.2.1, (box_cells (BX.out _ HB3.out)).2.2.2.2.2.2.2.2.2.1, (box_cells (BX.out _ HB3.out)).2.2.2.2.2.2.2.2.2.2.1, (box_cells (BX.out _ HB3.out)).2.2.2.2.2.2.2.2.2.2.2⟩ (fun hHeld => ?_)
  clear hK K
  refine norm_ (a' := ?_) ?_ ?_
  rotate_left
  · show Act.put _ (some 48) _ = _
    simp only [Act.put, List.setIfInBounds_toArray, List.set_cons_zero, List.set_cons_succ, i64_w, i32_w]
    rfl
  refine pure_ (i := 12) (N := some 10) (v := ?_) (a' := ?_) #[true, true, true, true, true, true, true, true, true, true, true, true, true] rfl rfl (by kernel_rfl) (fun _ _ _ h => h) (Or.inl ⟨by rfl, ?_⟩) ?_ ?_
  rotate_left
  · intro w'
    go_simp
    with_reducible rfl
  rotate_left
  · simp only [Act.put, List.setIfInBounds_toArray, List.set_cons_zero, List.set_cons_succ, i64_w, i32_w]
    rfl
  refine done_ (by kernel_rfl) ?_
  go_wp2
  go_ret
  exact ⟨by rw [HE.out]; rfl, HB.out⟩
end Go.Proofs.Ytiobphijbpdolaa.P
