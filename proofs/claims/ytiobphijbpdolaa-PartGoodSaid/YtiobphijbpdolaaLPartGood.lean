/- inkhornlaw12.PartGood returns true, whatever the cuts and the keys. -/
import Derived.Test.YtiobphijbpdolaaHKept
import Derived.Test.YtiobphijbpdolaaHAwkP
import Derived.Test.YtiobphijbpdolaaKinds
import Derived.Test.YtiobphijbpdolaaPx21
import Derived.Deep.RegionLaw
import Derived.Deep.RegionWith
namespace Go.Proofs.Ytiobphijbpdolaa.P
open Go.RowKit Go.Proofs.YtiobphijbpdolaaW.PrintWords Go.Proofs.YtiobphijbpdolaaW.PrintLast Go.Proofs.YtiobphijbpdolaaW.PrintMore
set_option linter.unusedVariables false
set_option linter.unusedSimpArgs false

theorem box2_cells {W : World} {b : Nat} {v0 v1 : Value} {t : TypeId} (h : W.heap[b]? = some (.cells #[v0, v1] t (0, 0))) : W.cell? ⟨b, 0, none⟩ = some v0 ∧ W.cell? ⟨b, 1, none⟩ = some v1 :=
  ⟨(blk_cell h 0).trans rfl, (blk_cell h 1).trans rfl⟩
set_option maxHeartbeats 4000000 in
set_option maxRecDepth 100000 in
theorem PartGood_walk (A0 : Option Addr) (c0 : Nat) (l0 : List S24) (x1 x2 : S24) (w : World) (hr0 : Kd.C k24 w A0 l0.length l0) (hc0 : l0.length ≤ c0) (f0 : F22 l0) (f1 : F24 x1) (f2 : F24 x2) :
    Calls Try.prog 3 #[.slice A0 l0.length c0, .agg #[.int .i64 x1.f0, .string x1.f1], .agg #[.int .i64 x2.f0, .string x2.f1]] w fun e w' => e = .returned (.bool true) ∧ Below w.heap.size w w' := by
  have hu24 := Try.underlying24
  have HG := Aside0.mk (great_is l0)
  have HR0 := Aside0.mk hr0
  clear hr0
  have HB := Aside0.mk (Below.refl w.heap.size w)
  cases hg : greatKeys l0 with
  | true =>
    rw [hg] at HG
    clear hg
    go_enter Try.func3, Try.ntmps3
    go_wp2_with (first | ((with_reducible refine gate_dst (N := 4) rfl ?_); (try (refine gate_guard (by rfl) ?_; dsimp only)); refine box_event ?hg (N := 4) ?hd (cs := #[.int .i64 x1.f0, .string x1.f1]) (t := 24) ?hr ?_; (case hd => rfl); (case hg => rfl); (case hr => first | (go_simp; done) | (go_simp; rfl)); intro ga hg w3 hbox hb; have n0_ := Aside0.mk (below_step (by repeat (first | (with_reducible exact HB.out) | apply below_alloc | apply pw_below_drewN | apply below_drew | (refine below_set ?_ (by simp)))) hb); have BA := Aside0.mk hbox; clear HB hb hbox hg; have HB := n0_; clear n0_) | ((with_reducible refine gate_dst (N := 5) rfl ?_); (try (refine gate_guard (by rfl) ?_; dsimp only)); refine box_event ?hg (N := 5) ?hd (cs := #[.int .i64 x2.f0, .string x2.f1]) (t := 24) ?hr ?_; (case hd => rfl); (case hg => rfl); (case hr => first | (go_simp; done) | (go_simp; rfl)); intro gb hg w4 hbox hb; have n0_ := Aside0.mk (below_step (by repeat (first | (with_reducible exact HB.out) | apply below_alloc | apply pw_below_drewN | apply below_drew | (refine below_set ?_ (by simp)))) hb); have BXa := Aside0.mk (box_stays (blk_below BA.out hb)); have BXb := Aside0.mk (box_stays hbox); clear HB BA hb hbox hg; have HB := n0_; have HB3 := Aside0.mk (Below.refl w4.heap.size w4); clear n0_; have y0 := (box2_cells (BXa.out _ HB3.out)).1; have y1 := (box2_cells (BXa.out _ HB3.out)).2; have y2 := (box2_cells (BXb.out _ HB3.out)).1; have y3 := (box2_cells (BXb.out _ HB3.out)).2) | (go_at_call 13; (with_reducible refine (inkhornlaw12_great.calls 30 _ c0 l0 _ _ (Kd.C_below HR0.out (by repeat (first | (with_reducible exact HB.out) | apply below_alloc | apply pw_below_drewN | apply below_drew | (refine below_set ?_ (by simp))))) hc0 HG.out).mono ?_); rintro e w' ⟨rfl, hb⟩; have n0_ := Aside0.mk (below_step (by repeat (first | (with_reducible exact HB.out) | apply below_alloc | apply pw_below_drewN | apply below_drew | (refine below_set ?_ (by simp)))) hb); have n1_ := Aside0.mk (below_step (by repeat (first | (with_reducible exact HB3.out) | apply below_alloc | apply pw_below_drewN | apply below_drew | (refine below_set ?_ (by simp)))) hb); clear HB HB3 hb y0 y1 y2 y3; have HB := n0_; have HB3 := n1_; clear n0_ n1_; have y0 := (box2_cells (BXa.out _ HB3.out)).1; have y1 := (box2_cells (BXa.out _ HB3.out)).2; have y2 := (box2_cells (BXb.out _ HB3.out)).1; have y3 := (box2_cells (BXb.out _ HB3.out)).2) | (go_at_call 14; (with_reducible refine (inkhornlaw12_awake.calls true _ rfl).mono ?_); rintro e w' ⟨rfl, hb⟩; have n0_ := Aside0.mk (below_step (by repeat (first | (with_reducible exact HB.out) | apply below_alloc | apply pw_below_drewN | apply below_drew | (refine below_set ?_ (by simp)))) hb); have n1_ := Aside0.mk (below_step (by repeat (first | (with_reducible exact HB3.out) | apply below_alloc | apply pw_below_drewN | apply below_drew | (refine below_set ?_ (by simp)))) hb); clear HB HB3 hb y0 y1 y2 y3; have HB := n0_; have HB3 := n1_; clear n0_ n1_; have y0 := (box2_cells (BXa.out _ HB3.out)).1; have y1 := (box2_cells (BXa.out _ HB3.out)).2; have y2 := (box2_cells (BXb.out _ HB3.out)).1; have y3 := (box2_cells (BXb.out _ HB3.out)).2))
    go_ret
    exact ⟨rfl, HB.out⟩
  | false =>
  rw [hg] at HG
  by_cases h1 : (100 : Int) < (x1.f1.size : Int)
  · clear hg
    go_enter Try.func3, Try.ntmps3
    go_wp2_with (first | ((with_reducible refine gate_dst (N := 4) rfl ?_); (try (refine gate_guard (by rfl) ?_; dsimp only)); refine box_event ?hg (N := 4) ?hd (cs := #[.int .i64 x1.f0, .string x1.f1]) (t := 24) ?hr ?_; (case hd => rfl); (case hg => rfl); (case hr => first | (go_simp; done) | (go_simp; rfl)); intro ga hg w3 hbox hb; have n0_ := Aside0.mk (below_step (by repeat (first | (with_reducible exact HB.out) | apply below_alloc | apply pw_below_drewN | apply below_drew | (refine below_set ?_ (by simp)))) hb); have BA := Aside0.mk hbox; clear HB hb hbox hg; have HB := n0_; clear n0_) | ((with_reducible refine gate_dst (N := 5) rfl ?_); (try (refine gate_guard (by rfl) ?_; dsimp only)); refine box_event ?hg (N := 5) ?hd (cs := #[.int .i64 x2.f0, .string x2.f1]) (t := 24) ?hr ?_; (case hd => rfl); (case hg => rfl); (case hr => first | (go_simp; done) | (go_simp; rfl)); intro gb hg w4 hbox hb; have n0_ := Aside0.mk (below_step (by repeat (first | (with_reducible exact HB.out) | apply below_alloc | apply pw_below_drewN | apply below_drew | (refine below_set ?_ (by simp)))) hb); have BXa := Aside0.mk (box_stays (blk_below BA.out hb)); have BXb := Aside0.mk (box_stays hbox); clear HB BA hb hbox hg; have HB := n0_; have HB3 := Aside0.mk (Below.refl w4.heap.size w4); clear n0_; have y0 := (box2_cells (BXa.out _ HB3.out)).1; have y1 := (box2_cells (BXa.out _ HB3.out)).2; have y2 := (box2_cells (BXb.out _ HB3.out)).1; have y3 := (box2_cells (BXb.out _ HB3.out)).2) | (go_at_call 13; (with_reducible refine (inkhornlaw12_great.calls 30 _ c0 l0 _ _ (Kd.C_below HR0.out (by repeat (first | (with_reducible exact HB.out) | apply below_alloc | apply pw_below_drewN | apply below_drew | (refine below_set ?_ (by simp))))) hc0 HG.out).mono ?_); rintro e w' ⟨rfl, hb⟩; have n0_ := Aside0.mk (below_step (by repeat (first | (with_reducible exact HB.out) | apply below_alloc | apply pw_below_drewN | apply below_drew | (refine below_set ?_ (by simp)))) hb); have n1_ := Aside0.mk (below_step (by repeat (first | (with_reducible exact HB3.out) | apply below_alloc | apply pw_below_drewN | apply below_drew | (refine below_set ?_ (by simp)))) hb); clear HB HB3 hb y0 y1 y2 y3; have HB := n0_; have HB3 := n1_; clear n0_ n1_; have y0 := (box2_cells (BXa.out _ HB3.out)).1; have y1 := (box2_cells (BXa.out _ HB3.out)).2; have y2 := (box2_cells (BXb.out _ HB3.out)).1; have y3 := (box2_cells (BXb.out _ HB3.out)).2) | (go_at_call 14; (with_reducible refine (inkhornlaw12_awake.calls true _ rfl).mono ?_); rintro e w' ⟨rfl, hb⟩; have n0_ := Aside0.mk (below_step (by repeat (first | (with_reducible exact HB.out) | apply below_alloc | apply pw_below_drewN | apply below_drew | (refine below_set ?_ (by simp)))) hb); have n1_ := Aside0.mk (below_step (by repeat (first | (with_reducible exact HB3.out) | apply below_alloc | apply pw_below_drewN | apply below_drew | (refine below_set ?_ (by simp)))) hb); clear HB HB3 hb y0 y1 y2 y3; have HB := n0_; have HB3 := n1_; clear n0_ n1_; have y0 := (box2_cells (BXa.out _ HB3.out)).1; have y1 := (box2_cells (BXa.out _ HB3.out)).2; have y2 := (box2_cells (BXb.out _ HB3.out)).1; have y3 := (box2_cells (BXb.out _ HB3.out)).2))
    go_ret
    exact ⟨rfl, HB.out⟩
  by_cases h2 : (100 : Int) < (x2.f1.size : Int)
  · clear hg
    go_enter Try.func3, Try.ntmps3
    go_wp2_with (first | ((with_reducible refine gate_dst (N := 4) rfl ?_); (try (refine gate_guard (by rfl) ?_; dsimp only)); refine box_event ?hg (N := 4) ?hd (cs := #[.int .i64 x1.f0, .string x1.f1]) (t := 24) ?hr ?_; (case hd => rfl); (case hg => rfl); (case hr => first | (go_simp; done) | (go_simp; rfl)); intro ga hg w3 hbox hb; have n0_ := Aside0.mk (below_step (by repeat (first | (with_reducible exact HB.out) | apply below_alloc | apply pw_below_drewN | apply below_drew | (refine below_set ?_ (by simp)))) hb); have BA := Aside0.mk hbox; clear HB hb hbox hg; have HB := n0_; clear n0_) | ((with_reducible refine gate_dst (N := 5) rfl ?_); (try (refine gate_guard (by rfl) ?_; dsimp only)); refine box_event ?hg (N := 5) ?hd (cs := #[.int .i64 x2.f0, .string x2.f1]) (t := 24) ?hr ?_; (case hd => rfl); (case hg => rfl); (case hr => first | (go_simp; done) | (go_simp; rfl)); intro gb hg w4 hbox hb; have n0_ := Aside0.mk (below_step (by repeat (first | (with_reducible exact HB.out) | apply below_alloc | apply pw_below_drewN | apply below_drew | (refine below_set ?_ (by simp)))) hb); have BXa := Aside0.mk (box_stays (blk_below BA.out hb)); have BXb := Aside0.mk (box_stays hbox); clear HB BA hb hbox hg; have HB := n0_; have HB3 := Aside0.mk (Below.refl w4.heap.size w4); clear n0_; have y0 := (box2_cells (BXa.out _ HB3.out)).1; have y1 := (box2_cells (BXa.out _ HB3.out)).2; have y2 := (box2_cells (BXb.out _ HB3.out)).1; have y3 := (box2_cells (BXb.out _ HB3.out)).2) | (go_at_call 13; (with_reducible refine (inkhornlaw12_great.calls 30 _ c0 l0 _ _ (Kd.C_below HR0.out (by repeat (first | (with_reducible exact HB.out) | apply below_alloc | apply pw_below_drewN | apply below_drew | (refine below_set ?_ (by simp))))) hc0 HG.out).mono ?_); rintro e w' ⟨rfl, hb⟩; have n0_ := Aside0.mk (below_step (by repeat (first | (with_reducible exact HB.out) | apply below_alloc | apply pw_below_drewN | apply below_drew | (refine below_set ?_ (by simp)))) hb); have n1_ := Aside0.mk (below_step (by repeat (first | (with_reducible exact HB3.out) | apply below_alloc | apply pw_below_drewN | apply below_drew | (refine below_set ?_ (by simp)))) hb); clear HB HB3 hb y0 y1 y2 y3; have HB := n0_; have HB3 := n1_; clear n0_ n1_; have y0 := (box2_cells (BXa.out _ HB3.out)).1; have y1 := (box2_cells (BXa.out _ HB3.out)).2; have y2 := (box2_cells (BXb.out _ HB3.out)).1; have y3 := (box2_cells (BXb.out _ HB3.out)).2) | (go_at_call 14; (with_reducible refine (inkhornlaw12_awake.calls true _ rfl).mono ?_); rintro e w' ⟨rfl, hb⟩; have n0_ := Aside0.mk (below_step (by repeat (first | (with_reducible exact HB.out) | apply below_alloc | apply pw_below_drewN | apply below_drew | (refine below_set ?_ (by simp)))) hb); have n1_ := Aside0.mk (below_step (by repeat (first | (with_reducible exact HB3.out) | apply below_alloc | apply pw_below_drewN | apply below_drew | (refine below_set ?_ (by simp)))) hb); clear HB HB3 hb y0 y1 y2 y3; have HB := n0_; have HB3 := n1_; clear n0_ n1_; have y0 := (box2_cells (BXa.out _ HB3.out)).1; have y1 := (box2_cells (BXa.out _ HB3.out)).2; have y2 := (box2_cells (BXb.out _ HB3.out)).1; have y3 := (box2_cells (BXb.out _ HB3.out)).2))
    go_ret
    exact ⟨rfl, HB.out⟩
  simp only [greatKeys, Bool.or_eq_false_iff, decide_eq_false_iff_not] at hg
  have hl10 : l0.length ≤ 10 := by omega
  have hsz : ∀ c ∈ l0, c.f1.size ≤ 100 := fun c hc => by
    have := List.any_eq_false.1 hg.2 c hc
    simpa using this
  have HGD := Aside0.mk (good_is l0 (fun c hc => by have := hsz c hc; omega))
  obtain ⟨kR, hR⟩ := (refGood_is l0 (fun c hc => by have := hsz c hc; omega)).rounds
  have HRG := Aside0.mk hR
  have HLS := Aside0.mk (part_Less_is x1 x2)
  obtain ⟨kL, hL⟩ := (refLess_is x1 x2 (by omega) (by omega)).rounds
  have HRL := Aside0.mk hL
  have HLC := Aside0.mk (fun W (hC : Kd.C k24 W A0 l0.length l0) => lend_calls A0 c0 l0 W hC hc0 (by omega))
  have HKC := Aside0.mk (fun g c W (hk : KeyBlk W g (l0 ++ [mark, mark, mark])) (hC : Kd.C k24 W A0 l0.length l0) (hc : c = l0.length + 3) => kept_calls g A0 c0 l0 c W hk hC hc0 (by omega) hc)
  have HL10 := Aside0.mk hl10
  clear hg hR hL hsz hl10
  generalize goodCuts l0 = d at HGD HRG
  generalize keyLt x1 x2 = kk at HLS HRL
  go_enter Try.func3, Try.ntmps3
  go_wp2_with (first | ((with_reducible refine gate_dst (N := 4) rfl ?_); (try (refine gate_guard (by rfl) ?_; dsimp only)); refine box_event ?hg (N := 4) ?hd (cs := #[.int .i64 x1.f0, .string x1.f1]) (t := 24) ?hr ?_; (case hd => rfl); (case hg => rfl); (case hr => first | (go_simp; done) | (go_simp; rfl)); intro ga hg w3 hbox hb; have n0_ := Aside0.mk (below_step (by repeat (first | (with_reducible exact HB.out) | apply below_alloc | apply pw_below_drewN | apply below_drew | (refine below_set ?_ (by simp)))) hb); have BA := Aside0.mk hbox; clear HB hb hbox hg; have HB := n0_; clear n0_) | ((with_reducible refine gate_dst (N := 5) rfl ?_); (try (refine gate_guard (by rfl) ?_; dsimp only)); refine box_event ?hg (N := 5) ?hd (cs := #[.int .i64 x2.f0, .string x2.f1]) (t := 24) ?hr ?_; (case hd => rfl); (case hg => rfl); (case hr => first | (go_simp; done) | (go_simp; rfl)); intro gb hg w4 hbox hb; have n0_ := Aside0.mk (below_step (by repeat (first | (with_reducible exact HB.out) | apply below_alloc | apply pw_below_drewN | apply below_drew | (refine below_set ?_ (by simp)))) hb); have BXa := Aside0.mk (box_stays (blk_below BA.out hb)); have BXb := Aside0.mk (box_stays hbox); clear HB BA hb hbox hg; have HB := n0_; have HB3 := Aside0.mk (Below.refl w4.heap.size w4); clear n0_; have y0 := (box2_cells (BXa.out _ HB3.out)).1; have y1 := (box2_cells (BXa.out _ HB3.out)).2; have y2 := (box2_cells (BXb.out _ HB3.out)).1; have y3 := (box2_cells (BXb.out _ HB3.out)).2) | (go_at_call 13; (with_reducible refine (inkhornlaw12_great.calls 30 _ c0 l0 _ _ (Kd.C_below HR0.out (by repeat (first | (with_reducible exact HB.out) | apply below_alloc | apply pw_below_drewN | apply below_drew | (refine below_set ?_ (by simp))))) hc0 HG.out).mono ?_); rintro e w' ⟨rfl, hb⟩; have n0_ := Aside0.mk (below_step (by repeat (first | (with_reducible exact HB.out) | apply below_alloc | apply pw_below_drewN | apply below_drew | (refine below_set ?_ (by simp)))) hb); have n1_ := Aside0.mk (below_step (by repeat (first | (with_reducible exact HB3.out) | apply below_alloc | apply pw_below_drewN | apply below_drew | (refine below_set ?_ (by simp)))) hb); clear HB HB3 hb y0 y1 y2 y3; have HB := n0_; have HB3 := n1_; clear n0_ n1_; have y0 := (box2_cells (BXa.out _ HB3.out)).1; have y1 := (box2_cells (BXa.out _ HB3.out)).2; have y2 := (box2_cells (BXb.out _ HB3.out)).1; have y3 := (box2_cells (BXb.out _ HB3.out)).2) | (go_at_call 15; (with_reducible refine (HLC.out _ (Kd.C_below HR0.out (by repeat (first | (with_reducible exact HB.out) | apply below_alloc | apply pw_below_drewN | apply below_drew | (refine below_set ?_ (by simp)))))).mono ?_); rintro e w' ⟨gk, n, c, rfl, hn, hc, hgk, hkb, hb⟩; have HKB := Aside0.mk hkb; have HCC := Aside0.mk hc; clear hkb hc hgk; subst hn; have n0_ := Aside0.mk (below_step (by repeat (first | (with_reducible exact HB.out) | apply below_alloc | apply pw_below_drewN | apply below_drew | (refine below_set ?_ (by simp)))) hb); have n1_ := Aside0.mk (below_step (by repeat (first | (with_reducible exact HB3.out) | apply below_alloc | apply pw_below_drewN | apply below_drew | (refine below_set ?_ (by simp)))) hb); clear HB HB3 hb y0 y1 y2 y3; have HB := n0_; have HB3 := n1_; clear n0_ n1_; have y0 := (box2_cells (BXa.out _ HB3.out)).1; have y1 := (box2_cells (BXa.out _ HB3.out)).2; have y2 := (box2_cells (BXb.out _ HB3.out)).1; have y3 := (box2_cells (BXb.out _ HB3.out)).2; have HB5 := Aside0.mk (Below.refl w'.heap.size w')))
  have HBK := Aside0.mk (show ∀ W, Below w'.heap.size w' W → KeyBlk W gk (l0 ++ [mark, mark, mark]) from box_stays HKB.out)
  refine start_ (n := 24) (S := fun w' => w'.cell? ⟨ga, 0, none⟩ = some (.int .i64 x1.f0) ∧ w'.cell? ⟨ga, 1, none⟩ = some (.string x1.f1) ∧ w'.cell? ⟨gb, 0, none⟩ = some (.int .i64 x2.f0) ∧ w'.cell? ⟨gb, 1, none⟩ = some (.string x2.f1)) (ds := []) #[false, false, false, false, false, false, false, false, false, false, false, false, false, false, false, false, false, false, false, false, false, false, false, false] (by kernel_rfl) rfl rfl ⟨(box2_cells (BXa.out _ (by repeat (first | (with_reducible exact HB3.out) | apply below_alloc | apply pw_below_drewN | apply below_drew | (refine below_set ?_ (by simp)))))).1, (box2_cells (BXa.out _ (by repeat (first | (with_reducible exact HB3.out) | apply below_alloc | apply pw_below_drewN | apply below_drew | (refine below_set ?_ (by simp)))))).2, (box2_cells (BXb.out _ (by repeat (first | (with_reducible exact HB3.out) | apply below_alloc | apply pw_below_drewN | apply below_drew | (refine below_set ?_ (by simp)))))).1, (box2_cells (BXb.out _ (by repeat (first | (with_reducible exact HB3.out) | apply below_alloc | apply pw_below_drewN | apply below_drew | (refine below_set ?_ (by simp)))))).2⟩ (fun hHeld => ?_)
  refine pure_ (i := 0) (N := some 25) (v := ?_) (a' := ?_) #[true, false, false, false, false, false, false, false, false, false, false, false, false, false, false, false, false, false, false, false, false, false, false, false] rfl rfl (by kernel_rfl) (fun _ _ _ h => h) (Or.inl ⟨by rfl, ?_⟩) ?_ ?_
  rotate_left
  · intro w'
    go_simp
    with_reducible rfl
  rotate_left
  · simp only [Act.put, List.setIfInBounds_toArray, List.set_cons_zero, List.set_cons_succ, i64_w, i32_w]
    rfl
  refine pure_ (i := 3) (N := some 28) (v := ?_) (a' := ?_) #[true, false, false, true, false, false, false, false, false, false, false, false, false, false, false, false, false, false, false, false, false, false, false, false] rfl rfl (by kernel_rfl) (fun _ _ _ h => h) (Or.inl ⟨by rfl, ?_⟩) ?_ ?_
  rotate_left
  · intro w'
    go_simp
    with_reducible rfl
  rotate_left
  · simp only [Act.put, List.setIfInBounds_toArray, List.set_cons_zero, List.set_cons_succ, i64_w, i32_w]
    rfl
  refine one_ (i := 1) (N := some 26) #[true, true, false, true, false, false, false, false, false, false, false, false, false, false, false, false, false, false, false, false, false, false, false, false] rfl rfl (by kernel_rfl) (by decide) (fun K hK => ?_)
  refine goes_ Try.func17 (by kernel_rfl) rfl #[.slice (some ⟨gk, 0, none⟩) l0.length c] (by rfl) rfl rfl (by simp only [List.map_toArray, List.map_cons, List.map_nil] <;> rfl) ?_
  with_reducible refine (part_Good.calls 20 _ c l0 _ _ (keyBlk_reads (HBK.out _ (by repeat (first | (with_reducible exact HB5.out) | apply below_alloc | apply pw_below_drewN | apply below_drew | (refine below_set ?_ (by simp))))) (by have := HL10.out; omega)) (by have := HCC.out; omega) HGD.out).mono ?_
  rintro e w5 ⟨rfl, hb⟩
  refine ⟨_, rfl, ?_⟩
  have n0_ := Aside0.mk (below_step (by repeat (first | (with_reducible exact HB.out) | apply below_alloc | apply pw_below_drewN | apply below_drew | (refine below_set ?_ (by simp)))) hb)
  have n1_ := Aside0.mk (below_step (by repeat (first | (with_reducible exact HB3.out) | apply below_alloc | apply pw_below_drewN | apply below_drew | (refine below_set ?_ (by simp)))) hb)
  have n2_ := Aside0.mk (below_step (by repeat (first | (with_reducible exact HB5.out) | apply below_alloc | apply pw_below_drewN | apply below_drew | (refine below_set ?_ (by simp)))) hb)
  clear HB HB3 HB5 hb
  have HB := n0_
  have HB3 := n1_
  have HB5 := n2_
  clear n0_ n1_ n2_
  refine hK.out _ _ ⟨(box2_cells (BXa.out _ HB3.out)).1, (box2_cells (BXa.out _ HB3.out)).2, (box2_cells (BXb.out _ HB3.out)).1, (box2_cells (BXb.out _ HB3.out)).2⟩ (fun hHeld => ?_)
  clear hK K
  refine norm_ (a' := ?_) ?_ ?_
  rotate_left
  · show Act.put _ (some 26) _ = _
    simp only [Act.put, List.setIfInBounds_toArray, List.set_cons_zero, List.set_cons_succ, i64_w, i32_w]
    rfl
  refine one_ (i := 2) (N := some 27) #[true, true, true, true, false, false, false, false, false, false, false, false, false, false, false, false, false, false, false, false, false, false, false, false] rfl rfl (by kernel_rfl) (by decide) (fun K hK => ?_)
  refine goes_ Try.func16 (by kernel_rfl) rfl #[.int .i64 d] (by rfl) rfl rfl (by simp only [List.map_toArray, List.map_cons, List.map_nil] <;> rfl) ?_
  with_reducible refine (inkhornlaw0_Num.calls d d _ rfl).mono ?_
  rintro e w5 ⟨rfl, ⟨nd, rfl⟩⟩
  refine ⟨_, rfl, ?_⟩
  refine hK.out _ _ ⟨(box2_cells (BXa.out _ (by repeat (first | (with_reducible exact HB3.out) | apply below_alloc | apply pw_below_drewN | apply below_drew | (refine below_set ?_ (by simp)))))).1, (box2_cells (BXa.out _ (by repeat (first | (with_reducible exact HB3.out) | apply below_alloc | apply pw_below_drewN | apply below_drew | (refine below_set ?_ (by simp)))))).2, (box2_cells (BXb.out _ (by repeat (first | (with_reducible exact HB3.out) | apply below_alloc | apply pw_below_drewN | apply below_drew | (refine below_set ?_ (by simp)))))).1, (box2_cells (BXb.out _ (by repeat (first | (with_reducible exact HB3.out) | apply below_alloc | apply pw_below_drewN | apply below_drew | (refine below_set ?_ (by simp)))))).2⟩ (fun hHeld => ?_)
  clear hK K
  refine norm_ (a' := ?_) ?_ ?_
  rotate_left
  · show Act.put _ (some 27) _ = _
    simp only [Act.put, List.setIfInBounds_toArray, List.set_cons_zero, List.set_cons_succ, i64_w, i32_w]
    rfl
  refine one_ (i := 4) (N := some 29) #[true, true, true, true, true, false, false, false, false, false, false, false, false, false, false, false, false, false, false, false, false, false, false, false] rfl rfl (by kernel_rfl) (by decide) (fun K hK => ?_)
  refine goes_ Try.func18 (by kernel_rfl) rfl #[.slice A0 l0.length c0] (by rfl) rfl rfl (by simp only [List.map_toArray, List.map_cons, List.map_nil] <;> rfl) ?_
  with_reducible refine (inkhornref12_Good.calls kR A0 c0 l0 _ _ (Kd.C_below HR0.out (by repeat (first | (with_reducible exact HB.out) | apply below_alloc | apply pw_below_drewN | apply below_drew | (refine below_set ?_ (by simp))))) hc0 HRG.out).mono ?_
  rintro e w5 ⟨rfl, hb⟩
  refine ⟨_, rfl, ?_⟩
  have n0_ := Aside0.mk (below_step (by repeat (first | (with_reducible exact HB.out) | apply below_alloc | apply pw_below_drewN | apply below_drew | (refine below_set ?_ (by simp)))) hb)
  have n1_ := Aside0.mk (below_step (by repeat (first | (with_reducible exact HB3.out) | apply below_alloc | apply pw_below_drewN | apply below_drew | (refine below_set ?_ (by simp)))) hb)
  have n2_ := Aside0.mk (below_step (by repeat (first | (with_reducible exact HB5.out) | apply below_alloc | apply pw_below_drewN | apply below_drew | (refine below_set ?_ (by simp)))) hb)
  clear HB HB3 HB5 hb
  have HB := n0_
  have HB3 := n1_
  have HB5 := n2_
  clear n0_ n1_ n2_
  refine hK.out _ _ ⟨(box2_cells (BXa.out _ HB3.out)).1, (box2_cells (BXa.out _ HB3.out)).2, (box2_cells (BXb.out _ HB3.out)).1, (box2_cells (BXb.out _ HB3.out)).2⟩ (fun hHeld => ?_)
  clear hK K
  refine norm_ (a' := ?_) ?_ ?_
  rotate_left
  · show Act.put _ (some 29) _ = _
    simp only [Act.put, List.setIfInBounds_toArray, List.set_cons_zero, List.set_cons_succ, i64_w, i32_w]
    rfl
  refine pure_ (i := 5) (N := some 30) (v := ?_) (a' := ?_) #[true, true, true, true, true, true, false, false, false, false, false, false, false, false, false, false, false, false, false, false, false, false, false, false] rfl rfl (by kernel_rfl) (fun _ _ _ h => h) (Or.inl ⟨by rfl, ?_⟩) ?_ ?_
  rotate_left
  · intro w'
    go_simp
    with_reducible rfl
  rotate_left
  · simp only [Act.put, List.setIfInBounds_toArray, List.set_cons_zero, List.set_cons_succ, i64_w, i32_w]
    rfl
  refine pure_ (i := 6) (N := some 31) (v := ?_) (a' := ?_) #[true, true, true, true, true, true, true, false, false, false, false, false, false, false, false, false, false, false, false, false, false, false, false, false] rfl rfl (by kernel_rfl) (fun _ _ _ h => h) (Or.inl ⟨by rfl, ?_⟩) ?_ ?_
  rotate_left
  · intro w'
    go_simp
    with_reducible rfl
  rotate_left
  · simp only [Act.put, List.setIfInBounds_toArray, List.set_cons_zero, List.set_cons_succ, i64_w, i32_w]
    rfl
  refine pure_ (i := 7) (N := some 32) (v := ?_) (a' := ?_) #[true, true, true, true, true, true, true, true, false, false, false, false, false, false, false, false, false, false, false, false, false, false, false, false] rfl rfl (by kernel_rfl) (fun _ _ _ h => h) (Or.inl ⟨by rfl, ?_⟩) ?_ ?_
  rotate_left
  · intro w'
    go_simp
    with_reducible rfl
  rotate_left
  · simp only [Act.put, List.setIfInBounds_toArray, List.set_cons_zero, List.set_cons_succ, i64_w, i32_w]
    rfl
  refine pure_ (i := 8) (N := some 33) (v := ?_) (a' := ?_) #[true, true, true, true, true, true, true, true, true, false, false, false, false, false, false, false, false, false, false, false, false, false, false, false] rfl rfl (by kernel_rfl) (fun _ _ _ h => h) (Or.inl ⟨by rfl, ?_⟩) ?_ ?_
  rotate_left
  · intro w'
    go_simp
    with_reducible rfl
  rotate_left
  · simp only [Act.put, List.setIfInBounds_toArray, List.set_cons_zero, List.set_cons_succ, i64_w, i32_w]
    rfl
  refine one_ (i := 9) (N := some 34) #[true, true, true, true, true, true, true, true, true, true, false, false, false, false, false, false, false, false, false, false, false, false, false, false] rfl rfl (by kernel_rfl) (by decide) (fun K hK => ?_)
  refine goes_ Try.func19 (by kernel_rfl) rfl #[.slice (some ⟨gk, 0, none⟩) l0.length c, .slice A0 l0.length c0] (by rfl) rfl rfl (by simp only [List.map_toArray, List.map_cons, List.map_nil] <;> rfl) ?_
  with_reducible refine (HKC.out gk c _ (HBK.out _ (by repeat (first | (with_reducible exact HB5.out) | apply below_alloc | apply pw_below_drewN | apply below_drew | (refine below_set ?_ (by simp))))) (Kd.C_below HR0.out (by repeat (first | (with_reducible exact HB.out) | apply below_alloc | apply pw_below_drewN | apply below_drew | (refine below_set ?_ (by simp))))) HCC.out).mono ?_
  rintro e w5 ⟨rfl, hb⟩
  refine ⟨_, rfl, ?_⟩
  have n0_ := Aside0.mk (below_step (by repeat (first | (with_reducible exact HB.out) | apply below_alloc | apply pw_below_drewN | apply below_drew | (refine below_set ?_ (by simp)))) hb)
  have n1_ := Aside0.mk (below_step (by repeat (first | (with_reducible exact HB3.out) | apply below_alloc | apply pw_below_drewN | apply below_drew | (refine below_set ?_ (by simp)))) hb)
  have n2_ := Aside0.mk (below_step (by repeat (first | (with_reducible exact HB5.out) | apply below_alloc | apply pw_below_drewN | apply below_drew | (refine below_set ?_ (by simp)))) hb)
  clear HB HB3 HB5 hb
  have HB := n0_
  have HB3 := n1_
  have HB5 := n2_
  clear n0_ n1_ n2_
  refine hK.out _ _ ⟨(box2_cells (BXa.out _ HB3.out)).1, (box2_cells (BXa.out _ HB3.out)).2, (box2_cells (BXb.out _ HB3.out)).1, (box2_cells (BXb.out _ HB3.out)).2⟩ (fun hHeld => ?_)
  clear hK K
  refine norm_ (a' := ?_) ?_ ?_
  rotate_left
  · show Act.put _ (some 34) _ = _
    simp only [Act.put, List.setIfInBounds_toArray, List.set_cons_zero, List.set_cons_succ, i64_w, i32_w]
    rfl
  refine pure_ (i := 10) (N := some 35) (v := ?_) (a' := ?_) #[true, true, true, true, true, true, true, true, true, true, true, false, false, false, false, false, false, false, false, false, false, false, false, false] rfl rfl (by kernel_rfl) (fun _ _ _ h => h) (Or.inl ⟨by rfl, ?_⟩) ?_ ?_
  rotate_left
  · intro w'
    go_simp
    with_reducible rfl
  rotate_left
  · simp only [Act.put, List.setIfInBounds_toArray, List.set_cons_zero, List.set_cons_succ, i64_w, i32_w]
    rfl
  refine pure_ (i := 11) (N := some 36) (v := ?_) (a' := ?_) #[true, true, true, true, true, true, true, true, true, true, true, true, false, false, false, false, false, false, false, false, false, false, false, false] rfl rfl (by kernel_rfl) (fun _ _ _ h => h) (Or.inl ⟨by rfl, ?_⟩) ?_ ?_
  rotate_left
  · intro w'
    go_simp
    with_reducible rfl
  rotate_left
  · simp only [Act.put, List.setIfInBounds_toArray, List.set_cons_zero, List.set_cons_succ, i64_w, i32_w]
    rfl
  refine take_ (i := 12) (N := some 37) (v := ?_) (a' := ?_) #[true, true, true, true, true, true, true, true, true, true, true, true, true, false, false, false, false, false, false, false, false, false, false, false] rfl rfl (by kernel_rfl) (fun _ _ _ h => h) (Or.inl ⟨by rfl, ?_⟩) hHeld ?_ ?_
  rotate_left
  · rintro w' ⟨s0, s1, s2, s3⟩
    go_simp
    with_reducible rfl
  rotate_left
  · simp only [Act.put, List.setIfInBounds_toArray, List.set_cons_zero, List.set_cons_succ, i64_w, i32_w]
    rfl
  refine take_ (i := 13) (N := some 38) (v := ?_) (a' := ?_) #[true, true, true, true, true, true, true, true, true, true, true, true, true, true, false, false, false, false, false, false, false, false, false, false] rfl rfl (by kernel_rfl) (fun _ _ _ h => h) (Or.inl ⟨by rfl, ?_⟩) hHeld ?_ ?_
  rotate_left
  · rintro w' ⟨s0, s1, s2, s3⟩
    go_simp
    with_reducible rfl
  rotate_left
  · simp only [Act.put, List.setIfInBounds_toArray, List.set_cons_zero, List.set_cons_succ, i64_w, i32_w]
    rfl
  refine take_ (i := 15) (N := some 40) (v := ?_) (a' := ?_) #[true, true, true, true, true, true, true, true, true, true, true, true, true, true, false, true, false, false, false, false, false, false, false, false] rfl rfl (by kernel_rfl) (fun _ _ _ h => h) (Or.inl ⟨by rfl, ?_⟩) hHeld ?_ ?_
  rotate_left
  · rintro w' ⟨s0, s1, s2, s3⟩
    go_simp
    with_reducible rfl
  rotate_left
  · simp only [Act.put, List.setIfInBounds_toArray, List.set_cons_zero, List.set_cons_succ, i64_w, i32_w]
    rfl
  refine take_ (i := 16) (N := some 41) (v := ?_) (a' := ?_) #[true, true, true, true, true, true, true, true, true, true, true, true, true, true, false, true, true, false, false, false, false, false, false, false] rfl rfl (by kernel_rfl) (fun _ _ _ h => h) (Or.inl ⟨by rfl, ?_⟩) hHeld ?_ ?_
  rotate_left
  · rintro w' ⟨s0, s1, s2, s3⟩
    go_simp
    with_reducible rfl
  rotate_left
  · simp only [Act.put, List.setIfInBounds_toArray, List.set_cons_zero, List.set_cons_succ, i64_w, i32_w]
    rfl
  refine one_ (i := 14) (N := some 39) #[true, true, true, true, true, true, true, true, true, true, true, true, true, true, true, true, true, false, false, false, false, false, false, false] rfl rfl (by kernel_rfl) (by decide) (fun K hK => ?_)
  refine goes_ Try.func20 (by kernel_rfl) rfl #[.agg #[.int .i64 x1.f0, .string x1.f1], .agg #[.int .i64 x2.f0, .string x2.f1]] (by rfl) rfl rfl (by simp only [List.map_toArray, List.map_cons, List.map_nil] <;> rfl) ?_
  with_reducible refine (part_Less.calls 3 _ _ _ _ _ _ HLS.out).mono ?_
  rintro e w5 ⟨rfl, hb⟩
  refine ⟨_, rfl, ?_⟩
  have n0_ := Aside0.mk (below_step (by repeat (first | (with_reducible exact HB.out) | apply below_alloc | apply pw_below_drewN | apply below_drew | (refine below_set ?_ (by simp)))) hb)
  have n1_ := Aside0.mk (below_step (by repeat (first | (with_reducible exact HB3.out) | apply below_alloc | apply pw_below_drewN | apply below_drew | (refine below_set ?_ (by simp)))) hb)
  have n2_ := Aside0.mk (below_step (by repeat (first | (with_reducible exact HB5.out) | apply below_alloc | apply pw_below_drewN | apply below_drew | (refine below_set ?_ (by simp)))) hb)
  clear HB HB3 HB5 hb
  have HB := n0_
  have HB3 := n1_
  have HB5 := n2_
  clear n0_ n1_ n2_
  refine hK.out _ _ ⟨(box2_cells (BXa.out _ HB3.out)).1, (box2_cells (BXa.out _ HB3.out)).2, (box2_cells (BXb.out _ HB3.out)).1, (box2_cells (BXb.out _ HB3.out)).2⟩ (fun hHeld => ?_)
  clear hK K
  refine norm_ (a' := ?_) ?_ ?_
  rotate_left
  · show Act.put _ (some 39) _ = _
    simp only [Act.put, List.setIfInBounds_toArray, List.set_cons_zero, List.set_cons_succ, i64_w, i32_w]
    rfl
  refine one_ (i := 17) (N := some 42) #[true, true, true, true, true, true, true, true, true, true, true, true, true, true, true, true, true, true, false, false, false, false, false, false] rfl rfl (by kernel_rfl) (by decide) (fun K hK => ?_)
  refine goes_ Try.func21 (by kernel_rfl) rfl #[.agg #[.int .i64 x1.f0, .string x1.f1], .agg #[.int .i64 x2.f0, .string x2.f1]] (by rfl) rfl rfl (by simp only [List.map_toArray, List.map_cons, List.map_nil] <;> rfl) ?_
  with_reducible refine (inkhornref12_Less.calls kL _ _ _ _ _ _ HRL.out).mono ?_
  rintro e w5 ⟨rfl, hb⟩
  refine ⟨_, rfl, ?_⟩
  have n0_ := Aside0.mk (below_step (by repeat (first | (with_reducible exact HB.out) | apply below_alloc | apply pw_below_drewN | apply below_drew | (refine below_set ?_ (by simp)))) hb)
  have n1_ := Aside0.mk (below_step (by repeat (first | (with_reducible exact HB3.out) | apply below_alloc | apply pw_below_drewN | apply below_drew | (refine below_set ?_ (by simp)))) hb)
  have n2_ := Aside0.mk (below_step (by repeat (first | (with_reducible exact HB5.out) | apply below_alloc | apply pw_below_drewN | apply below_drew | (refine below_set ?_ (by simp)))) hb)
  clear HB HB3 HB5 hb
  have HB := n0_
  have HB3 := n1_
  have HB5 := n2_
  clear n0_ n1_ n2_
  refine hK.out _ _ ⟨(box2_cells (BXa.out _ HB3.out)).1, (box2_cells (BXa.out _ HB3.out)).2, (box2_cells (BXb.out _ HB3.out)).1, (box2_cells (BXb.out _ HB3.out)).2⟩ (fun hHeld => ?_)
  clear hK K
  refine norm_ (a' := ?_) ?_ ?_
  rotate_left
  · show Act.put _ (some 42) _ = _
    simp only [Act.put, List.setIfInBounds_toArray, List.set_cons_zero, List.set_cons_succ, i64_w, i32_w]
    rfl
  refine pure_ (i := 18) (N := some 43) (v := ?_) (a' := ?_) #[true, true, true, true, true, true, true, true, true, true, true, true, true, true, true, true, true, true, true, false, false, false, false, false] rfl rfl (by kernel_rfl) (fun _ _ _ h => h) (Or.inl ⟨by rfl, ?_⟩) ?_ ?_
  rotate_left
  · intro w'
    go_simp
    with_reducible rfl
  rotate_left
  · simp only [Act.put, List.setIfInBounds_toArray, List.set_cons_zero, List.set_cons_succ, i64_w, i32_w]
    rfl
  refine pure_ (i := 19) (N := some 44) (v := ?_) (a' := ?_) #[true, true, true, true, true, true, true, true, true, true, true, true, true, true, true, true, true, true, true, true, false, false, false, false] rfl rfl (by kernel_rfl) (fun _ _ _ h => h) (Or.inl ⟨by rfl, ?_⟩) ?_ ?_
  rotate_left
  · intro w'
    go_simp
    with_reducible rfl
  rotate_left
  · simp only [Act.put, List.setIfInBounds_toArray, List.set_cons_zero, List.set_cons_succ, i64_w, i32_w]
    rfl
  refine pure_ (i := 20) (N := some 45) (v := ?_) (a' := ?_) #[true, true, true, true, true, true, true, true, true, true, true, true, true, true, true, true, true, true, true, true, true, false, false, false] rfl rfl (by kernel_rfl) (fun _ _ _ h => h) (Or.inl ⟨by rfl, ?_⟩) ?_ ?_
  rotate_left
  · intro w'
    go_simp
    with_reducible rfl
  rotate_left
  · simp only [Act.put, List.setIfInBounds_toArray, List.set_cons_zero, List.set_cons_succ, i64_w, i32_w]
    rfl
  refine one_ (i := 21) (N := some 46) #[true, true, true, true, true, true, true, true, true, true, true, true, true, true, true, true, true, true, true, true, true, true, false, false] rfl rfl (by kernel_rfl) (by decide) (fun K hK => ?_)
  refine goes_ Try.func14 (by kernel_rfl) rfl #[] (by rfl) rfl rfl (by simp only [List.map_toArray, List.map_cons, List.map_nil] <;> rfl) ?_
  with_reducible refine (inkhornlaw12_awake.calls true _ rfl).mono ?_
  rintro e w5 ⟨rfl, hb⟩
  refine ⟨_, rfl, ?_⟩
  have n0_ := Aside0.mk (below_step (by repeat (first | (with_reducible exact HB.out) | apply below_alloc | apply pw_below_drewN | apply below_drew | (refine below_set ?_ (by simp)))) hb)
  have n1_ := Aside0.mk (below_step (by repeat (first | (with_reducible exact HB3.out) | apply below_alloc | apply pw_below_drewN | apply below_drew | (refine below_set ?_ (by simp)))) hb)
  have n2_ := Aside0.mk (below_step (by repeat (first | (with_reducible exact HB5.out) | apply below_alloc | apply pw_below_drewN | apply below_drew | (refine below_set ?_ (by simp)))) hb)
  clear HB HB3 HB5 hb
  have HB := n0_
  have HB3 := n1_
  have HB5 := n2_
  clear n0_ n1_ n2_
  refine hK.out _ _ ⟨(box2_cells (BXa.out _ HB3.out)).1, (box2_cells (BXa.out _ HB3.out)).2, (box2_cells (BXb.out _ HB3.out)).1, (box2_cells (BXb.out _ HB3.out)).2⟩ (fun hHeld => ?_)
  clear hK K
  refine norm_ (a' := ?_) ?_ ?_
  rotate_left
  · show Act.put _ (some 46) _ = _
    simp only [Act.put, List.setIfInBounds_toArray, List.set_cons_zero, List.set_cons_succ, i64_w, i32_w]
    rfl
  refine pure_ (i := 22) (N := some 47) (v := ?_) (a' := ?_) #[true, true, true, true, true, true, true, true, true, true, true, true, true, true, true, true, true, true, true, true, true, true, true, false] rfl rfl (by kernel_rfl) (fun _ _ _ h => h) (Or.inl ⟨by rfl, ?_⟩) ?_ ?_
  rotate_left
  · intro w'
    go_simp
    with_reducible rfl
  rotate_left
  · simp only [Act.put, List.setIfInBounds_toArray, List.set_cons_zero, List.set_cons_succ, i64_w, i32_w]
    rfl
  refine pure_ (i := 23) (N := some 6) (v := ?_) (a' := ?_) #[true, true, true, true, true, true, true, true, true, true, true, true, true, true, true, true, true, true, true, true, true, true, true, true] rfl rfl (by kernel_rfl) (fun _ _ _ h => h) (Or.inl ⟨by rfl, ?_⟩) ?_ ?_
  rotate_left
  · intro w'
    go_simp
    with_reducible rfl
  rotate_left
  · simp only [Act.put, List.setIfInBounds_toArray, List.set_cons_zero, List.set_cons_succ, i64_w, i32_w]
    rfl
  refine done_ (by kernel_rfl) ?_
  go_wp2
  go_ret
  exact ⟨by simp, HB.out⟩
end Go.Proofs.Ytiobphijbpdolaa.P
