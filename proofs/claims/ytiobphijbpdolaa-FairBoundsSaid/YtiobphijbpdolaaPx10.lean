-- written by hprint.py of this repo (a program of the session's), over the kit's print
import Derived.Test.YtiobphijbpdolaaPx0
import Derived.Test.YtiobphijbpdolaaPx6
import Derived.Test.YtiobphijbpdolaaPx7
import Derived.Test.YtiobphijbpdolaaPx9
namespace Go.Proofs.Ytiobphijbpdolaa.P
open Go.RowKit Go.Proofs.YtiobphijbpdolaaW.PrintWords Go.Proofs.YtiobphijbpdolaaW.PrintLast Go.Proofs.YtiobphijbpdolaaW.PrintMore
attribute [local go_sem] max2_int min2_int max_two min_two max_three min_three max_four min_four   -- for this text's walks alone
set_option linter.unusedVariables false
set_option linter.unusedSimpArgs false

/-! ### place_May: function 26 -/
mutual
def place_May.j0 : Nat → Bool → List ByteArray → List (S24) → Int → Int → Int → Int → Int → Int → Int → Int → Int → Int → Option (Bool)
 | 0, _, _, _, _, _, _, _, _, _, _, _, _, _ => none
 | k + 1, x15, x190000, x190001, x190002, x190003, x190004, x190005, x190006, x190007, x190008, x190009, x190010, x190011 => if x15 = true then (some false) else ((place_within.f x190002 1 5).bind fun t192 => (if t192 = true then ((place_within.f x190003 1 (mn 3 x190002)).bind fun t193 => (place_May.j1 k t193 x190000 x190001 x190002 x190003 x190004 x190005 x190006 x190007 x190008 x190009 x190010 x190011)) else (place_May.j1 k false x190000 x190001 x190002 x190003 x190004 x190005 x190006 x190007 x190008 x190009 x190010 x190011)))
def place_May.j1 : Nat → Bool → List ByteArray → List (S24) → Int → Int → Int → Int → Int → Int → Int → Int → Int → Int → Option (Bool)
 | 0, _, _, _, _, _, _, _, _, _, _, _, _, _ => none
 | k + 1, x3, x190000, x190001, x190002, x190003, x190004, x190005, x190006, x190007, x190008, x190009, x190010, x190011 => (place_within.f x190004 1 4).bind fun t194 => (if t194 = true then ((place_within.f x190005 1 5).bind fun t195 => (if t195 = true then ((place_within.f x190011 8 64).bind fun t196 => (place_May.j2 k x3 t196 x190000 x190001 x190002 x190003 x190004 x190005 x190006 x190007 x190008 x190009 x190010 x190011)) else (place_May.j2 k x3 false x190000 x190001 x190002 x190003 x190004 x190005 x190006 x190007 x190008 x190009 x190010 x190011))) else (place_May.j2 k x3 false x190000 x190001 x190002 x190003 x190004 x190005 x190006 x190007 x190008 x190009 x190010 x190011))
def place_May.j2 : Nat → Bool → Bool → List ByteArray → List (S24) → Int → Int → Int → Int → Int → Int → Int → Int → Int → Int → Option (Bool)
 | 0, _, _, _, _, _, _, _, _, _, _, _, _, _, _ => none
 | k + 1, x3, x4, x190000, x190001, x190002, x190003, x190004, x190005, x190006, x190007, x190008, x190009, x190010, x190011 => (place_within.f x190006 1 1000).bind fun t197 => (if t197 = true then ((place_within.f x190007 1 1000).bind fun t198 => (if t198 = true then ((place_within.f x190008 1 10).bind fun t199 => (if t199 = true then ((place_within.f x190009 x190008 50).bind fun t200 => (if t200 = true then ((place_within.f x190010 0 10).bind fun t201 => (if x3 = true then (if x4 = true then (some t201) else (some false)) else (some false))) else (if x3 = true then (if x4 = true then (some false) else (some false)) else (some false)))) else (if x3 = true then (if x4 = true then (some false) else (some false)) else (some false)))) else (if x3 = true then (if x4 = true then (some false) else (some false)) else (some false)))) else (if x3 = true then (if x4 = true then (some false) else (some false)) else (some false)))
end
def place_May.f (k : Nat) (l0_0 : List ByteArray) (l0_1 : List (S24)) (a0_2 : Int) (a0_3 : Int) (a0_4 : Int) (a0_5 : Int) (a0_6 : Int) (a0_7 : Int) (a0_8 : Int) (a0_9 : Int) (a0_10 : Int) (a0_11 : Int) : Option (Bool) := (list_Good.f k l0_0).bind fun t190 => (if t190 = 0 then ((part_Good.f k l0_1).bind fun t191 => (place_May.j0 k (t191 != 0) l0_0 l0_1 a0_2 a0_3 a0_4 a0_5 a0_6 a0_7 a0_8 a0_9 a0_10 a0_11)) else (place_May.j0 k true l0_0 l0_1 a0_2 a0_3 a0_4 a0_5 a0_6 a0_7 a0_8 a0_9 a0_10 a0_11))
theorem place_May.mono_l : ∀ k, (∀ y0 y1 y2 y3 y4 y5 y6 y7 y8 y9 y10 y11 y12, LeO (place_May.j0 k y0 y1 y2 y3 y4 y5 y6 y7 y8 y9 y10 y11 y12) (place_May.j0 (k + 1) y0 y1 y2 y3 y4 y5 y6 y7 y8 y9 y10 y11 y12)) ∧ (∀ y0 y1 y2 y3 y4 y5 y6 y7 y8 y9 y10 y11 y12, LeO (place_May.j1 k y0 y1 y2 y3 y4 y5 y6 y7 y8 y9 y10 y11 y12) (place_May.j1 (k + 1) y0 y1 y2 y3 y4 y5 y6 y7 y8 y9 y10 y11 y12)) ∧ (∀ y0 y1 y2 y3 y4 y5 y6 y7 y8 y9 y10 y11 y12 y13, LeO (place_May.j2 k y0 y1 y2 y3 y4 y5 y6 y7 y8 y9 y10 y11 y12 y13) (place_May.j2 (k + 1) y0 y1 y2 y3 y4 y5 y6 y7 y8 y9 y10 y11 y12 y13))
 | 0 => ⟨fun _ _ _ _ _ _ _ _ _ _ _ _ _ r h => by simp [place_May.j0] at h, fun _ _ _ _ _ _ _ _ _ _ _ _ _ r h => by simp [place_May.j1] at h, fun _ _ _ _ _ _ _ _ _ _ _ _ _ _ r h => by simp [place_May.j2] at h⟩
 | k + 1 => by
  obtain ⟨ih0, ih1, ih2⟩ := place_May.mono_l k
  refine ⟨?_, ?_, ?_⟩
  ·intro y0 y1 y2 y3 y4 y5 y6 y7 y8 y9 y10 y11 y12
   unfold place_May.j0
   repeat' first
   | (with_reducible exact ih0 _ _ _ _ _ _ _ _ _ _ _ _ _)
   | (with_reducible exact ih1 _ _ _ _ _ _ _ _ _ _ _ _ _)
   | (with_reducible exact ih2 _ _ _ _ _ _ _ _ _ _ _ _ _ _)
   | (with_reducible exact list_Good.mono _ _)
   | (with_reducible exact part_Good.mono _ _)
   | (with_reducible exact LeO.refl _)
   | (with_reducible exact LeO.none _)
   | (with_reducible refine LeO.ite ?_ ?_)
   | (with_reducible refine LeO.bind ?_ (fun _ => ?_))
   | exact ih0 _ _ _ _ _ _ _ _ _ _ _ _ _
   | exact ih1 _ _ _ _ _ _ _ _ _ _ _ _ _
   | exact ih2 _ _ _ _ _ _ _ _ _ _ _ _ _ _
   | exact list_Good.mono _ _
   | exact part_Good.mono _ _
   | exact LeO.none _
   | refine LeO.ite ?_ ?_
   | refine LeO.bind ?_ (fun _ => ?_)
  ·intro y0 y1 y2 y3 y4 y5 y6 y7 y8 y9 y10 y11 y12
   unfold place_May.j1
   repeat' first
   | (with_reducible exact ih0 _ _ _ _ _ _ _ _ _ _ _ _ _)
   | (with_reducible exact ih1 _ _ _ _ _ _ _ _ _ _ _ _ _)
   | (with_reducible exact ih2 _ _ _ _ _ _ _ _ _ _ _ _ _ _)
   | (with_reducible exact list_Good.mono _ _)
   | (with_reducible exact part_Good.mono _ _)
   | (with_reducible exact LeO.refl _)
   | (with_reducible exact LeO.none _)
   | (with_reducible refine LeO.ite ?_ ?_)
   | (with_reducible refine LeO.bind ?_ (fun _ => ?_))
   | exact ih0 _ _ _ _ _ _ _ _ _ _ _ _ _
   | exact ih1 _ _ _ _ _ _ _ _ _ _ _ _ _
   | exact ih2 _ _ _ _ _ _ _ _ _ _ _ _ _ _
   | exact list_Good.mono _ _
   | exact part_Good.mono _ _
   | exact LeO.none _
   | refine LeO.ite ?_ ?_
   | refine LeO.bind ?_ (fun _ => ?_)
  ·intro y0 y1 y2 y3 y4 y5 y6 y7 y8 y9 y10 y11 y12 y13
   unfold place_May.j2
   repeat' first
   | (with_reducible exact ih0 _ _ _ _ _ _ _ _ _ _ _ _ _)
   | (with_reducible exact ih1 _ _ _ _ _ _ _ _ _ _ _ _ _)
   | (with_reducible exact ih2 _ _ _ _ _ _ _ _ _ _ _ _ _ _)
   | (with_reducible exact list_Good.mono _ _)
   | (with_reducible exact part_Good.mono _ _)
   | (with_reducible exact LeO.refl _)
   | (with_reducible exact LeO.none _)
   | (with_reducible refine LeO.ite ?_ ?_)
   | (with_reducible refine LeO.bind ?_ (fun _ => ?_))
   | exact ih0 _ _ _ _ _ _ _ _ _ _ _ _ _
   | exact ih1 _ _ _ _ _ _ _ _ _ _ _ _ _
   | exact ih2 _ _ _ _ _ _ _ _ _ _ _ _ _ _
   | exact list_Good.mono _ _
   | exact part_Good.mono _ _
   | exact LeO.none _
   | refine LeO.ite ?_ ?_
   | refine LeO.bind ?_ (fun _ => ?_)
theorem place_May.mono : ∀ a0 a1 a2 a3 a4 a5 a6 a7 a8 a9 a10 a11 k, LeO (place_May.f k a0 a1 a2 a3 a4 a5 a6 a7 a8 a9 a10 a11) (place_May.f (k + 1) a0 a1 a2 a3 a4 a5 a6 a7 a8 a9 a10 a11) := by
 intro a0 a1 a2 a3 a4 a5 a6 a7 a8 a9 a10 a11 k
 obtain ⟨ih0, ih1, ih2⟩ := place_May.mono_l k
 unfold place_May.f
 repeat' first
   | (with_reducible exact ih0 _ _ _ _ _ _ _ _ _ _ _ _ _)
   | (with_reducible exact ih1 _ _ _ _ _ _ _ _ _ _ _ _ _)
   | (with_reducible exact ih2 _ _ _ _ _ _ _ _ _ _ _ _ _ _)
   | (with_reducible exact list_Good.mono _ _)
   | (with_reducible exact part_Good.mono _ _)
   | (with_reducible exact LeO.refl _)
   | (with_reducible exact LeO.none _)
   | (with_reducible refine LeO.ite ?_ ?_)
   | (with_reducible refine LeO.bind ?_ (fun _ => ?_))
   | exact ih0 _ _ _ _ _ _ _ _ _ _ _ _ _
   | exact ih1 _ _ _ _ _ _ _ _ _ _ _ _ _
   | exact ih2 _ _ _ _ _ _ _ _ _ _ _ _ _ _
   | exact list_Good.mono _ _
   | exact part_Good.mono _ _
   | exact LeO.none _
   | refine LeO.ite ?_ ?_
   | refine LeO.bind ?_ (fun _ => ?_)
set_option maxHeartbeats 8000000 in
set_option maxRecDepth 100000 in
theorem place_May.calls (k : Nat) (A0_0 : Option Addr) (c0_0 : Nat) (l0_0 : List ByteArray) (A0_1 : Option Addr) (c0_1 : Nat) (l0_1 : List (S24)) (a0_2 : Int) (a0_3 : Int) (a0_4 : Int) (a0_5 : Int) (a0_6 : Int) (a0_7 : Int) (a0_8 : Int) (a0_9 : Int) (a0_10 : Int) (a0_11 : Int) (r : Bool) (w : World) (hr0_0 : Kd.C Kd.string w A0_0 l0_0.length l0_0) (hc0_0 : l0_0.length ≤ c0_0) (hr0_1 : Kd.C k24 w A0_1 l0_1.length l0_1) (hc0_1 : l0_1.length ≤ c0_1) (h : place_May.f k l0_0 l0_1 a0_2 a0_3 a0_4 a0_5 a0_6 a0_7 a0_8 a0_9 a0_10 a0_11 = some r) :
  Calls Try.prog 26 #[.agg #[.slice A0_0 l0_0.length c0_0, .slice A0_1 l0_1.length c0_1, .int .i64 a0_2, .int .i64 a0_3, .int .i64 a0_4, .int .i64 a0_5, .int .i64 a0_6, .int .i64 a0_7, .int .i64 a0_8, .int .i64 a0_9, .int .i64 a0_10, .int .i64 a0_11]] w fun e w' => e = .returned (.bool r) ∧ Below w.heap.size w w' := by
 have hu43 := Try.underlying43
 have HR0_0 := Aside0.mk hr0_0
 have HC0_0 := Aside0.mk hc0_0
 clear hr0_0 hc0_0
 have HR0_1 := Aside0.mk hr0_1
 have HC0_1 := Aside0.mk hc0_1
 clear hr0_1 hc0_1
 have HB := Aside0.mk (Below.refl w.heap.size w)
 have H : ((list_Good.f k l0_0).bind fun t190 => (if t190 = 0 then ((part_Good.f k l0_1).bind fun t191 => (place_May.j0 k (t191 != 0) l0_0 l0_1 a0_2 a0_3 a0_4 a0_5 a0_6 a0_7 a0_8 a0_9 a0_10 a0_11)) else (place_May.j0 k true l0_0 l0_1 a0_2 a0_3 a0_4 a0_5 a0_6 a0_7 a0_8 a0_9 a0_10 a0_11))) = some r := h
 clear h
 have HC2 := Aside0.mk H
 clear H
 go_enter Try.func26, Try.ntmps26
 go_upto_region 1 with (first | ((with_reducible refine gate_dst (N := 1) rfl ?_); (try (refine gate_guard (by rfl) ?_; dsimp only)); refine box_event ?hg (N := 1) ?hd (cs := #[.slice A0_0 l0_0.length c0_0, .slice A0_1 l0_1.length c0_1, .int .i64 a0_2, .int .i64 a0_3, .int .i64 a0_4, .int .i64 a0_5, .int .i64 a0_6, .int .i64 a0_7, .int .i64 a0_8, .int .i64 a0_9, .int .i64 a0_10, .int .i64 a0_11]) (t := 43) ?hr ?_; (case hd => rfl); (case hg => rfl); (case hr => first | (go_simp; done) | (go_simp; rfl)); intro gb189 hg w3 hbox hb; have n0_ := Aside0.mk (below_step (by repeat (first | (with_reducible first | exact HB.out | apply below_alloc | apply pw_below_drewN | apply below_drew1) | exact HB.out)) hb); have n1_ := Aside0.mk (hbox); have n2_ := Aside0.mk ((by rw [hg]; exact (below_size (by repeat (first | (with_reducible first | exact HB.out | apply below_alloc | apply pw_below_drewN | apply below_drew1) | exact HB.out))) : w.heap.size ≤ gb189)); have n3_ := Aside0.mk ((by rw [hg]; exact (below_size (by repeat (first | (with_reducible first | exact HB.out | apply below_alloc | apply pw_below_drewN | apply below_drew1) | exact HB.out))) : w.heap.size ≤ gb189)); clear HB; have HB := n0_; have BK189 := n1_; have GW189 := n2_; have GE189 := n3_; clear n0_ n1_ n2_ n3_; clear hb hbox hg))
 (try simp only [Act.put, List.setIfInBounds_toArray, List.set_cons_zero, List.set_cons_succ])
 go_cut [15] (fun v15 wc => ∃ (kq : Nat) (x15_1 : Bool), v15 = .bool x15_1 ∧ Aside0 (place_May.j0 kq x15_1 l0_0 l0_1 a0_2 a0_3 a0_4 a0_5 a0_6 a0_7 a0_8 a0_9 a0_10 a0_11 = some r) ∧ Aside0 (kq ≤ k) ∧ Aside0 (wc.heap[gb189]? = some (.cells #[(.slice A0_0 l0_0.length c0_0), (.slice A0_1 l0_1.length c0_1), .int .i64 a0_2, .int .i64 a0_3, .int .i64 a0_4, .int .i64 a0_5, .int .i64 a0_6, .int .i64 a0_7, .int .i64 a0_8, .int .i64 a0_9, .int .i64 a0_10, .int .i64 a0_11] 43 (0, 0))) ∧ Aside0 (Below w.heap.size w wc))
 case first =>
  have H := HC2.out
  clear HC2
  replace H := Option.bind_eq_some_iff.mp H
  obtain ⟨t190, A40, H⟩ := H
  replace H : (if t190 = 0 then ((part_Good.f k l0_1).bind fun t191 => (place_May.j0 k (t191 != 0) l0_0 l0_1 a0_2 a0_3 a0_4 a0_5 a0_6 a0_7 a0_8 a0_9 a0_10 a0_11)) else (place_May.j0 k true l0_0 l0_1 a0_2 a0_3 a0_4 a0_5 a0_6 a0_7 a0_8 a0_9 a0_10 a0_11)) = some r := H
  have A4 := Aside0.mk A40
  clear A40
  by_cases c5 : t190 = 0
  ·rw [if_pos c5] at H
   have c5b0 : (t190 == 0) = true := beq_iff_eq.mpr c5
   have c5b1 : (t190 != 0) = false := bne_eq_false_iff_eq.mpr c5
   clear c5
   (first | rw [c5b0] | (simp only [i64_w, i32_w]; rw [c5b0]) | skip)
   replace H := Option.bind_eq_some_iff.mp H
   obtain ⟨t191, A60, H⟩ := H
   replace H : (place_May.j0 k (t191 != 0) l0_0 l0_1 a0_2 a0_3 a0_4 a0_5 a0_6 a0_7 a0_8 a0_9 a0_10 a0_11) = some r := H
   have A6 := Aside0.mk A60
   clear A60
   have H' := Aside0.mk H
   clear H
   have hcz7_0 : w3.cell? ⟨gb189, 0, none⟩ = some (.slice A0_0 l0_0.length c0_0) := (blk_cell BK189.out 0).trans rfl
   have hcz7_1 : w3.cell? ⟨gb189, 1, none⟩ = some (.slice A0_1 l0_1.length c0_1) := (blk_cell BK189.out 1).trans rfl
   have hcz7_2 : w3.cell? ⟨gb189, 2, none⟩ = some (.int .i64 a0_2) := (blk_cell BK189.out 2).trans rfl
   have hcz7_3 : w3.cell? ⟨gb189, 3, none⟩ = some (.int .i64 a0_3) := (blk_cell BK189.out 3).trans rfl
   have hcz7_4 : w3.cell? ⟨gb189, 4, none⟩ = some (.int .i64 a0_4) := (blk_cell BK189.out 4).trans rfl
   have hcz7_5 : w3.cell? ⟨gb189, 5, none⟩ = some (.int .i64 a0_5) := (blk_cell BK189.out 5).trans rfl
   have hcz7_6 : w3.cell? ⟨gb189, 6, none⟩ = some (.int .i64 a0_6) := (blk_cell BK189.out 6).trans rfl
   have hcz7_7 : w3.cell? ⟨gb189, 7, none⟩ = some (.int .i64 a0_7) := (blk_cell BK189.out 7).trans rfl
   have hcz7_8 : w3.cell? ⟨gb189, 8, none⟩ = some (.int .i64 a0_8) := (blk_cell BK189.out 8).trans rfl
   have hcz7_9 : w3.cell? ⟨gb189, 9, none⟩ = some (.int .i64 a0_9) := (blk_cell BK189.out 9).trans rfl
   have hcz7_10 : w3.cell? ⟨gb189, 10, none⟩ = some (.int .i64 a0_10) := (blk_cell BK189.out 10).trans rfl
   have hcz7_11 : w3.cell? ⟨gb189, 11, none⟩ = some (.int .i64 a0_11) := (blk_cell BK189.out 11).trans rfl
   have hfz7_0 := blk_frozen BK189.out 0
   have hfz7_1 := blk_frozen BK189.out 1
   have hfz7_2 := blk_frozen BK189.out 2
   have hfz7_3 := blk_frozen BK189.out 3
   have hfz7_4 := blk_frozen BK189.out 4
   have hfz7_5 := blk_frozen BK189.out 5
   have hfz7_6 := blk_frozen BK189.out 6
   have hfz7_7 := blk_frozen BK189.out 7
   have hfz7_8 := blk_frozen BK189.out 8
   have hfz7_9 := blk_frozen BK189.out 9
   have hfz7_10 := blk_frozen BK189.out 10
   have hfz7_11 := blk_frozen BK189.out 11
   go_wp2_with (first | ((with_reducible refine gate_callee (f := 31) rfl ?_); refine goesL_ (some 8) rfl rfl Try.func31 (by kernel_rfl) rfl #[.slice A0_0 l0_0.length c0_0] rfl (by (try simp only [List.map_toArray, List.map_cons, List.map_nil]); first | done | rfl | (simp only [List.length_drop, List.length_take]; rfl)) ?_; (with_reducible refine (list_Good.calls k _ _ l0_0 t190 _ ?side1 ?side2 A4.out).mono ?_); (case side1 => repeat (first | exact (Kd.C_below HR0_0.out HB.out) | (with_reducible refine Kd.C_alloc ?_ _) | (with_reducible refine Kd.C_drewN ?_ _) | (with_reducible refine Kd.C_drew ?_))); (case side2 => exact HC0_0.out); rintro e w8 ⟨rfl, hb⟩; refine ⟨_, rfl, ?_⟩; have n0_ := Aside0.mk (blk_below (g := gb189) (o := .cells #[.slice A0_0 l0_0.length c0_0, .slice A0_1 l0_1.length c0_1, .int .i64 a0_2, .int .i64 a0_3, .int .i64 a0_4, .int .i64 a0_5, .int .i64 a0_6, .int .i64 a0_7, .int .i64 a0_8, .int .i64 a0_9, .int .i64 a0_10, .int .i64 a0_11] 43 (0, 0)) (by (with_reducible repeat (first | refine blk_drewN ?_ _ | refine blk_drew ?_ | refine blk_alloc ?_ _)); exact BK189.out) hb); have n1_ := Aside0.mk (below_step (by repeat (first | (with_reducible first | exact HB.out | apply below_alloc | apply pw_below_drewN | apply below_drew1 | refine below_set ?_ GE189.out) | exact HB.out)) hb); clear BK189; clear HB; have BK189 := n0_; have HB := n1_; clear n0_ n1_; (try clear hb); (try clear hb2); (try clear hk); (try clear hi); have hcz9_0 : w8.cell? ⟨gb189, 0, none⟩ = some (.slice A0_0 l0_0.length c0_0) := (blk_cell BK189.out 0).trans rfl; have hcz9_1 : w8.cell? ⟨gb189, 1, none⟩ = some (.slice A0_1 l0_1.length c0_1) := (blk_cell BK189.out 1).trans rfl; have hcz9_2 : w8.cell? ⟨gb189, 2, none⟩ = some (.int .i64 a0_2) := (blk_cell BK189.out 2).trans rfl; have hcz9_3 : w8.cell? ⟨gb189, 3, none⟩ = some (.int .i64 a0_3) := (blk_cell BK189.out 3).trans rfl; have hcz9_4 : w8.cell? ⟨gb189, 4, none⟩ = some (.int .i64 a0_4) := (blk_cell BK189.out 4).trans rfl; have hcz9_5 : w8.cell? ⟨gb189, 5, none⟩ = some (.int .i64 a0_5) := (blk_cell BK189.out 5).trans rfl; have hcz9_6 : w8.cell? ⟨gb189, 6, none⟩ = some (.int .i64 a0_6) := (blk_cell BK189.out 6).trans rfl; have hcz9_7 : w8.cell? ⟨gb189, 7, none⟩ = some (.int .i64 a0_7) := (blk_cell BK189.out 7).trans rfl; have hcz9_8 : w8.cell? ⟨gb189, 8, none⟩ = some (.int .i64 a0_8) := (blk_cell BK189.out 8).trans rfl; have hcz9_9 : w8.cell? ⟨gb189, 9, none⟩ = some (.int .i64 a0_9) := (blk_cell BK189.out 9).trans rfl; have hcz9_10 : w8.cell? ⟨gb189, 10, none⟩ = some (.int .i64 a0_10) := (blk_cell BK189.out 10).trans rfl; have hcz9_11 : w8.cell? ⟨gb189, 11, none⟩ = some (.int .i64 a0_11) := (blk_cell BK189.out 11).trans rfl; have hfz9_0 := blk_frozen BK189.out 0; have hfz9_1 := blk_frozen BK189.out 1; have hfz9_2 := blk_frozen BK189.out 2; have hfz9_3 := blk_frozen BK189.out 3; have hfz9_4 := blk_frozen BK189.out 4; have hfz9_5 := blk_frozen BK189.out 5; have hfz9_6 := blk_frozen BK189.out 6; have hfz9_7 := blk_frozen BK189.out 7; have hfz9_8 := blk_frozen BK189.out 8; have hfz9_9 := blk_frozen BK189.out 9; have hfz9_10 := blk_frozen BK189.out 10; have hfz9_11 := blk_frozen BK189.out 11) | (go_at_call 17; (with_reducible refine (part_Good.calls k _ _ l0_1 t191 _ ?side1 ?side2 A6.out).mono ?_); (case side1 => repeat (first | exact (Kd.C_below HR0_1.out HB.out) | (with_reducible refine Kd.C_alloc ?_ _) | (with_reducible refine Kd.C_drewN ?_ _) | (with_reducible refine Kd.C_drew ?_))); (case side2 => exact HC0_1.out); rintro e w10 ⟨rfl, hb⟩; have n0_ := Aside0.mk (blk_below (g := gb189) (o := .cells #[.slice A0_0 l0_0.length c0_0, .slice A0_1 l0_1.length c0_1, .int .i64 a0_2, .int .i64 a0_3, .int .i64 a0_4, .int .i64 a0_5, .int .i64 a0_6, .int .i64 a0_7, .int .i64 a0_8, .int .i64 a0_9, .int .i64 a0_10, .int .i64 a0_11] 43 (0, 0)) (by (with_reducible repeat (first | refine blk_drewN ?_ _ | refine blk_drew ?_ | refine blk_alloc ?_ _)); exact BK189.out) hb); have n1_ := Aside0.mk (below_step (by repeat (first | (with_reducible first | exact HB.out | apply below_alloc | apply pw_below_drewN | apply below_drew1 | refine below_set ?_ GE189.out) | exact HB.out)) hb); clear BK189; clear HB; have BK189 := n0_; have HB := n1_; clear n0_ n1_; (try clear hb); (try clear hb2); (try clear hk); (try clear hi)))
   go_meet
   case rel => exact ⟨_, ((t191 != 0)), (by first | rfl | (simp; done) | (simp [*]; done)), H', ⟨by first | omega | exact Nat.le_refl _⟩, ⟨by (with_reducible repeat (first | refine blk_drewN ?_ _ | refine blk_drew ?_ | refine blk_alloc ?_ _)); exact BK189.out⟩, ⟨by repeat (first | (with_reducible first | exact HB.out | apply below_alloc | apply pw_below_drewN | apply below_drew1 | refine below_set ?_ GE189.out) | exact HB.out)⟩⟩
  ·rw [if_neg c5] at H
   have c5b0 : (t190 == 0) = false := beq_eq_false_iff_ne.mpr c5
   have c5b1 : (t190 != 0) = true := bne_iff_ne.mpr c5
   (first | rw [c5b0] | (simp only [i64_w, i32_w]; rw [c5b0]) | skip)
   have H' := Aside0.mk H
   clear H
   have hcz11_0 : w3.cell? ⟨gb189, 0, none⟩ = some (.slice A0_0 l0_0.length c0_0) := (blk_cell BK189.out 0).trans rfl
   have hcz11_1 : w3.cell? ⟨gb189, 1, none⟩ = some (.slice A0_1 l0_1.length c0_1) := (blk_cell BK189.out 1).trans rfl
   have hcz11_2 : w3.cell? ⟨gb189, 2, none⟩ = some (.int .i64 a0_2) := (blk_cell BK189.out 2).trans rfl
   have hcz11_3 : w3.cell? ⟨gb189, 3, none⟩ = some (.int .i64 a0_3) := (blk_cell BK189.out 3).trans rfl
   have hcz11_4 : w3.cell? ⟨gb189, 4, none⟩ = some (.int .i64 a0_4) := (blk_cell BK189.out 4).trans rfl
   have hcz11_5 : w3.cell? ⟨gb189, 5, none⟩ = some (.int .i64 a0_5) := (blk_cell BK189.out 5).trans rfl
   have hcz11_6 : w3.cell? ⟨gb189, 6, none⟩ = some (.int .i64 a0_6) := (blk_cell BK189.out 6).trans rfl
   have hcz11_7 : w3.cell? ⟨gb189, 7, none⟩ = some (.int .i64 a0_7) := (blk_cell BK189.out 7).trans rfl
   have hcz11_8 : w3.cell? ⟨gb189, 8, none⟩ = some (.int .i64 a0_8) := (blk_cell BK189.out 8).trans rfl
   have hcz11_9 : w3.cell? ⟨gb189, 9, none⟩ = some (.int .i64 a0_9) := (blk_cell BK189.out 9).trans rfl
   have hcz11_10 : w3.cell? ⟨gb189, 10, none⟩ = some (.int .i64 a0_10) := (blk_cell BK189.out 10).trans rfl
   have hcz11_11 : w3.cell? ⟨gb189, 11, none⟩ = some (.int .i64 a0_11) := (blk_cell BK189.out 11).trans rfl
   have hfz11_0 := blk_frozen BK189.out 0
   have hfz11_1 := blk_frozen BK189.out 1
   have hfz11_2 := blk_frozen BK189.out 2
   have hfz11_3 := blk_frozen BK189.out 3
   have hfz11_4 := blk_frozen BK189.out 4
   have hfz11_5 := blk_frozen BK189.out 5
   have hfz11_6 := blk_frozen BK189.out 6
   have hfz11_7 := blk_frozen BK189.out 7
   have hfz11_8 := blk_frozen BK189.out 8
   have hfz11_9 := blk_frozen BK189.out 9
   have hfz11_10 := blk_frozen BK189.out 10
   have hfz11_11 := blk_frozen BK189.out 11
   go_wp2_with (first | ((with_reducible refine gate_callee (f := 31) rfl ?_); refine goesL_ (some 8) rfl rfl Try.func31 (by kernel_rfl) rfl #[.slice A0_0 l0_0.length c0_0] rfl (by (try simp only [List.map_toArray, List.map_cons, List.map_nil]); first | done | rfl | (simp only [List.length_drop, List.length_take]; rfl)) ?_; (with_reducible refine (list_Good.calls k _ _ l0_0 t190 _ ?side1 ?side2 A4.out).mono ?_); (case side1 => repeat (first | exact (Kd.C_below HR0_0.out HB.out) | (with_reducible refine Kd.C_alloc ?_ _) | (with_reducible refine Kd.C_drewN ?_ _) | (with_reducible refine Kd.C_drew ?_))); (case side2 => exact HC0_0.out); rintro e w12 ⟨rfl, hb⟩; refine ⟨_, rfl, ?_⟩; have n0_ := Aside0.mk (blk_below (g := gb189) (o := .cells #[.slice A0_0 l0_0.length c0_0, .slice A0_1 l0_1.length c0_1, .int .i64 a0_2, .int .i64 a0_3, .int .i64 a0_4, .int .i64 a0_5, .int .i64 a0_6, .int .i64 a0_7, .int .i64 a0_8, .int .i64 a0_9, .int .i64 a0_10, .int .i64 a0_11] 43 (0, 0)) (by (with_reducible repeat (first | refine blk_drewN ?_ _ | refine blk_drew ?_ | refine blk_alloc ?_ _)); exact BK189.out) hb); have n1_ := Aside0.mk (below_step (by repeat (first | (with_reducible first | exact HB.out | apply below_alloc | apply pw_below_drewN | apply below_drew1 | refine below_set ?_ GE189.out) | exact HB.out)) hb); clear BK189; clear HB; have BK189 := n0_; have HB := n1_; clear n0_ n1_; (try clear hb); (try clear hb2); (try clear hk); (try clear hi)))
   go_meet
   case rel => exact ⟨_, (true), (by first | rfl | (simp; done) | (simp [*]; done)), H', ⟨by first | omega | exact Nat.le_refl _⟩, ⟨by (with_reducible repeat (first | refine blk_drewN ?_ _ | refine blk_drew ?_ | refine blk_alloc ?_ _)); exact BK189.out⟩, ⟨by repeat (first | (with_reducible first | exact HB.out | apply below_alloc | apply pw_below_drewN | apply below_drew1 | refine below_set ?_ GE189.out) | exact HB.out)⟩⟩
 case rest =>
  clear HC2
  try clear c2
  try clear p2
  try clear c3
  try clear c5
  try clear c5b0
  try clear c5b1
  try clear hcz11_0
  try clear hcz11_1
  try clear hcz11_10
  try clear hcz11_11
  try clear hcz11_2
  try clear hcz11_3
  try clear hcz11_4
  try clear hcz11_5
  try clear hcz11_6
  try clear hcz11_7
  try clear hcz11_8
  try clear hcz11_9
  try clear hcz7_0
  try clear hcz7_1
  try clear hcz7_10
  try clear hcz7_11
  try clear hcz7_2
  try clear hcz7_3
  try clear hcz7_4
  try clear hcz7_5
  try clear hcz7_6
  try clear hcz7_7
  try clear hcz7_8
  try clear hcz7_9
  try clear hcz9_0
  try clear hcz9_1
  try clear hcz9_10
  try clear hcz9_11
  try clear hcz9_2
  try clear hcz9_3
  try clear hcz9_4
  try clear hcz9_5
  try clear hcz9_6
  try clear hcz9_7
  try clear hcz9_8
  try clear hcz9_9
  try clear hfz11_0
  try clear hfz11_1
  try clear hfz11_10
  try clear hfz11_11
  try clear hfz11_2
  try clear hfz11_3
  try clear hfz11_4
  try clear hfz11_5
  try clear hfz11_6
  try clear hfz11_7
  try clear hfz11_8
  try clear hfz11_9
  try clear hfz7_0
  try clear hfz7_1
  try clear hfz7_10
  try clear hfz7_11
  try clear hfz7_2
  try clear hfz7_3
  try clear hfz7_4
  try clear hfz7_5
  try clear hfz7_6
  try clear hfz7_7
  try clear hfz7_8
  try clear hfz7_9
  try clear hfz9_0
  try clear hfz9_1
  try clear hfz9_10
  try clear hfz9_11
  try clear hfz9_2
  try clear hfz9_3
  try clear hfz9_4
  try clear hfz9_5
  try clear hfz9_6
  try clear hfz9_7
  try clear hfz9_8
  try clear hfz9_9
  obtain ⟨kq, x15_1, rfl, HA, HJ1, BK189, HB⟩ := hcut
  cases kq with
  | zero => exact absurd HA.out (by simp [place_May.j0])
  | succ kj1 =>
   have H := HA.out
   clear HA
   simp only [place_May.j0] at H
   by_cases c13 : x15_1 = true
   ·subst c13
    have H1 : (some false) = some r := by rw [if_pos rfl] at H; exact H
    clear H
    have H := H1
    clear H1
    obtain rfl := Option.some.inj H
    go_wp2
    go_ret
    exact ⟨by first | rfl | (simp [errW_none, errW_some] <;> rfl) | (simp [*, errW_none, errW_some] <;> rfl), by repeat (first | (with_reducible first | exact HB.out | apply below_alloc | apply pw_below_drewN | apply below_drew1 | refine below_set ?_ GE189.out) | exact HB.out)⟩
   ·replace c13 := Bool.eq_false_iff.mpr c13
    subst c13
    have H1 : ((place_within.f a0_2 1 5).bind fun t192 => (if t192 = true then ((place_within.f a0_3 1 (mn 3 a0_2)).bind fun t193 => (place_May.j1 kj1 t193 l0_0 l0_1 a0_2 a0_3 a0_4 a0_5 a0_6 a0_7 a0_8 a0_9 a0_10 a0_11)) else (place_May.j1 kj1 false l0_0 l0_1 a0_2 a0_3 a0_4 a0_5 a0_6 a0_7 a0_8 a0_9 a0_10 a0_11))) = some r := by rw [if_neg (show ¬ (false = true) by decide)] at H; exact H
    clear H
    have H := H1
    clear H1
    have HC14 := Aside0.mk H
    clear H
    go_upto_region 3 with (fail)
    go_cut [3] (fun v3 wc => ∃ (kq : Nat) (x3_13 : Bool), v3 = .bool x3_13 ∧ Aside0 (place_May.j1 kq x3_13 l0_0 l0_1 a0_2 a0_3 a0_4 a0_5 a0_6 a0_7 a0_8 a0_9 a0_10 a0_11 = some r) ∧ Aside0 (kq ≤ kj1) ∧ Aside0 (wc.heap[gb189]? = some (.cells #[(.slice A0_0 l0_0.length c0_0), (.slice A0_1 l0_1.length c0_1), .int .i64 a0_2, .int .i64 a0_3, .int .i64 a0_4, .int .i64 a0_5, .int .i64 a0_6, .int .i64 a0_7, .int .i64 a0_8, .int .i64 a0_9, .int .i64 a0_10, .int .i64 a0_11] 43 (0, 0))) ∧ Aside0 (Below w.heap.size w wc))
    case first =>
     have H := HC14.out
     clear HC14
     replace H := Option.bind_eq_some_iff.mp H
     obtain ⟨t192, A150, H⟩ := H
     replace H : (if t192 = true then ((place_within.f a0_3 1 (mn 3 a0_2)).bind fun t193 => (place_May.j1 kj1 t193 l0_0 l0_1 a0_2 a0_3 a0_4 a0_5 a0_6 a0_7 a0_8 a0_9 a0_10 a0_11)) else (place_May.j1 kj1 false l0_0 l0_1 a0_2 a0_3 a0_4 a0_5 a0_6 a0_7 a0_8 a0_9 a0_10 a0_11)) = some r := H
     have A15 := Aside0.mk A150
     clear A150
     by_cases c16 : t192 = true
     ·subst c16
      have H1 : ((place_within.f a0_3 1 (mn 3 a0_2)).bind fun t193 => (place_May.j1 kj1 t193 l0_0 l0_1 a0_2 a0_3 a0_4 a0_5 a0_6 a0_7 a0_8 a0_9 a0_10 a0_11)) = some r := by rw [if_pos rfl] at H; exact H
      clear H
      have H := H1
      clear H1
      obtain ⟨ji17, hji17⟩ : ∃ j_ : Int, (mn 3 a0_2) = j_ := ⟨_, rfl⟩
      replace H : ((place_within.f a0_3 1 (ji17)).bind fun t193 => (place_May.j1 kj1 t193 l0_0 l0_1 a0_2 a0_3 a0_4 a0_5 a0_6 a0_7 a0_8 a0_9 a0_10 a0_11)) = some r := by first | (rw [hji17] at H; exact H) | (simp only [hji17] at H ⊢; exact H)
      (try rw [hji17] at A15)
      have hji17_ : (if a0_2 < 3 then a0_2 else 3) = ji17 := hji17
      replace H := Option.bind_eq_some_iff.mp H
      obtain ⟨t193, A180, H⟩ := H
      replace H : (place_May.j1 kj1 t193 l0_0 l0_1 a0_2 a0_3 a0_4 a0_5 a0_6 a0_7 a0_8 a0_9 a0_10 a0_11) = some r := H
      have A18 := Aside0.mk A180
      clear A180
      have H' := Aside0.mk H
      clear H
      have hcz19_0 : wc.cell? ⟨gb189, 0, none⟩ = some (.slice A0_0 l0_0.length c0_0) := (blk_cell BK189.out 0).trans rfl
      have hcz19_1 : wc.cell? ⟨gb189, 1, none⟩ = some (.slice A0_1 l0_1.length c0_1) := (blk_cell BK189.out 1).trans rfl
      have hcz19_2 : wc.cell? ⟨gb189, 2, none⟩ = some (.int .i64 a0_2) := (blk_cell BK189.out 2).trans rfl
      have hcz19_3 : wc.cell? ⟨gb189, 3, none⟩ = some (.int .i64 a0_3) := (blk_cell BK189.out 3).trans rfl
      have hcz19_4 : wc.cell? ⟨gb189, 4, none⟩ = some (.int .i64 a0_4) := (blk_cell BK189.out 4).trans rfl
      have hcz19_5 : wc.cell? ⟨gb189, 5, none⟩ = some (.int .i64 a0_5) := (blk_cell BK189.out 5).trans rfl
      have hcz19_6 : wc.cell? ⟨gb189, 6, none⟩ = some (.int .i64 a0_6) := (blk_cell BK189.out 6).trans rfl
      have hcz19_7 : wc.cell? ⟨gb189, 7, none⟩ = some (.int .i64 a0_7) := (blk_cell BK189.out 7).trans rfl
      have hcz19_8 : wc.cell? ⟨gb189, 8, none⟩ = some (.int .i64 a0_8) := (blk_cell BK189.out 8).trans rfl
      have hcz19_9 : wc.cell? ⟨gb189, 9, none⟩ = some (.int .i64 a0_9) := (blk_cell BK189.out 9).trans rfl
      have hcz19_10 : wc.cell? ⟨gb189, 10, none⟩ = some (.int .i64 a0_10) := (blk_cell BK189.out 10).trans rfl
      have hcz19_11 : wc.cell? ⟨gb189, 11, none⟩ = some (.int .i64 a0_11) := (blk_cell BK189.out 11).trans rfl
      have hfz19_0 := blk_frozen BK189.out 0
      have hfz19_1 := blk_frozen BK189.out 1
      have hfz19_2 := blk_frozen BK189.out 2
      have hfz19_3 := blk_frozen BK189.out 3
      have hfz19_4 := blk_frozen BK189.out 4
      have hfz19_5 := blk_frozen BK189.out 5
      have hfz19_6 := blk_frozen BK189.out 6
      have hfz19_7 := blk_frozen BK189.out 7
      have hfz19_8 := blk_frozen BK189.out 8
      have hfz19_9 := blk_frozen BK189.out 9
      have hfz19_10 := blk_frozen BK189.out 10
      have hfz19_11 := blk_frozen BK189.out 11
      go_wp2_with (first | ((with_reducible refine gate_callee (f := 54) rfl ?_); refine goesL_ (some 18) rfl rfl Try.func54 (by kernel_rfl) rfl #[.int .i64 a0_2, .int .i64 1, .int .i64 5] rfl (by (try simp only [List.map_toArray, List.map_cons, List.map_nil]); first | done | rfl | (simp only [List.length_drop, List.length_take]; rfl)) ?_; (with_reducible refine (place_within.calls a0_2 1 5 true _ A15.out).mono ?_); rintro e w' ⟨rfl, ⟨nd, rfl⟩⟩; refine ⟨_, rfl, ?_⟩) | (go_at_call 54; (with_reducible refine (place_within.calls a0_3 1 ji17 t193 _ A18.out).mono ?_); rintro e w' ⟨rfl, ⟨nd, rfl⟩⟩))
      go_meet
      case rel => exact ⟨_, (t193), (by first | rfl | (simp; done) | (simp [*]; done)), H', ⟨by have := HJ1.out; first | omega | exact Nat.le_refl _⟩, ⟨by (with_reducible repeat (first | refine blk_drewN ?_ _ | refine blk_drew ?_ | refine blk_alloc ?_ _)); exact BK189.out⟩, ⟨by repeat (first | (with_reducible first | exact HB.out | apply below_alloc | apply pw_below_drewN | apply below_drew1 | refine below_set ?_ GE189.out) | exact HB.out)⟩⟩
     ·replace c16 := Bool.eq_false_iff.mpr c16
      subst c16
      have H1 : (place_May.j1 kj1 false l0_0 l0_1 a0_2 a0_3 a0_4 a0_5 a0_6 a0_7 a0_8 a0_9 a0_10 a0_11) = some r := by rw [if_neg (show ¬ (false = true) by decide)] at H; exact H
      clear H
      have H := H1
      clear H1
      have H' := Aside0.mk H
      clear H
      have hcz20_0 : wc.cell? ⟨gb189, 0, none⟩ = some (.slice A0_0 l0_0.length c0_0) := (blk_cell BK189.out 0).trans rfl
      have hcz20_1 : wc.cell? ⟨gb189, 1, none⟩ = some (.slice A0_1 l0_1.length c0_1) := (blk_cell BK189.out 1).trans rfl
      have hcz20_2 : wc.cell? ⟨gb189, 2, none⟩ = some (.int .i64 a0_2) := (blk_cell BK189.out 2).trans rfl
      have hcz20_3 : wc.cell? ⟨gb189, 3, none⟩ = some (.int .i64 a0_3) := (blk_cell BK189.out 3).trans rfl
      have hcz20_4 : wc.cell? ⟨gb189, 4, none⟩ = some (.int .i64 a0_4) := (blk_cell BK189.out 4).trans rfl
      have hcz20_5 : wc.cell? ⟨gb189, 5, none⟩ = some (.int .i64 a0_5) := (blk_cell BK189.out 5).trans rfl
      have hcz20_6 : wc.cell? ⟨gb189, 6, none⟩ = some (.int .i64 a0_6) := (blk_cell BK189.out 6).trans rfl
      have hcz20_7 : wc.cell? ⟨gb189, 7, none⟩ = some (.int .i64 a0_7) := (blk_cell BK189.out 7).trans rfl
      have hcz20_8 : wc.cell? ⟨gb189, 8, none⟩ = some (.int .i64 a0_8) := (blk_cell BK189.out 8).trans rfl
      have hcz20_9 : wc.cell? ⟨gb189, 9, none⟩ = some (.int .i64 a0_9) := (blk_cell BK189.out 9).trans rfl
      have hcz20_10 : wc.cell? ⟨gb189, 10, none⟩ = some (.int .i64 a0_10) := (blk_cell BK189.out 10).trans rfl
      have hcz20_11 : wc.cell? ⟨gb189, 11, none⟩ = some (.int .i64 a0_11) := (blk_cell BK189.out 11).trans rfl
      have hfz20_0 := blk_frozen BK189.out 0
      have hfz20_1 := blk_frozen BK189.out 1
      have hfz20_2 := blk_frozen BK189.out 2
      have hfz20_3 := blk_frozen BK189.out 3
      have hfz20_4 := blk_frozen BK189.out 4
      have hfz20_5 := blk_frozen BK189.out 5
      have hfz20_6 := blk_frozen BK189.out 6
      have hfz20_7 := blk_frozen BK189.out 7
      have hfz20_8 := blk_frozen BK189.out 8
      have hfz20_9 := blk_frozen BK189.out 9
      have hfz20_10 := blk_frozen BK189.out 10
      have hfz20_11 := blk_frozen BK189.out 11
      go_wp2_with (first | ((with_reducible refine gate_callee (f := 54) rfl ?_); refine goesL_ (some 18) rfl rfl Try.func54 (by kernel_rfl) rfl #[.int .i64 a0_2, .int .i64 1, .int .i64 5] rfl (by (try simp only [List.map_toArray, List.map_cons, List.map_nil]); first | done | rfl | (simp only [List.length_drop, List.length_take]; rfl)) ?_; (with_reducible refine (place_within.calls a0_2 1 5 false _ A15.out).mono ?_); rintro e w' ⟨rfl, ⟨nd, rfl⟩⟩; refine ⟨_, rfl, ?_⟩))
      go_meet
      case rel => exact ⟨_, (false), (by first | rfl | (simp; done) | (simp [*]; done)), H', ⟨by have := HJ1.out; first | omega | exact Nat.le_refl _⟩, ⟨by (with_reducible repeat (first | refine blk_drewN ?_ _ | refine blk_drew ?_ | refine blk_alloc ?_ _)); exact BK189.out⟩, ⟨by repeat (first | (with_reducible first | exact HB.out | apply below_alloc | apply pw_below_drewN | apply below_drew1 | refine below_set ?_ GE189.out) | exact HB.out)⟩⟩
    case rest =>
     clear HC14
     try clear c1
     try clear c2
     try clear p2
     try clear c3
     try clear c5
     try clear c5b0
     try clear c5b1
     try clear c13
     try clear c16
     try clear hcz11_0
     try clear hcz11_1
     try clear hcz11_10
     try clear hcz11_11
     try clear hcz11_2
     try clear hcz11_3
     try clear hcz11_4
     try clear hcz11_5
     try clear hcz11_6
     try clear hcz11_7
     try clear hcz11_8
     try clear hcz11_9
     try clear hcz19_0
     try clear hcz19_1
     try clear hcz19_10
     try clear hcz19_11
     try clear hcz19_2
     try clear hcz19_3
     try clear hcz19_4
     try clear hcz19_5
     try clear hcz19_6
     try clear hcz19_7
     try clear hcz19_8
     try clear hcz19_9
     try clear hcz20_0
     try clear hcz20_1
     try clear hcz20_10
     try clear hcz20_11
     try clear hcz20_2
     try clear hcz20_3
     try clear hcz20_4
     try clear hcz20_5
     try clear hcz20_6
     try clear hcz20_7
     try clear hcz20_8
     try clear hcz20_9
     try clear hcz7_0
     try clear hcz7_1
     try clear hcz7_10
     try clear hcz7_11
     try clear hcz7_2
     try clear hcz7_3
     try clear hcz7_4
     try clear hcz7_5
     try clear hcz7_6
     try clear hcz7_7
     try clear hcz7_8
     try clear hcz7_9
     try clear hcz9_0
     try clear hcz9_1
     try clear hcz9_10
     try clear hcz9_11
     try clear hcz9_2
     try clear hcz9_3
     try clear hcz9_4
     try clear hcz9_5
     try clear hcz9_6
     try clear hcz9_7
     try clear hcz9_8
     try clear hcz9_9
     try clear hfz11_0
     try clear hfz11_1
     try clear hfz11_10
     try clear hfz11_11
     try clear hfz11_2
     try clear hfz11_3
     try clear hfz11_4
     try clear hfz11_5
     try clear hfz11_6
     try clear hfz11_7
     try clear hfz11_8
     try clear hfz11_9
     try clear hfz19_0
     try clear hfz19_1
     try clear hfz19_10
     try clear hfz19_11
     try clear hfz19_2
     try clear hfz19_3
     try clear hfz19_4
     try clear hfz19_5
     try clear hfz19_6
     try clear hfz19_7
     try clear hfz19_8
     try clear hfz19_9
     try clear hfz20_0
     try clear hfz20_1
     try clear hfz20_10
     try clear hfz20_11
     try clear hfz20_2
     try clear hfz20_3
     try clear hfz20_4
     try clear hfz20_5
     try clear hfz20_6
     try clear hfz20_7
     try clear hfz20_8
     try clear hfz20_9
     try clear hfz7_0
     try clear hfz7_1
     try clear hfz7_10
     try clear hfz7_11
     try clear hfz7_2
     try clear hfz7_3
     try clear hfz7_4
     try clear hfz7_5
     try clear hfz7_6
     try clear hfz7_7
     try clear hfz7_8
     try clear hfz7_9
     try clear hfz9_0
     try clear hfz9_1
     try clear hfz9_10
     try clear hfz9_11
     try clear hfz9_2
     try clear hfz9_3
     try clear hfz9_4
     try clear hfz9_5
     try clear hfz9_6
     try clear hfz9_7
     try clear hfz9_8
     try clear hfz9_9
     try clear p2
     obtain ⟨kq, x3_13, rfl, HA, HJ13, BK189, HB⟩ := hcut
     cases kq with
     | zero => exact absurd HA.out (by simp [place_May.j1])
     | succ kj13 =>
      have H := HA.out
      clear HA
      simp only [place_May.j1] at H
      have HC21 := Aside0.mk H
      clear H
      go_upto_region 4 with (fail)
      go_cut [4] (fun v4 wc => ∃ (kq : Nat) (x4_20 : Bool), v4 = .bool x4_20 ∧ Aside0 (place_May.j2 kq x3_13 x4_20 l0_0 l0_1 a0_2 a0_3 a0_4 a0_5 a0_6 a0_7 a0_8 a0_9 a0_10 a0_11 = some r) ∧ Aside0 (kq ≤ kj13) ∧ Aside0 (wc.heap[gb189]? = some (.cells #[(.slice A0_0 l0_0.length c0_0), (.slice A0_1 l0_1.length c0_1), .int .i64 a0_2, .int .i64 a0_3, .int .i64 a0_4, .int .i64 a0_5, .int .i64 a0_6, .int .i64 a0_7, .int .i64 a0_8, .int .i64 a0_9, .int .i64 a0_10, .int .i64 a0_11] 43 (0, 0))) ∧ Aside0 (Below w.heap.size w wc))
      case first =>
       have H := HC21.out
       clear HC21
       replace H := Option.bind_eq_some_iff.mp H
       obtain ⟨t194, A220, H⟩ := H
       replace H : (if t194 = true then ((place_within.f a0_5 1 5).bind fun t195 => (if t195 = true then ((place_within.f a0_11 8 64).bind fun t196 => (place_May.j2 kj13 x3_13 t196 l0_0 l0_1 a0_2 a0_3 a0_4 a0_5 a0_6 a0_7 a0_8 a0_9 a0_10 a0_11)) else (place_May.j2 kj13 x3_13 false l0_0 l0_1 a0_2 a0_3 a0_4 a0_5 a0_6 a0_7 a0_8 a0_9 a0_10 a0_11))) else (place_May.j2 kj13 x3_13 false l0_0 l0_1 a0_2 a0_3 a0_4 a0_5 a0_6 a0_7 a0_8 a0_9 a0_10 a0_11)) = some r := H
       have A22 := Aside0.mk A220
       clear A220
       by_cases c23 : t194 = true
       ·subst c23
        have H1 : ((place_within.f a0_5 1 5).bind fun t195 => (if t195 = true then ((place_within.f a0_11 8 64).bind fun t196 => (place_May.j2 kj13 x3_13 t196 l0_0 l0_1 a0_2 a0_3 a0_4 a0_5 a0_6 a0_7 a0_8 a0_9 a0_10 a0_11)) else (place_May.j2 kj13 x3_13 false l0_0 l0_1 a0_2 a0_3 a0_4 a0_5 a0_6 a0_7 a0_8 a0_9 a0_10 a0_11))) = some r := by rw [if_pos rfl] at H; exact H
        clear H
        have H := H1
        clear H1
        replace H := Option.bind_eq_some_iff.mp H
        obtain ⟨t195, A240, H⟩ := H
        replace H : (if t195 = true then ((place_within.f a0_11 8 64).bind fun t196 => (place_May.j2 kj13 x3_13 t196 l0_0 l0_1 a0_2 a0_3 a0_4 a0_5 a0_6 a0_7 a0_8 a0_9 a0_10 a0_11)) else (place_May.j2 kj13 x3_13 false l0_0 l0_1 a0_2 a0_3 a0_4 a0_5 a0_6 a0_7 a0_8 a0_9 a0_10 a0_11)) = some r := H
        have A24 := Aside0.mk A240
        clear A240
        by_cases c25 : t195 = true
        ·subst c25
         have H1 : ((place_within.f a0_11 8 64).bind fun t196 => (place_May.j2 kj13 x3_13 t196 l0_0 l0_1 a0_2 a0_3 a0_4 a0_5 a0_6 a0_7 a0_8 a0_9 a0_10 a0_11)) = some r := by rw [if_pos rfl] at H; exact H
         clear H
         have H := H1
         clear H1
         replace H := Option.bind_eq_some_iff.mp H
         obtain ⟨t196, A260, H⟩ := H
         replace H : (place_May.j2 kj13 x3_13 t196 l0_0 l0_1 a0_2 a0_3 a0_4 a0_5 a0_6 a0_7 a0_8 a0_9 a0_10 a0_11) = some r := H
         have A26 := Aside0.mk A260
         clear A260
         have H' := Aside0.mk H
         clear H
         have hcz27_0 : wc.cell? ⟨gb189, 0, none⟩ = some (.slice A0_0 l0_0.length c0_0) := (blk_cell BK189.out 0).trans rfl
         have hcz27_1 : wc.cell? ⟨gb189, 1, none⟩ = some (.slice A0_1 l0_1.length c0_1) := (blk_cell BK189.out 1).trans rfl
         have hcz27_2 : wc.cell? ⟨gb189, 2, none⟩ = some (.int .i64 a0_2) := (blk_cell BK189.out 2).trans rfl
         have hcz27_3 : wc.cell? ⟨gb189, 3, none⟩ = some (.int .i64 a0_3) := (blk_cell BK189.out 3).trans rfl
         have hcz27_4 : wc.cell? ⟨gb189, 4, none⟩ = some (.int .i64 a0_4) := (blk_cell BK189.out 4).trans rfl
         have hcz27_5 : wc.cell? ⟨gb189, 5, none⟩ = some (.int .i64 a0_5) := (blk_cell BK189.out 5).trans rfl
         have hcz27_6 : wc.cell? ⟨gb189, 6, none⟩ = some (.int .i64 a0_6) := (blk_cell BK189.out 6).trans rfl
         have hcz27_7 : wc.cell? ⟨gb189, 7, none⟩ = some (.int .i64 a0_7) := (blk_cell BK189.out 7).trans rfl
         have hcz27_8 : wc.cell? ⟨gb189, 8, none⟩ = some (.int .i64 a0_8) := (blk_cell BK189.out 8).trans rfl
         have hcz27_9 : wc.cell? ⟨gb189, 9, none⟩ = some (.int .i64 a0_9) := (blk_cell BK189.out 9).trans rfl
         have hcz27_10 : wc.cell? ⟨gb189, 10, none⟩ = some (.int .i64 a0_10) := (blk_cell BK189.out 10).trans rfl
         have hcz27_11 : wc.cell? ⟨gb189, 11, none⟩ = some (.int .i64 a0_11) := (blk_cell BK189.out 11).trans rfl
         have hfz27_0 := blk_frozen BK189.out 0
         have hfz27_1 := blk_frozen BK189.out 1
         have hfz27_2 := blk_frozen BK189.out 2
         have hfz27_3 := blk_frozen BK189.out 3
         have hfz27_4 := blk_frozen BK189.out 4
         have hfz27_5 := blk_frozen BK189.out 5
         have hfz27_6 := blk_frozen BK189.out 6
         have hfz27_7 := blk_frozen BK189.out 7
         have hfz27_8 := blk_frozen BK189.out 8
         have hfz27_9 := blk_frozen BK189.out 9
         have hfz27_10 := blk_frozen BK189.out 10
         have hfz27_11 := blk_frozen BK189.out 11
         go_wp2_with (first | ((with_reducible refine gate_callee (f := 54) rfl ?_); refine goesL_ (some 29) rfl rfl Try.func54 (by kernel_rfl) rfl #[.int .i64 a0_4, .int .i64 1, .int .i64 4] rfl (by (try simp only [List.map_toArray, List.map_cons, List.map_nil]); first | done | rfl | (simp only [List.length_drop, List.length_take]; rfl)) ?_; (with_reducible refine (place_within.calls a0_4 1 4 true _ A22.out).mono ?_); rintro e w' ⟨rfl, ⟨nd, rfl⟩⟩; refine ⟨_, rfl, ?_⟩) | (go_at_call 54; (with_reducible refine (place_within.calls a0_5 1 5 true _ A24.out).mono ?_); rintro e w' ⟨rfl, ⟨nd, rfl⟩⟩) | (go_at_call 54; (with_reducible refine (place_within.calls a0_11 8 64 t196 _ A26.out).mono ?_); rintro e w' ⟨rfl, ⟨nd, rfl⟩⟩))
         go_meet
         case rel => exact ⟨_, (t196), (by first | rfl | (simp; done) | (simp [*]; done)), H', ⟨by have := HJ1.out; have := HJ13.out; first | omega | exact Nat.le_refl _⟩, ⟨by (with_reducible repeat (first | refine blk_drewN ?_ _ | refine blk_drew ?_ | refine blk_alloc ?_ _)); exact BK189.out⟩, ⟨by repeat (first | (with_reducible first | exact HB.out | apply below_alloc | apply pw_below_drewN | apply below_drew1 | refine below_set ?_ GE189.out) | exact HB.out)⟩⟩
        ·replace c25 := Bool.eq_false_iff.mpr c25
         subst c25
         have H1 : (place_May.j2 kj13 x3_13 false l0_0 l0_1 a0_2 a0_3 a0_4 a0_5 a0_6 a0_7 a0_8 a0_9 a0_10 a0_11) = some r := by rw [if_neg (show ¬ (false = true) by decide)] at H; exact H
         clear H
         have H := H1
         clear H1
         have H' := Aside0.mk H
         clear H
         have hcz28_0 : wc.cell? ⟨gb189, 0, none⟩ = some (.slice A0_0 l0_0.length c0_0) := (blk_cell BK189.out 0).trans rfl
         have hcz28_1 : wc.cell? ⟨gb189, 1, none⟩ = some (.slice A0_1 l0_1.length c0_1) := (blk_cell BK189.out 1).trans rfl
         have hcz28_2 : wc.cell? ⟨gb189, 2, none⟩ = some (.int .i64 a0_2) := (blk_cell BK189.out 2).trans rfl
         have hcz28_3 : wc.cell? ⟨gb189, 3, none⟩ = some (.int .i64 a0_3) := (blk_cell BK189.out 3).trans rfl
         have hcz28_4 : wc.cell? ⟨gb189, 4, none⟩ = some (.int .i64 a0_4) := (blk_cell BK189.out 4).trans rfl
         have hcz28_5 : wc.cell? ⟨gb189, 5, none⟩ = some (.int .i64 a0_5) := (blk_cell BK189.out 5).trans rfl
         have hcz28_6 : wc.cell? ⟨gb189, 6, none⟩ = some (.int .i64 a0_6) := (blk_cell BK189.out 6).trans rfl
         have hcz28_7 : wc.cell? ⟨gb189, 7, none⟩ = some (.int .i64 a0_7) := (blk_cell BK189.out 7).trans rfl
         have hcz28_8 : wc.cell? ⟨gb189, 8, none⟩ = some (.int .i64 a0_8) := (blk_cell BK189.out 8).trans rfl
         have hcz28_9 : wc.cell? ⟨gb189, 9, none⟩ = some (.int .i64 a0_9) := (blk_cell BK189.out 9).trans rfl
         have hcz28_10 : wc.cell? ⟨gb189, 10, none⟩ = some (.int .i64 a0_10) := (blk_cell BK189.out 10).trans rfl
         have hcz28_11 : wc.cell? ⟨gb189, 11, none⟩ = some (.int .i64 a0_11) := (blk_cell BK189.out 11).trans rfl
         have hfz28_0 := blk_frozen BK189.out 0
         have hfz28_1 := blk_frozen BK189.out 1
         have hfz28_2 := blk_frozen BK189.out 2
         have hfz28_3 := blk_frozen BK189.out 3
         have hfz28_4 := blk_frozen BK189.out 4
         have hfz28_5 := blk_frozen BK189.out 5
         have hfz28_6 := blk_frozen BK189.out 6
         have hfz28_7 := blk_frozen BK189.out 7
         have hfz28_8 := blk_frozen BK189.out 8
         have hfz28_9 := blk_frozen BK189.out 9
         have hfz28_10 := blk_frozen BK189.out 10
         have hfz28_11 := blk_frozen BK189.out 11
         go_wp2_with (first | ((with_reducible refine gate_callee (f := 54) rfl ?_); refine goesL_ (some 29) rfl rfl Try.func54 (by kernel_rfl) rfl #[.int .i64 a0_4, .int .i64 1, .int .i64 4] rfl (by (try simp only [List.map_toArray, List.map_cons, List.map_nil]); first | done | rfl | (simp only [List.length_drop, List.length_take]; rfl)) ?_; (with_reducible refine (place_within.calls a0_4 1 4 true _ A22.out).mono ?_); rintro e w' ⟨rfl, ⟨nd, rfl⟩⟩; refine ⟨_, rfl, ?_⟩) | (go_at_call 54; (with_reducible refine (place_within.calls a0_5 1 5 false _ A24.out).mono ?_); rintro e w' ⟨rfl, ⟨nd, rfl⟩⟩))
         go_meet
         case rel => exact ⟨_, (false), (by first | rfl | (simp; done) | (simp [*]; done)), H', ⟨by have := HJ1.out; have := HJ13.out; first | omega | exact Nat.le_refl _⟩, ⟨by (with_reducible repeat (first | refine blk_drewN ?_ _ | refine blk_drew ?_ | refine blk_alloc ?_ _)); exact BK189.out⟩, ⟨by repeat (first | (with_reducible first | exact HB.out | apply below_alloc | apply pw_below_drewN | apply below_drew1 | refine below_set ?_ GE189.out) | exact HB.out)⟩⟩
       ·replace c23 := Bool.eq_false_iff.mpr c23
        subst c23
        have H1 : (place_May.j2 kj13 x3_13 false l0_0 l0_1 a0_2 a0_3 a0_4 a0_5 a0_6 a0_7 a0_8 a0_9 a0_10 a0_11) = some r := by rw [if_neg (show ¬ (false = true) by decide)] at H; exact H
        clear H
        have H := H1
        clear H1
        have H' := Aside0.mk H
        clear H
        have hcz29_0 : wc.cell? ⟨gb189, 0, none⟩ = some (.slice A0_0 l0_0.length c0_0) := (blk_cell BK189.out 0).trans rfl
        have hcz29_1 : wc.cell? ⟨gb189, 1, none⟩ = some (.slice A0_1 l0_1.length c0_1) := (blk_cell BK189.out 1).trans rfl
        have hcz29_2 : wc.cell? ⟨gb189, 2, none⟩ = some (.int .i64 a0_2) := (blk_cell BK189.out 2).trans rfl
        have hcz29_3 : wc.cell? ⟨gb189, 3, none⟩ = some (.int .i64 a0_3) := (blk_cell BK189.out 3).trans rfl
        have hcz29_4 : wc.cell? ⟨gb189, 4, none⟩ = some (.int .i64 a0_4) := (blk_cell BK189.out 4).trans rfl
        have hcz29_5 : wc.cell? ⟨gb189, 5, none⟩ = some (.int .i64 a0_5) := (blk_cell BK189.out 5).trans rfl
        have hcz29_6 : wc.cell? ⟨gb189, 6, none⟩ = some (.int .i64 a0_6) := (blk_cell BK189.out 6).trans rfl
        have hcz29_7 : wc.cell? ⟨gb189, 7, none⟩ = some (.int .i64 a0_7) := (blk_cell BK189.out 7).trans rfl
        have hcz29_8 : wc.cell? ⟨gb189, 8, none⟩ = some (.int .i64 a0_8) := (blk_cell BK189.out 8).trans rfl
        have hcz29_9 : wc.cell? ⟨gb189, 9, none⟩ = some (.int .i64 a0_9) := (blk_cell BK189.out 9).trans rfl
        have hcz29_10 : wc.cell? ⟨gb189, 10, none⟩ = some (.int .i64 a0_10) := (blk_cell BK189.out 10).trans rfl
        have hcz29_11 : wc.cell? ⟨gb189, 11, none⟩ = some (.int .i64 a0_11) := (blk_cell BK189.out 11).trans rfl
        have hfz29_0 := blk_frozen BK189.out 0
        have hfz29_1 := blk_frozen BK189.out 1
        have hfz29_2 := blk_frozen BK189.out 2
        have hfz29_3 := blk_frozen BK189.out 3
        have hfz29_4 := blk_frozen BK189.out 4
        have hfz29_5 := blk_frozen BK189.out 5
        have hfz29_6 := blk_frozen BK189.out 6
        have hfz29_7 := blk_frozen BK189.out 7
        have hfz29_8 := blk_frozen BK189.out 8
        have hfz29_9 := blk_frozen BK189.out 9
        have hfz29_10 := blk_frozen BK189.out 10
        have hfz29_11 := blk_frozen BK189.out 11
        go_wp2_with (first | ((with_reducible refine gate_callee (f := 54) rfl ?_); refine goesL_ (some 29) rfl rfl Try.func54 (by kernel_rfl) rfl #[.int .i64 a0_4, .int .i64 1, .int .i64 4] rfl (by (try simp only [List.map_toArray, List.map_cons, List.map_nil]); first | done | rfl | (simp only [List.length_drop, List.length_take]; rfl)) ?_; (with_reducible refine (place_within.calls a0_4 1 4 false _ A22.out).mono ?_); rintro e w' ⟨rfl, ⟨nd, rfl⟩⟩; refine ⟨_, rfl, ?_⟩))
        go_meet
        case rel => exact ⟨_, (false), (by first | rfl | (simp; done) | (simp [*]; done)), H', ⟨by have := HJ1.out; have := HJ13.out; first | omega | exact Nat.le_refl _⟩, ⟨by (with_reducible repeat (first | refine blk_drewN ?_ _ | refine blk_drew ?_ | refine blk_alloc ?_ _)); exact BK189.out⟩, ⟨by repeat (first | (with_reducible first | exact HB.out | apply below_alloc | apply pw_below_drewN | apply below_drew1 | refine below_set ?_ GE189.out) | exact HB.out)⟩⟩
      case rest =>
       clear HC21
       try clear c1
       try clear c2
       try clear p2
       try clear c3
       try clear c5
       try clear c5b0
       try clear c5b1
       try clear c13
       try clear c16
       try clear c23
       try clear c25
       try clear c26
       try clear hcz11_0
       try clear hcz11_1
       try clear hcz11_10
       try clear hcz11_11
       try clear hcz11_2
       try clear hcz11_3
       try clear hcz11_4
       try clear hcz11_5
       try clear hcz11_6
       try clear hcz11_7
       try clear hcz11_8
       try clear hcz11_9
       try clear hcz19_0
       try clear hcz19_1
       try clear hcz19_10
       try clear hcz19_11
       try clear hcz19_2
       try clear hcz19_3
       try clear hcz19_4
       try clear hcz19_5
       try clear hcz19_6
       try clear hcz19_7
       try clear hcz19_8
       try clear hcz19_9
       try clear hcz20_0
       try clear hcz20_1
       try clear hcz20_10
       try clear hcz20_11
       try clear hcz20_2
       try clear hcz20_3
       try clear hcz20_4
       try clear hcz20_5
       try clear hcz20_6
       try clear hcz20_7
       try clear hcz20_8
       try clear hcz20_9
       try clear hcz27_0
       try clear hcz27_1
       try clear hcz27_10
       try clear hcz27_11
       try clear hcz27_2
       try clear hcz27_3
       try clear hcz27_4
       try clear hcz27_5
       try clear hcz27_6
       try clear hcz27_7
       try clear hcz27_8
       try clear hcz27_9
       try clear hcz28_0
       try clear hcz28_1
       try clear hcz28_10
       try clear hcz28_11
       try clear hcz28_2
       try clear hcz28_3
       try clear hcz28_4
       try clear hcz28_5
       try clear hcz28_6
       try clear hcz28_7
       try clear hcz28_8
       try clear hcz28_9
       try clear hcz29_0
       try clear hcz29_1
       try clear hcz29_10
       try clear hcz29_11
       try clear hcz29_2
       try clear hcz29_3
       try clear hcz29_4
       try clear hcz29_5
       try clear hcz29_6
       try clear hcz29_7
       try clear hcz29_8
       try clear hcz29_9
       try clear hcz7_0
       try clear hcz7_1
       try clear hcz7_10
       try clear hcz7_11
       try clear hcz7_2
       try clear hcz7_3
       try clear hcz7_4
       try clear hcz7_5
       try clear hcz7_6
       try clear hcz7_7
       try clear hcz7_8
       try clear hcz7_9
       try clear hcz9_0
       try clear hcz9_1
       try clear hcz9_10
       try clear hcz9_11
       try clear hcz9_2
       try clear hcz9_3
       try clear hcz9_4
       try clear hcz9_5
       try clear hcz9_6
       try clear hcz9_7
       try clear hcz9_8
       try clear hcz9_9
       try clear hfz11_0
       try clear hfz11_1
       try clear hfz11_10
       try clear hfz11_11
       try clear hfz11_2
       try clear hfz11_3
       try clear hfz11_4
       try clear hfz11_5
       try clear hfz11_6
       try clear hfz11_7
       try clear hfz11_8
       try clear hfz11_9
       try clear hfz19_0
       try clear hfz19_1
       try clear hfz19_10
       try clear hfz19_11
       try clear hfz19_2
       try clear hfz19_3
       try clear hfz19_4
       try clear hfz19_5
       try clear hfz19_6
       try clear hfz19_7
       try clear hfz19_8
       try clear hfz19_9
       try clear hfz20_0
       try clear hfz20_1
       try clear hfz20_10
       try clear hfz20_11
       try clear hfz20_2
       try clear hfz20_3
       try clear hfz20_4
       try clear hfz20_5
       try clear hfz20_6
       try clear hfz20_7
       try clear hfz20_8
       try clear hfz20_9
       try clear hfz27_0
       try clear hfz27_1
       try clear hfz27_10
       try clear hfz27_11
       try clear hfz27_2
       try clear hfz27_3
       try clear hfz27_4
       try clear hfz27_5
       try clear hfz27_6
       try clear hfz27_7
       try clear hfz27_8
       try clear hfz27_9
       try clear hfz28_0
       try clear hfz28_1
       try clear hfz28_10
       try clear hfz28_11
       try clear hfz28_2
       try clear hfz28_3
       try clear hfz28_4
       try clear hfz28_5
       try clear hfz28_6
       try clear hfz28_7
       try clear hfz28_8
       try clear hfz28_9
       try clear hfz29_0
       try clear hfz29_1
       try clear hfz29_10
       try clear hfz29_11
       try clear hfz29_2
       try clear hfz29_3
       try clear hfz29_4
       try clear hfz29_5
       try clear hfz29_6
       try clear hfz29_7
       try clear hfz29_8
       try clear hfz29_9
       try clear hfz7_0
       try clear hfz7_1
       try clear hfz7_10
       try clear hfz7_11
       try clear hfz7_2
       try clear hfz7_3
       try clear hfz7_4
       try clear hfz7_5
       try clear hfz7_6
       try clear hfz7_7
       try clear hfz7_8
       try clear hfz7_9
       try clear hfz9_0
       try clear hfz9_1
       try clear hfz9_10
       try clear hfz9_11
       try clear hfz9_2
       try clear hfz9_3
       try clear hfz9_4
       try clear hfz9_5
       try clear hfz9_6
       try clear hfz9_7
       try clear hfz9_8
       try clear hfz9_9
       try clear p2
       obtain ⟨kq, x4_20, rfl, HA, HJ20, BK189, HB⟩ := hcut
       cases kq with
       | zero => exact absurd HA.out (by simp [place_May.j2])
       | succ kj20 =>
        have H := HA.out
        clear HA
        simp only [place_May.j2] at H
        replace H := Option.bind_eq_some_iff.mp H
        obtain ⟨t197, A300, H⟩ := H
        replace H : (if t197 = true then ((place_within.f a0_7 1 1000).bind fun t198 => (if t198 = true then ((place_within.f a0_8 1 10).bind fun t199 => (if t199 = true then ((place_within.f a0_9 a0_8 50).bind fun t200 => (if t200 = true then ((place_within.f a0_10 0 10).bind fun t201 => (if x3_13 = true then (if x4_20 = true then (some t201) else (some false)) else (some false))) else (if x3_13 = true then (if x4_20 = true then (some false) else (some false)) else (some false)))) else (if x3_13 = true then (if x4_20 = true then (some false) else (some false)) else (some false)))) else (if x3_13 = true then (if x4_20 = true then (some false) else (some false)) else (some false)))) else (if x3_13 = true then (if x4_20 = true then (some false) else (some false)) else (some false))) = some r := H
        have A30 := Aside0.mk A300
        clear A300
        by_cases c31 : t197 = true
        ·subst c31
         have H1 : ((place_within.f a0_7 1 1000).bind fun t198 => (if t198 = true then ((place_within.f a0_8 1 10).bind fun t199 => (if t199 = true then ((place_within.f a0_9 a0_8 50).bind fun t200 => (if t200 = true then ((place_within.f a0_10 0 10).bind fun t201 => (if x3_13 = true then (if x4_20 = true then (some t201) else (some false)) else (some false))) else (if x3_13 = true then (if x4_20 = true then (some false) else (some false)) else (some false)))) else (if x3_13 = true then (if x4_20 = true then (some false) else (some false)) else (some false)))) else (if x3_13 = true then (if x4_20 = true then (some false) else (some false)) else (some false)))) = some r := by rw [if_pos rfl] at H; exact H
         clear H
         have H := H1
         clear H1
         replace H := Option.bind_eq_some_iff.mp H
         obtain ⟨t198, A320, H⟩ := H
         replace H : (if t198 = true then ((place_within.f a0_8 1 10).bind fun t199 => (if t199 = true then ((place_within.f a0_9 a0_8 50).bind fun t200 => (if t200 = true then ((place_within.f a0_10 0 10).bind fun t201 => (if x3_13 = true then (if x4_20 = true then (some t201) else (some false)) else (some false))) else (if x3_13 = true then (if x4_20 = true then (some false) else (some false)) else (some false)))) else (if x3_13 = true then (if x4_20 = true then (some false) else (some false)) else (some false)))) else (if x3_13 = true then (if x4_20 = true then (some false) else (some false)) else (some false))) = some r := H
         have A32 := Aside0.mk A320
         clear A320
         by_cases c33 : t198 = true
         ·subst c33
          have H1 : ((place_within.f a0_8 1 10).bind fun t199 => (if t199 = true then ((place_within.f a0_9 a0_8 50).bind fun t200 => (if t200 = true then ((place_within.f a0_10 0 10).bind fun t201 => (if x3_13 = true then (if x4_20 = true then (some t201) else (some false)) else (some false))) else (if x3_13 = true then (if x4_20 = true then (some false) else (some false)) else (some false)))) else (if x3_13 = true then (if x4_20 = true then (some false) else (some false)) else (some false)))) = some r := by rw [if_pos rfl] at H; exact H
          clear H
          have H := H1
          clear H1
          replace H := Option.bind_eq_some_iff.mp H
          obtain ⟨t199, A340, H⟩ := H
          replace H : (if t199 = true then ((place_within.f a0_9 a0_8 50).bind fun t200 => (if t200 = true then ((place_within.f a0_10 0 10).bind fun t201 => (if x3_13 = true then (if x4_20 = true then (some t201) else (some false)) else (some false))) else (if x3_13 = true then (if x4_20 = true then (some false) else (some false)) else (some false)))) else (if x3_13 = true then (if x4_20 = true then (some false) else (some false)) else (some false))) = some r := H
          have A34 := Aside0.mk A340
          clear A340
          by_cases c35 : t199 = true
          ·subst c35
           have H1 : ((place_within.f a0_9 a0_8 50).bind fun t200 => (if t200 = true then ((place_within.f a0_10 0 10).bind fun t201 => (if x3_13 = true then (if x4_20 = true then (some t201) else (some false)) else (some false))) else (if x3_13 = true then (if x4_20 = true then (some false) else (some false)) else (some false)))) = some r := by rw [if_pos rfl] at H; exact H
           clear H
           have H := H1
           clear H1
           replace H := Option.bind_eq_some_iff.mp H
           obtain ⟨t200, A360, H⟩ := H
           replace H : (if t200 = true then ((place_within.f a0_10 0 10).bind fun t201 => (if x3_13 = true then (if x4_20 = true then (some t201) else (some false)) else (some false))) else (if x3_13 = true then (if x4_20 = true then (some false) else (some false)) else (some false))) = some r := H
           have A36 := Aside0.mk A360
           clear A360
           by_cases c37 : t200 = true
           ·subst c37
            have H1 : ((place_within.f a0_10 0 10).bind fun t201 => (if x3_13 = true then (if x4_20 = true then (some t201) else (some false)) else (some false))) = some r := by rw [if_pos rfl] at H; exact H
            clear H
            have H := H1
            clear H1
            replace H := Option.bind_eq_some_iff.mp H
            obtain ⟨t201, A380, H⟩ := H
            replace H : (if x3_13 = true then (if x4_20 = true then (some t201) else (some false)) else (some false)) = some r := H
            have A38 := Aside0.mk A380
            clear A380
            by_cases c39 : x3_13 = true
            ·subst c39
             have H1 : (if x4_20 = true then (some t201) else (some false)) = some r := by rw [if_pos rfl] at H; exact H
             clear H
             have H := H1
             clear H1
             by_cases c40 : x4_20 = true
             ·subst c40
              have H1 : (some t201) = some r := by rw [if_pos rfl] at H; exact H
              clear H
              have H := H1
              clear H1
              obtain rfl := Option.some.inj H
              have hcz41_0 : wc.cell? ⟨gb189, 0, none⟩ = some (.slice A0_0 l0_0.length c0_0) := (blk_cell BK189.out 0).trans rfl
              have hcz41_1 : wc.cell? ⟨gb189, 1, none⟩ = some (.slice A0_1 l0_1.length c0_1) := (blk_cell BK189.out 1).trans rfl
              have hcz41_2 : wc.cell? ⟨gb189, 2, none⟩ = some (.int .i64 a0_2) := (blk_cell BK189.out 2).trans rfl
              have hcz41_3 : wc.cell? ⟨gb189, 3, none⟩ = some (.int .i64 a0_3) := (blk_cell BK189.out 3).trans rfl
              have hcz41_4 : wc.cell? ⟨gb189, 4, none⟩ = some (.int .i64 a0_4) := (blk_cell BK189.out 4).trans rfl
              have hcz41_5 : wc.cell? ⟨gb189, 5, none⟩ = some (.int .i64 a0_5) := (blk_cell BK189.out 5).trans rfl
              have hcz41_6 : wc.cell? ⟨gb189, 6, none⟩ = some (.int .i64 a0_6) := (blk_cell BK189.out 6).trans rfl
              have hcz41_7 : wc.cell? ⟨gb189, 7, none⟩ = some (.int .i64 a0_7) := (blk_cell BK189.out 7).trans rfl
              have hcz41_8 : wc.cell? ⟨gb189, 8, none⟩ = some (.int .i64 a0_8) := (blk_cell BK189.out 8).trans rfl
              have hcz41_9 : wc.cell? ⟨gb189, 9, none⟩ = some (.int .i64 a0_9) := (blk_cell BK189.out 9).trans rfl
              have hcz41_10 : wc.cell? ⟨gb189, 10, none⟩ = some (.int .i64 a0_10) := (blk_cell BK189.out 10).trans rfl
              have hcz41_11 : wc.cell? ⟨gb189, 11, none⟩ = some (.int .i64 a0_11) := (blk_cell BK189.out 11).trans rfl
              have hfz41_0 := blk_frozen BK189.out 0
              have hfz41_1 := blk_frozen BK189.out 1
              have hfz41_2 := blk_frozen BK189.out 2
              have hfz41_3 := blk_frozen BK189.out 3
              have hfz41_4 := blk_frozen BK189.out 4
              have hfz41_5 := blk_frozen BK189.out 5
              have hfz41_6 := blk_frozen BK189.out 6
              have hfz41_7 := blk_frozen BK189.out 7
              have hfz41_8 := blk_frozen BK189.out 8
              have hfz41_9 := blk_frozen BK189.out 9
              have hfz41_10 := blk_frozen BK189.out 10
              have hfz41_11 := blk_frozen BK189.out 11
              go_wp2_with (first | ((with_reducible refine gate_callee (f := 54) rfl ?_); refine goesL_ (some 42) rfl rfl Try.func54 (by kernel_rfl) rfl #[.int .i64 a0_6, .int .i64 1, .int .i64 1000] rfl (by (try simp only [List.map_toArray, List.map_cons, List.map_nil]); first | done | rfl | (simp only [List.length_drop, List.length_take]; rfl)) ?_; (with_reducible refine (place_within.calls a0_6 1 1000 true _ A30.out).mono ?_); rintro e w' ⟨rfl, ⟨nd, rfl⟩⟩; refine ⟨_, rfl, ?_⟩) | (go_at_call 54; (with_reducible refine (place_within.calls a0_7 1 1000 true _ A32.out).mono ?_); rintro e w' ⟨rfl, ⟨nd, rfl⟩⟩) | (go_at_call 54; (with_reducible refine (place_within.calls a0_8 1 10 true _ A34.out).mono ?_); rintro e w' ⟨rfl, ⟨nd, rfl⟩⟩) | (go_at_call 54; (with_reducible refine (place_within.calls a0_9 a0_8 50 true _ A36.out).mono ?_); rintro e w' ⟨rfl, ⟨nd, rfl⟩⟩) | (go_at_call 54; (with_reducible refine (place_within.calls a0_10 0 10 t201 _ A38.out).mono ?_); rintro e w' ⟨rfl, ⟨nd, rfl⟩⟩))
              go_ret
              exact ⟨by first | rfl | (simp [errW_none, errW_some] <;> rfl) | (simp [*, errW_none, errW_some] <;> rfl), by repeat (first | (with_reducible first | exact HB.out | apply below_alloc | apply pw_below_drewN | apply below_drew1 | refine below_set ?_ GE189.out) | exact HB.out)⟩
             ·replace c40 := Bool.eq_false_iff.mpr c40
              subst c40
              have H1 : (some false) = some r := by rw [if_neg (show ¬ (false = true) by decide)] at H; exact H
              clear H
              have H := H1
              clear H1
              obtain rfl := Option.some.inj H
              have hcz42_0 : wc.cell? ⟨gb189, 0, none⟩ = some (.slice A0_0 l0_0.length c0_0) := (blk_cell BK189.out 0).trans rfl
              have hcz42_1 : wc.cell? ⟨gb189, 1, none⟩ = some (.slice A0_1 l0_1.length c0_1) := (blk_cell BK189.out 1).trans rfl
              have hcz42_2 : wc.cell? ⟨gb189, 2, none⟩ = some (.int .i64 a0_2) := (blk_cell BK189.out 2).trans rfl
              have hcz42_3 : wc.cell? ⟨gb189, 3, none⟩ = some (.int .i64 a0_3) := (blk_cell BK189.out 3).trans rfl
              have hcz42_4 : wc.cell? ⟨gb189, 4, none⟩ = some (.int .i64 a0_4) := (blk_cell BK189.out 4).trans rfl
              have hcz42_5 : wc.cell? ⟨gb189, 5, none⟩ = some (.int .i64 a0_5) := (blk_cell BK189.out 5).trans rfl
              have hcz42_6 : wc.cell? ⟨gb189, 6, none⟩ = some (.int .i64 a0_6) := (blk_cell BK189.out 6).trans rfl
              have hcz42_7 : wc.cell? ⟨gb189, 7, none⟩ = some (.int .i64 a0_7) := (blk_cell BK189.out 7).trans rfl
              have hcz42_8 : wc.cell? ⟨gb189, 8, none⟩ = some (.int .i64 a0_8) := (blk_cell BK189.out 8).trans rfl
              have hcz42_9 : wc.cell? ⟨gb189, 9, none⟩ = some (.int .i64 a0_9) := (blk_cell BK189.out 9).trans rfl
              have hcz42_10 : wc.cell? ⟨gb189, 10, none⟩ = some (.int .i64 a0_10) := (blk_cell BK189.out 10).trans rfl
              have hcz42_11 : wc.cell? ⟨gb189, 11, none⟩ = some (.int .i64 a0_11) := (blk_cell BK189.out 11).trans rfl
              have hfz42_0 := blk_frozen BK189.out 0
              have hfz42_1 := blk_frozen BK189.out 1
              have hfz42_2 := blk_frozen BK189.out 2
              have hfz42_3 := blk_frozen BK189.out 3
              have hfz42_4 := blk_frozen BK189.out 4
              have hfz42_5 := blk_frozen BK189.out 5
              have hfz42_6 := blk_frozen BK189.out 6
              have hfz42_7 := blk_frozen BK189.out 7
              have hfz42_8 := blk_frozen BK189.out 8
              have hfz42_9 := blk_frozen BK189.out 9
              have hfz42_10 := blk_frozen BK189.out 10
              have hfz42_11 := blk_frozen BK189.out 11
              go_wp2_with (first | ((with_reducible refine gate_callee (f := 54) rfl ?_); refine goesL_ (some 42) rfl rfl Try.func54 (by kernel_rfl) rfl #[.int .i64 a0_6, .int .i64 1, .int .i64 1000] rfl (by (try simp only [List.map_toArray, List.map_cons, List.map_nil]); first | done | rfl | (simp only [List.length_drop, List.length_take]; rfl)) ?_; (with_reducible refine (place_within.calls a0_6 1 1000 true _ A30.out).mono ?_); rintro e w' ⟨rfl, ⟨nd, rfl⟩⟩; refine ⟨_, rfl, ?_⟩) | (go_at_call 54; (with_reducible refine (place_within.calls a0_7 1 1000 true _ A32.out).mono ?_); rintro e w' ⟨rfl, ⟨nd, rfl⟩⟩) | (go_at_call 54; (with_reducible refine (place_within.calls a0_8 1 10 true _ A34.out).mono ?_); rintro e w' ⟨rfl, ⟨nd, rfl⟩⟩) | (go_at_call 54; (with_reducible refine (place_within.calls a0_9 a0_8 50 true _ A36.out).mono ?_); rintro e w' ⟨rfl, ⟨nd, rfl⟩⟩) | (go_at_call 54; (with_reducible refine (place_within.calls a0_10 0 10 t201 _ A38.out).mono ?_); rintro e w' ⟨rfl, ⟨nd, rfl⟩⟩))
              go_ret
              exact ⟨by first | rfl | (simp [errW_none, errW_some] <;> rfl) | (simp [*, errW_none, errW_some] <;> rfl), by repeat (first | (with_reducible first | exact HB.out | apply below_alloc | apply pw_below_drewN | apply below_drew1 | refine below_set ?_ GE189.out) | exact HB.out)⟩
            ·replace c39 := Bool.eq_false_iff.mpr c39
             subst c39
             have H1 : (some false) = some r := by rw [if_neg (show ¬ (false = true) by decide)] at H; exact H
             clear H
             have H := H1
             clear H1
             obtain rfl := Option.some.inj H
             have hcz43_0 : wc.cell? ⟨gb189, 0, none⟩ = some (.slice A0_0 l0_0.length c0_0) := (blk_cell BK189.out 0).trans rfl
             have hcz43_1 : wc.cell? ⟨gb189, 1, none⟩ = some (.slice A0_1 l0_1.length c0_1) := (blk_cell BK189.out 1).trans rfl
             have hcz43_2 : wc.cell? ⟨gb189, 2, none⟩ = some (.int .i64 a0_2) := (blk_cell BK189.out 2).trans rfl
             have hcz43_3 : wc.cell? ⟨gb189, 3, none⟩ = some (.int .i64 a0_3) := (blk_cell BK189.out 3).trans rfl
             have hcz43_4 : wc.cell? ⟨gb189, 4, none⟩ = some (.int .i64 a0_4) := (blk_cell BK189.out 4).trans rfl
             have hcz43_5 : wc.cell? ⟨gb189, 5, none⟩ = some (.int .i64 a0_5) := (blk_cell BK189.out 5).trans rfl
             have hcz43_6 : wc.cell? ⟨gb189, 6, none⟩ = some (.int .i64 a0_6) := (blk_cell BK189.out 6).trans rfl
             have hcz43_7 : wc.cell? ⟨gb189, 7, none⟩ = some (.int .i64 a0_7) := (blk_cell BK189.out 7).trans rfl
             have hcz43_8 : wc.cell? ⟨gb189, 8, none⟩ = some (.int .i64 a0_8) := (blk_cell BK189.out 8).trans rfl
             have hcz43_9 : wc.cell? ⟨gb189, 9, none⟩ = some (.int .i64 a0_9) := (blk_cell BK189.out 9).trans rfl
             have hcz43_10 : wc.cell? ⟨gb189, 10, none⟩ = some (.int .i64 a0_10) := (blk_cell BK189.out 10).trans rfl
             have hcz43_11 : wc.cell? ⟨gb189, 11, none⟩ = some (.int .i64 a0_11) := (blk_cell BK189.out 11).trans rfl
             have hfz43_0 := blk_frozen BK189.out 0
             have hfz43_1 := blk_frozen BK189.out 1
             have hfz43_2 := blk_frozen BK189.out 2
             have hfz43_3 := blk_frozen BK189.out 3
             have hfz43_4 := blk_frozen BK189.out 4
             have hfz43_5 := blk_frozen BK189.out 5
             have hfz43_6 := blk_frozen BK189.out 6
             have hfz43_7 := blk_frozen BK189.out 7
             have hfz43_8 := blk_frozen BK189.out 8
             have hfz43_9 := blk_frozen BK189.out 9
             have hfz43_10 := blk_frozen BK189.out 10
             have hfz43_11 := blk_frozen BK189.out 11
             go_wp2_with (first | ((with_reducible refine gate_callee (f := 54) rfl ?_); refine goesL_ (some 42) rfl rfl Try.func54 (by kernel_rfl) rfl #[.int .i64 a0_6, .int .i64 1, .int .i64 1000] rfl (by (try simp only [List.map_toArray, List.map_cons, List.map_nil]); first | done | rfl | (simp only [List.length_drop, List.length_take]; rfl)) ?_; (with_reducible refine (place_within.calls a0_6 1 1000 true _ A30.out).mono ?_); rintro e w' ⟨rfl, ⟨nd, rfl⟩⟩; refine ⟨_, rfl, ?_⟩) | (go_at_call 54; (with_reducible refine (place_within.calls a0_7 1 1000 true _ A32.out).mono ?_); rintro e w' ⟨rfl, ⟨nd, rfl⟩⟩) | (go_at_call 54; (with_reducible refine (place_within.calls a0_8 1 10 true _ A34.out).mono ?_); rintro e w' ⟨rfl, ⟨nd, rfl⟩⟩) | (go_at_call 54; (with_reducible refine (place_within.calls a0_9 a0_8 50 true _ A36.out).mono ?_); rintro e w' ⟨rfl, ⟨nd, rfl⟩⟩) | (go_at_call 54; (with_reducible refine (place_within.calls a0_10 0 10 t201 _ A38.out).mono ?_); rintro e w' ⟨rfl, ⟨nd, rfl⟩⟩))
             go_ret
             exact ⟨by first | rfl | (simp [errW_none, errW_some] <;> rfl) | (simp [*, errW_none, errW_some] <;> rfl), by repeat (first | (with_reducible first | exact HB.out | apply below_alloc | apply pw_below_drewN | apply below_drew1 | refine below_set ?_ GE189.out) | exact HB.out)⟩
           ·replace c37 := Bool.eq_false_iff.mpr c37
            subst c37
            have H1 : (if x3_13 = true then (if x4_20 = true then (some false) else (some false)) else (some false)) = some r := by rw [if_neg (show ¬ (false = true) by decide)] at H; exact H
            clear H
            have H := H1
            clear H1
            by_cases c44 : x3_13 = true
            ·subst c44
             have H1 : (if x4_20 = true then (some false) else (some false)) = some r := by rw [if_pos rfl] at H; exact H
             clear H
             have H := H1
             clear H1
             by_cases c45 : x4_20 = true
             ·subst c45
              have H1 : (some false) = some r := by rw [if_pos rfl] at H; exact H
              clear H
              have H := H1
              clear H1
              obtain rfl := Option.some.inj H
              have hcz46_0 : wc.cell? ⟨gb189, 0, none⟩ = some (.slice A0_0 l0_0.length c0_0) := (blk_cell BK189.out 0).trans rfl
              have hcz46_1 : wc.cell? ⟨gb189, 1, none⟩ = some (.slice A0_1 l0_1.length c0_1) := (blk_cell BK189.out 1).trans rfl
              have hcz46_2 : wc.cell? ⟨gb189, 2, none⟩ = some (.int .i64 a0_2) := (blk_cell BK189.out 2).trans rfl
              have hcz46_3 : wc.cell? ⟨gb189, 3, none⟩ = some (.int .i64 a0_3) := (blk_cell BK189.out 3).trans rfl
              have hcz46_4 : wc.cell? ⟨gb189, 4, none⟩ = some (.int .i64 a0_4) := (blk_cell BK189.out 4).trans rfl
              have hcz46_5 : wc.cell? ⟨gb189, 5, none⟩ = some (.int .i64 a0_5) := (blk_cell BK189.out 5).trans rfl
              have hcz46_6 : wc.cell? ⟨gb189, 6, none⟩ = some (.int .i64 a0_6) := (blk_cell BK189.out 6).trans rfl
              have hcz46_7 : wc.cell? ⟨gb189, 7, none⟩ = some (.int .i64 a0_7) := (blk_cell BK189.out 7).trans rfl
              have hcz46_8 : wc.cell? ⟨gb189, 8, none⟩ = some (.int .i64 a0_8) := (blk_cell BK189.out 8).trans rfl
              have hcz46_9 : wc.cell? ⟨gb189, 9, none⟩ = some (.int .i64 a0_9) := (blk_cell BK189.out 9).trans rfl
              have hcz46_10 : wc.cell? ⟨gb189, 10, none⟩ = some (.int .i64 a0_10) := (blk_cell BK189.out 10).trans rfl
              have hcz46_11 : wc.cell? ⟨gb189, 11, none⟩ = some (.int .i64 a0_11) := (blk_cell BK189.out 11).trans rfl
              have hfz46_0 := blk_frozen BK189.out 0
              have hfz46_1 := blk_frozen BK189.out 1
              have hfz46_2 := blk_frozen BK189.out 2
              have hfz46_3 := blk_frozen BK189.out 3
              have hfz46_4 := blk_frozen BK189.out 4
              have hfz46_5 := blk_frozen BK189.out 5
              have hfz46_6 := blk_frozen BK189.out 6
              have hfz46_7 := blk_frozen BK189.out 7
              have hfz46_8 := blk_frozen BK189.out 8
              have hfz46_9 := blk_frozen BK189.out 9
              have hfz46_10 := blk_frozen BK189.out 10
              have hfz46_11 := blk_frozen BK189.out 11
              go_wp2_with (first | ((with_reducible refine gate_callee (f := 54) rfl ?_); refine goesL_ (some 42) rfl rfl Try.func54 (by kernel_rfl) rfl #[.int .i64 a0_6, .int .i64 1, .int .i64 1000] rfl (by (try simp only [List.map_toArray, List.map_cons, List.map_nil]); first | done | rfl | (simp only [List.length_drop, List.length_take]; rfl)) ?_; (with_reducible refine (place_within.calls a0_6 1 1000 true _ A30.out).mono ?_); rintro e w' ⟨rfl, ⟨nd, rfl⟩⟩; refine ⟨_, rfl, ?_⟩) | (go_at_call 54; (with_reducible refine (place_within.calls a0_7 1 1000 true _ A32.out).mono ?_); rintro e w' ⟨rfl, ⟨nd, rfl⟩⟩) | (go_at_call 54; (with_reducible refine (place_within.calls a0_8 1 10 true _ A34.out).mono ?_); rintro e w' ⟨rfl, ⟨nd, rfl⟩⟩) | (go_at_call 54; (with_reducible refine (place_within.calls a0_9 a0_8 50 false _ A36.out).mono ?_); rintro e w' ⟨rfl, ⟨nd, rfl⟩⟩))
              go_ret
              exact ⟨by first | rfl | (simp [errW_none, errW_some] <;> rfl) | (simp [*, errW_none, errW_some] <;> rfl), by repeat (first | (with_reducible first | exact HB.out | apply below_alloc | apply pw_below_drewN | apply below_drew1 | refine below_set ?_ GE189.out) | exact HB.out)⟩
             ·replace c45 := Bool.eq_false_iff.mpr c45
              subst c45
              have H1 : (some false) = some r := by rw [if_neg (show ¬ (false = true) by decide)] at H; exact H
              clear H
              have H := H1
              clear H1
              obtain rfl := Option.some.inj H
              have hcz47_0 : wc.cell? ⟨gb189, 0, none⟩ = some (.slice A0_0 l0_0.length c0_0) := (blk_cell BK189.out 0).trans rfl
              have hcz47_1 : wc.cell? ⟨gb189, 1, none⟩ = some (.slice A0_1 l0_1.length c0_1) := (blk_cell BK189.out 1).trans rfl
              have hcz47_2 : wc.cell? ⟨gb189, 2, none⟩ = some (.int .i64 a0_2) := (blk_cell BK189.out 2).trans rfl
              have hcz47_3 : wc.cell? ⟨gb189, 3, none⟩ = some (.int .i64 a0_3) := (blk_cell BK189.out 3).trans rfl
              have hcz47_4 : wc.cell? ⟨gb189, 4, none⟩ = some (.int .i64 a0_4) := (blk_cell BK189.out 4).trans rfl
              have hcz47_5 : wc.cell? ⟨gb189, 5, none⟩ = some (.int .i64 a0_5) := (blk_cell BK189.out 5).trans rfl
              have hcz47_6 : wc.cell? ⟨gb189, 6, none⟩ = some (.int .i64 a0_6) := (blk_cell BK189.out 6).trans rfl
              have hcz47_7 : wc.cell? ⟨gb189, 7, none⟩ = some (.int .i64 a0_7) := (blk_cell BK189.out 7).trans rfl
              have hcz47_8 : wc.cell? ⟨gb189, 8, none⟩ = some (.int .i64 a0_8) := (blk_cell BK189.out 8).trans rfl
              have hcz47_9 : wc.cell? ⟨gb189, 9, none⟩ = some (.int .i64 a0_9) := (blk_cell BK189.out 9).trans rfl
              have hcz47_10 : wc.cell? ⟨gb189, 10, none⟩ = some (.int .i64 a0_10) := (blk_cell BK189.out 10).trans rfl
              have hcz47_11 : wc.cell? ⟨gb189, 11, none⟩ = some (.int .i64 a0_11) := (blk_cell BK189.out 11).trans rfl
              have hfz47_0 := blk_frozen BK189.out 0
              have hfz47_1 := blk_frozen BK189.out 1
              have hfz47_2 := blk_frozen BK189.out 2
              have hfz47_3 := blk_frozen BK189.out 3
              have hfz47_4 := blk_frozen BK189.out 4
              have hfz47_5 := blk_frozen BK189.out 5
              have hfz47_6 := blk_frozen BK189.out 6
              have hfz47_7 := blk_frozen BK189.out 7
              have hfz47_8 := blk_frozen BK189.out 8
              have hfz47_9 := blk_frozen BK189.out 9
              have hfz47_10 := blk_frozen BK189.out 10
              have hfz47_11 := blk_frozen BK189.out 11
              go_wp2_with (first | ((with_reducible refine gate_callee (f := 54) rfl ?_); refine goesL_ (some 42) rfl rfl Try.func54 (by kernel_rfl) rfl #[.int .i64 a0_6, .int .i64 1, .int .i64 1000] rfl (by (try simp only [List.map_toArray, List.map_cons, List.map_nil]); first | done | rfl | (simp only [List.length_drop, List.length_take]; rfl)) ?_; (with_reducible refine (place_within.calls a0_6 1 1000 true _ A30.out).mono ?_); rintro e w' ⟨rfl, ⟨nd, rfl⟩⟩; refine ⟨_, rfl, ?_⟩) | (go_at_call 54; (with_reducible refine (place_within.calls a0_7 1 1000 true _ A32.out).mono ?_); rintro e w' ⟨rfl, ⟨nd, rfl⟩⟩) | (go_at_call 54; (with_reducible refine (place_within.calls a0_8 1 10 true _ A34.out).mono ?_); rintro e w' ⟨rfl, ⟨nd, rfl⟩⟩) | (go_at_call 54; (with_reducible refine (place_within.calls a0_9 a0_8 50 false _ A36.out).mono ?_); rintro e w' ⟨rfl, ⟨nd, rfl⟩⟩))
              go_ret
              exact ⟨by first | rfl | (simp [errW_none, errW_some] <;> rfl) | (simp [*, errW_none, errW_some] <;> rfl), by repeat (first | (with_reducible first | exact HB.out | apply below_alloc | apply pw_below_drewN | apply below_drew1 | refine below_set ?_ GE189.out) | exact HB.out)⟩
            ·replace c44 := Bool.eq_false_iff.mpr c44
             subst c44
             have H1 : (some false) = some r := by rw [if_neg (show ¬ (false = true) by decide)] at H; exact H
             clear H
             have H := H1
             clear H1
             obtain rfl := Option.some.inj H
             have hcz48_0 : wc.cell? ⟨gb189, 0, none⟩ = some (.slice A0_0 l0_0.length c0_0) := (blk_cell BK189.out 0).trans rfl
             have hcz48_1 : wc.cell? ⟨gb189, 1, none⟩ = some (.slice A0_1 l0_1.length c0_1) := (blk_cell BK189.out 1).trans rfl
             have hcz48_2 : wc.cell? ⟨gb189, 2, none⟩ = some (.int .i64 a0_2) := (blk_cell BK189.out 2).trans rfl
             have hcz48_3 : wc.cell? ⟨gb189, 3, none⟩ = some (.int .i64 a0_3) := (blk_cell BK189.out 3).trans rfl
             have hcz48_4 : wc.cell? ⟨gb189, 4, none⟩ = some (.int .i64 a0_4) := (blk_cell BK189.out 4).trans rfl
             have hcz48_5 : wc.cell? ⟨gb189, 5, none⟩ = some (.int .i64 a0_5) := (blk_cell BK189.out 5).trans rfl
             have hcz48_6 : wc.cell? ⟨gb189, 6, none⟩ = some (.int .i64 a0_6) := (blk_cell BK189.out 6).trans rfl
             have hcz48_7 : wc.cell? ⟨gb189, 7, none⟩ = some (.int .i64 a0_7) := (blk_cell BK189.out 7).trans rfl
             have hcz48_8 : wc.cell? ⟨gb189, 8, none⟩ = some (.int .i64 a0_8) := (blk_cell BK189.out 8).trans rfl
             have hcz48_9 : wc.cell? ⟨gb189, 9, none⟩ = some (.int .i64 a0_9) := (blk_cell BK189.out 9).trans rfl
             have hcz48_10 : wc.cell? ⟨gb189, 10, none⟩ = some (.int .i64 a0_10) := (blk_cell BK189.out 10).trans rfl
             have hcz48_11 : wc.cell? ⟨gb189, 11, none⟩ = some (.int .i64 a0_11) := (blk_cell BK189.out 11).trans rfl
             have hfz48_0 := blk_frozen BK189.out 0
             have hfz48_1 := blk_frozen BK189.out 1
             have hfz48_2 := blk_frozen BK189.out 2
             have hfz48_3 := blk_frozen BK189.out 3
             have hfz48_4 := blk_frozen BK189.out 4
             have hfz48_5 := blk_frozen BK189.out 5
             have hfz48_6 := blk_frozen BK189.out 6
             have hfz48_7 := blk_frozen BK189.out 7
             have hfz48_8 := blk_frozen BK189.out 8
             have hfz48_9 := blk_frozen BK189.out 9
             have hfz48_10 := blk_frozen BK189.out 10
             have hfz48_11 := blk_frozen BK189.out 11
             go_wp2_with (first | ((with_reducible refine gate_callee (f := 54) rfl ?_); refine goesL_ (some 42) rfl rfl Try.func54 (by kernel_rfl) rfl #[.int .i64 a0_6, .int .i64 1, .int .i64 1000] rfl (by (try simp only [List.map_toArray, List.map_cons, List.map_nil]); first | done | rfl | (simp only [List.length_drop, List.length_take]; rfl)) ?_; (with_reducible refine (place_within.calls a0_6 1 1000 true _ A30.out).mono ?_); rintro e w' ⟨rfl, ⟨nd, rfl⟩⟩; refine ⟨_, rfl, ?_⟩) | (go_at_call 54; (with_reducible refine (place_within.calls a0_7 1 1000 true _ A32.out).mono ?_); rintro e w' ⟨rfl, ⟨nd, rfl⟩⟩) | (go_at_call 54; (with_reducible refine (place_within.calls a0_8 1 10 true _ A34.out).mono ?_); rintro e w' ⟨rfl, ⟨nd, rfl⟩⟩) | (go_at_call 54; (with_reducible refine (place_within.calls a0_9 a0_8 50 false _ A36.out).mono ?_); rintro e w' ⟨rfl, ⟨nd, rfl⟩⟩))
             go_ret
             exact ⟨by first | rfl | (simp [errW_none, errW_some] <;> rfl) | (simp [*, errW_none, errW_some] <;> rfl), by repeat (first | (with_reducible first | exact HB.out | apply below_alloc | apply pw_below_drewN | apply below_drew1 | refine below_set ?_ GE189.out) | exact HB.out)⟩
          ·replace c35 := Bool.eq_false_iff.mpr c35
           subst c35
           have H1 : (if x3_13 = true then (if x4_20 = true then (some false) else (some false)) else (some false)) = some r := by rw [if_neg (show ¬ (false = true) by decide)] at H; exact H
           clear H
           have H := H1
           clear H1
           by_cases c49 : x3_13 = true
           ·subst c49
            have H1 : (if x4_20 = true then (some false) else (some false)) = some r := by rw [if_pos rfl] at H; exact H
            clear H
            have H := H1
            clear H1
            by_cases c50 : x4_20 = true
            ·subst c50
             have H1 : (some false) = some r := by rw [if_pos rfl] at H; exact H
             clear H
             have H := H1
             clear H1
             obtain rfl := Option.some.inj H
             have hcz51_0 : wc.cell? ⟨gb189, 0, none⟩ = some (.slice A0_0 l0_0.length c0_0) := (blk_cell BK189.out 0).trans rfl
             have hcz51_1 : wc.cell? ⟨gb189, 1, none⟩ = some (.slice A0_1 l0_1.length c0_1) := (blk_cell BK189.out 1).trans rfl
             have hcz51_2 : wc.cell? ⟨gb189, 2, none⟩ = some (.int .i64 a0_2) := (blk_cell BK189.out 2).trans rfl
             have hcz51_3 : wc.cell? ⟨gb189, 3, none⟩ = some (.int .i64 a0_3) := (blk_cell BK189.out 3).trans rfl
             have hcz51_4 : wc.cell? ⟨gb189, 4, none⟩ = some (.int .i64 a0_4) := (blk_cell BK189.out 4).trans rfl
             have hcz51_5 : wc.cell? ⟨gb189, 5, none⟩ = some (.int .i64 a0_5) := (blk_cell BK189.out 5).trans rfl
             have hcz51_6 : wc.cell? ⟨gb189, 6, none⟩ = some (.int .i64 a0_6) := (blk_cell BK189.out 6).trans rfl
             have hcz51_7 : wc.cell? ⟨gb189, 7, none⟩ = some (.int .i64 a0_7) := (blk_cell BK189.out 7).trans rfl
             have hcz51_8 : wc.cell? ⟨gb189, 8, none⟩ = some (.int .i64 a0_8) := (blk_cell BK189.out 8).trans rfl
             have hcz51_9 : wc.cell? ⟨gb189, 9, none⟩ = some (.int .i64 a0_9) := (blk_cell BK189.out 9).trans rfl
             have hcz51_10 : wc.cell? ⟨gb189, 10, none⟩ = some (.int .i64 a0_10) := (blk_cell BK189.out 10).trans rfl
             have hcz51_11 : wc.cell? ⟨gb189, 11, none⟩ = some (.int .i64 a0_11) := (blk_cell BK189.out 11).trans rfl
             have hfz51_0 := blk_frozen BK189.out 0
             have hfz51_1 := blk_frozen BK189.out 1
             have hfz51_2 := blk_frozen BK189.out 2
             have hfz51_3 := blk_frozen BK189.out 3
             have hfz51_4 := blk_frozen BK189.out 4
             have hfz51_5 := blk_frozen BK189.out 5
             have hfz51_6 := blk_frozen BK189.out 6
             have hfz51_7 := blk_frozen BK189.out 7
             have hfz51_8 := blk_frozen BK189.out 8
             have hfz51_9 := blk_frozen BK189.out 9
             have hfz51_10 := blk_frozen BK189.out 10
             have hfz51_11 := blk_frozen BK189.out 11
             go_wp2_with (first | ((with_reducible refine gate_callee (f := 54) rfl ?_); refine goesL_ (some 42) rfl rfl Try.func54 (by kernel_rfl) rfl #[.int .i64 a0_6, .int .i64 1, .int .i64 1000] rfl (by (try simp only [List.map_toArray, List.map_cons, List.map_nil]); first | done | rfl | (simp only [List.length_drop, List.length_take]; rfl)) ?_; (with_reducible refine (place_within.calls a0_6 1 1000 true _ A30.out).mono ?_); rintro e w' ⟨rfl, ⟨nd, rfl⟩⟩; refine ⟨_, rfl, ?_⟩) | (go_at_call 54; (with_reducible refine (place_within.calls a0_7 1 1000 true _ A32.out).mono ?_); rintro e w' ⟨rfl, ⟨nd, rfl⟩⟩) | (go_at_call 54; (with_reducible refine (place_within.calls a0_8 1 10 false _ A34.out).mono ?_); rintro e w' ⟨rfl, ⟨nd, rfl⟩⟩))
             go_ret
             exact ⟨by first | rfl | (simp [errW_none, errW_some] <;> rfl) | (simp [*, errW_none, errW_some] <;> rfl), by repeat (first | (with_reducible first | exact HB.out | apply below_alloc | apply pw_below_drewN | apply below_drew1 | refine below_set ?_ GE189.out) | exact HB.out)⟩
            ·replace c50 := Bool.eq_false_iff.mpr c50
             subst c50
             have H1 : (some false) = some r := by rw [if_neg (show ¬ (false = true) by decide)] at H; exact H
             clear H
             have H := H1
             clear H1
             obtain rfl := Option.some.inj H
             have hcz52_0 : wc.cell? ⟨gb189, 0, none⟩ = some (.slice A0_0 l0_0.length c0_0) := (blk_cell BK189.out 0).trans rfl
             have hcz52_1 : wc.cell? ⟨gb189, 1, none⟩ = some (.slice A0_1 l0_1.length c0_1) := (blk_cell BK189.out 1).trans rfl
             have hcz52_2 : wc.cell? ⟨gb189, 2, none⟩ = some (.int .i64 a0_2) := (blk_cell BK189.out 2).trans rfl
             have hcz52_3 : wc.cell? ⟨gb189, 3, none⟩ = some (.int .i64 a0_3) := (blk_cell BK189.out 3).trans rfl
             have hcz52_4 : wc.cell? ⟨gb189, 4, none⟩ = some (.int .i64 a0_4) := (blk_cell BK189.out 4).trans rfl
             have hcz52_5 : wc.cell? ⟨gb189, 5, none⟩ = some (.int .i64 a0_5) := (blk_cell BK189.out 5).trans rfl
             have hcz52_6 : wc.cell? ⟨gb189, 6, none⟩ = some (.int .i64 a0_6) := (blk_cell BK189.out 6).trans rfl
             have hcz52_7 : wc.cell? ⟨gb189, 7, none⟩ = some (.int .i64 a0_7) := (blk_cell BK189.out 7).trans rfl
             have hcz52_8 : wc.cell? ⟨gb189, 8, none⟩ = some (.int .i64 a0_8) := (blk_cell BK189.out 8).trans rfl
             have hcz52_9 : wc.cell? ⟨gb189, 9, none⟩ = some (.int .i64 a0_9) := (blk_cell BK189.out 9).trans rfl
             have hcz52_10 : wc.cell? ⟨gb189, 10, none⟩ = some (.int .i64 a0_10) := (blk_cell BK189.out 10).trans rfl
             have hcz52_11 : wc.cell? ⟨gb189, 11, none⟩ = some (.int .i64 a0_11) := (blk_cell BK189.out 11).trans rfl
             have hfz52_0 := blk_frozen BK189.out 0
             have hfz52_1 := blk_frozen BK189.out 1
             have hfz52_2 := blk_frozen BK189.out 2
             have hfz52_3 := blk_frozen BK189.out 3
             have hfz52_4 := blk_frozen BK189.out 4
             have hfz52_5 := blk_frozen BK189.out 5
             have hfz52_6 := blk_frozen BK189.out 6
             have hfz52_7 := blk_frozen BK189.out 7
             have hfz52_8 := blk_frozen BK189.out 8
             have hfz52_9 := blk_frozen BK189.out 9
             have hfz52_10 := blk_frozen BK189.out 10
             have hfz52_11 := blk_frozen BK189.out 11
             go_wp2_with (first | ((with_reducible refine gate_callee (f := 54) rfl ?_); refine goesL_ (some 42) rfl rfl Try.func54 (by kernel_rfl) rfl #[.int .i64 a0_6, .int .i64 1, .int .i64 1000] rfl (by (try simp only [List.map_toArray, List.map_cons, List.map_nil]); first | done | rfl | (simp only [List.length_drop, List.length_take]; rfl)) ?_; (with_reducible refine (place_within.calls a0_6 1 1000 true _ A30.out).mono ?_); rintro e w' ⟨rfl, ⟨nd, rfl⟩⟩; refine ⟨_, rfl, ?_⟩) | (go_at_call 54; (with_reducible refine (place_within.calls a0_7 1 1000 true _ A32.out).mono ?_); rintro e w' ⟨rfl, ⟨nd, rfl⟩⟩) | (go_at_call 54; (with_reducible refine (place_within.calls a0_8 1 10 false _ A34.out).mono ?_); rintro e w' ⟨rfl, ⟨nd, rfl⟩⟩))
             go_ret
             exact ⟨by first | rfl | (simp [errW_none, errW_some] <;> rfl) | (simp [*, errW_none, errW_some] <;> rfl), by repeat (first | (with_reducible first | exact HB.out | apply below_alloc | apply pw_below_drewN | apply below_drew1 | refine below_set ?_ GE189.out) | exact HB.out)⟩
           ·replace c49 := Bool.eq_false_iff.mpr c49
            subst c49
            have H1 : (some false) = some r := by rw [if_neg (show ¬ (false = true) by decide)] at H; exact H
            clear H
            have H := H1
            clear H1
            obtain rfl := Option.some.inj H
            have hcz53_0 : wc.cell? ⟨gb189, 0, none⟩ = some (.slice A0_0 l0_0.length c0_0) := (blk_cell BK189.out 0).trans rfl
            have hcz53_1 : wc.cell? ⟨gb189, 1, none⟩ = some (.slice A0_1 l0_1.length c0_1) := (blk_cell BK189.out 1).trans rfl
            have hcz53_2 : wc.cell? ⟨gb189, 2, none⟩ = some (.int .i64 a0_2) := (blk_cell BK189.out 2).trans rfl
            have hcz53_3 : wc.cell? ⟨gb189, 3, none⟩ = some (.int .i64 a0_3) := (blk_cell BK189.out 3).trans rfl
            have hcz53_4 : wc.cell? ⟨gb189, 4, none⟩ = some (.int .i64 a0_4) := (blk_cell BK189.out 4).trans rfl
            have hcz53_5 : wc.cell? ⟨gb189, 5, none⟩ = some (.int .i64 a0_5) := (blk_cell BK189.out 5).trans rfl
            have hcz53_6 : wc.cell? ⟨gb189, 6, none⟩ = some (.int .i64 a0_6) := (blk_cell BK189.out 6).trans rfl
            have hcz53_7 : wc.cell? ⟨gb189, 7, none⟩ = some (.int .i64 a0_7) := (blk_cell BK189.out 7).trans rfl
            have hcz53_8 : wc.cell? ⟨gb189, 8, none⟩ = some (.int .i64 a0_8) := (blk_cell BK189.out 8).trans rfl
            have hcz53_9 : wc.cell? ⟨gb189, 9, none⟩ = some (.int .i64 a0_9) := (blk_cell BK189.out 9).trans rfl
            have hcz53_10 : wc.cell? ⟨gb189, 10, none⟩ = some (.int .i64 a0_10) := (blk_cell BK189.out 10).trans rfl
            have hcz53_11 : wc.cell? ⟨gb189, 11, none⟩ = some (.int .i64 a0_11) := (blk_cell BK189.out 11).trans rfl
            have hfz53_0 := blk_frozen BK189.out 0
            have hfz53_1 := blk_frozen BK189.out 1
            have hfz53_2 := blk_frozen BK189.out 2
            have hfz53_3 := blk_frozen BK189.out 3
            have hfz53_4 := blk_frozen BK189.out 4
            have hfz53_5 := blk_frozen BK189.out 5
            have hfz53_6 := blk_frozen BK189.out 6
            have hfz53_7 := blk_frozen BK189.out 7
            have hfz53_8 := blk_frozen BK189.out 8
            have hfz53_9 := blk_frozen BK189.out 9
            have hfz53_10 := blk_frozen BK189.out 10
            have hfz53_11 := blk_frozen BK189.out 11
            go_wp2_with (first | ((with_reducible refine gate_callee (f := 54) rfl ?_); refine goesL_ (some 42) rfl rfl Try.func54 (by kernel_rfl) rfl #[.int .i64 a0_6, .int .i64 1, .int .i64 1000] rfl (by (try simp only [List.map_toArray, List.map_cons, List.map_nil]); first | done | rfl | (simp only [List.length_drop, List.length_take]; rfl)) ?_; (with_reducible refine (place_within.calls a0_6 1 1000 true _ A30.out).mono ?_); rintro e w' ⟨rfl, ⟨nd, rfl⟩⟩; refine ⟨_, rfl, ?_⟩) | (go_at_call 54; (with_reducible refine (place_within.calls a0_7 1 1000 true _ A32.out).mono ?_); rintro e w' ⟨rfl, ⟨nd, rfl⟩⟩) | (go_at_call 54; (with_reducible refine (place_within.calls a0_8 1 10 false _ A34.out).mono ?_); rintro e w' ⟨rfl, ⟨nd, rfl⟩⟩))
            go_ret
            exact ⟨by first | rfl | (simp [errW_none, errW_some] <;> rfl) | (simp [*, errW_none, errW_some] <;> rfl), by repeat (first | (with_reducible first | exact HB.out | apply below_alloc | apply pw_below_drewN | apply below_drew1 | refine below_set ?_ GE189.out) | exact HB.out)⟩
         ·replace c33 := Bool.eq_false_iff.mpr c33
          subst c33
          have H1 : (if x3_13 = true then (if x4_20 = true then (some false) else (some false)) else (some false)) = some r := by rw [if_neg (show ¬ (false = true) by decide)] at H; exact H
          clear H
          have H := H1
          clear H1
          by_cases c54 : x3_13 = true
          ·subst c54
           have H1 : (if x4_20 = true then (some false) else (some false)) = some r := by rw [if_pos rfl] at H; exact H
           clear H
           have H := H1
           clear H1
           by_cases c55 : x4_20 = true
           ·subst c55
            have H1 : (some false) = some r := by rw [if_pos rfl] at H; exact H
            clear H
            have H := H1
            clear H1
            obtain rfl := Option.some.inj H
            have hcz56_0 : wc.cell? ⟨gb189, 0, none⟩ = some (.slice A0_0 l0_0.length c0_0) := (blk_cell BK189.out 0).trans rfl
            have hcz56_1 : wc.cell? ⟨gb189, 1, none⟩ = some (.slice A0_1 l0_1.length c0_1) := (blk_cell BK189.out 1).trans rfl
            have hcz56_2 : wc.cell? ⟨gb189, 2, none⟩ = some (.int .i64 a0_2) := (blk_cell BK189.out 2).trans rfl
            have hcz56_3 : wc.cell? ⟨gb189, 3, none⟩ = some (.int .i64 a0_3) := (blk_cell BK189.out 3).trans rfl
            have hcz56_4 : wc.cell? ⟨gb189, 4, none⟩ = some (.int .i64 a0_4) := (blk_cell BK189.out 4).trans rfl
            have hcz56_5 : wc.cell? ⟨gb189, 5, none⟩ = some (.int .i64 a0_5) := (blk_cell BK189.out 5).trans rfl
            have hcz56_6 : wc.cell? ⟨gb189, 6, none⟩ = some (.int .i64 a0_6) := (blk_cell BK189.out 6).trans rfl
            have hcz56_7 : wc.cell? ⟨gb189, 7, none⟩ = some (.int .i64 a0_7) := (blk_cell BK189.out 7).trans rfl
            have hcz56_8 : wc.cell? ⟨gb189, 8, none⟩ = some (.int .i64 a0_8) := (blk_cell BK189.out 8).trans rfl
            have hcz56_9 : wc.cell? ⟨gb189, 9, none⟩ = some (.int .i64 a0_9) := (blk_cell BK189.out 9).trans rfl
            have hcz56_10 : wc.cell? ⟨gb189, 10, none⟩ = some (.int .i64 a0_10) := (blk_cell BK189.out 10).trans rfl
            have hcz56_11 : wc.cell? ⟨gb189, 11, none⟩ = some (.int .i64 a0_11) := (blk_cell BK189.out 11).trans rfl
            have hfz56_0 := blk_frozen BK189.out 0
            have hfz56_1 := blk_frozen BK189.out 1
            have hfz56_2 := blk_frozen BK189.out 2
            have hfz56_3 := blk_frozen BK189.out 3
            have hfz56_4 := blk_frozen BK189.out 4
            have hfz56_5 := blk_frozen BK189.out 5
            have hfz56_6 := blk_frozen BK189.out 6
            have hfz56_7 := blk_frozen BK189.out 7
            have hfz56_8 := blk_frozen BK189.out 8
            have hfz56_9 := blk_frozen BK189.out 9
            have hfz56_10 := blk_frozen BK189.out 10
            have hfz56_11 := blk_frozen BK189.out 11
            go_wp2_with (first | ((with_reducible refine gate_callee (f := 54) rfl ?_); refine goesL_ (some 42) rfl rfl Try.func54 (by kernel_rfl) rfl #[.int .i64 a0_6, .int .i64 1, .int .i64 1000] rfl (by (try simp only [List.map_toArray, List.map_cons, List.map_nil]); first | done | rfl | (simp only [List.length_drop, List.length_take]; rfl)) ?_; (with_reducible refine (place_within.calls a0_6 1 1000 true _ A30.out).mono ?_); rintro e w' ⟨rfl, ⟨nd, rfl⟩⟩; refine ⟨_, rfl, ?_⟩) | (go_at_call 54; (with_reducible refine (place_within.calls a0_7 1 1000 false _ A32.out).mono ?_); rintro e w' ⟨rfl, ⟨nd, rfl⟩⟩))
            go_ret
            exact ⟨by first | rfl | (simp [errW_none, errW_some] <;> rfl) | (simp [*, errW_none, errW_some] <;> rfl), by repeat (first | (with_reducible first | exact HB.out | apply below_alloc | apply pw_below_drewN | apply below_drew1 | refine below_set ?_ GE189.out) | exact HB.out)⟩
           ·replace c55 := Bool.eq_false_iff.mpr c55
            subst c55
            have H1 : (some false) = some r := by rw [if_neg (show ¬ (false = true) by decide)] at H; exact H
            clear H
            have H := H1
            clear H1
            obtain rfl := Option.some.inj H
            have hcz57_0 : wc.cell? ⟨gb189, 0, none⟩ = some (.slice A0_0 l0_0.length c0_0) := (blk_cell BK189.out 0).trans rfl
            have hcz57_1 : wc.cell? ⟨gb189, 1, none⟩ = some (.slice A0_1 l0_1.length c0_1) := (blk_cell BK189.out 1).trans rfl
            have hcz57_2 : wc.cell? ⟨gb189, 2, none⟩ = some (.int .i64 a0_2) := (blk_cell BK189.out 2).trans rfl
            have hcz57_3 : wc.cell? ⟨gb189, 3, none⟩ = some (.int .i64 a0_3) := (blk_cell BK189.out 3).trans rfl
            have hcz57_4 : wc.cell? ⟨gb189, 4, none⟩ = some (.int .i64 a0_4) := (blk_cell BK189.out 4).trans rfl
            have hcz57_5 : wc.cell? ⟨gb189, 5, none⟩ = some (.int .i64 a0_5) := (blk_cell BK189.out 5).trans rfl
            have hcz57_6 : wc.cell? ⟨gb189, 6, none⟩ = some (.int .i64 a0_6) := (blk_cell BK189.out 6).trans rfl
            have hcz57_7 : wc.cell? ⟨gb189, 7, none⟩ = some (.int .i64 a0_7) := (blk_cell BK189.out 7).trans rfl
            have hcz57_8 : wc.cell? ⟨gb189, 8, none⟩ = some (.int .i64 a0_8) := (blk_cell BK189.out 8).trans rfl
            have hcz57_9 : wc.cell? ⟨gb189, 9, none⟩ = some (.int .i64 a0_9) := (blk_cell BK189.out 9).trans rfl
            have hcz57_10 : wc.cell? ⟨gb189, 10, none⟩ = some (.int .i64 a0_10) := (blk_cell BK189.out 10).trans rfl
            have hcz57_11 : wc.cell? ⟨gb189, 11, none⟩ = some (.int .i64 a0_11) := (blk_cell BK189.out 11).trans rfl
            have hfz57_0 := blk_frozen BK189.out 0
            have hfz57_1 := blk_frozen BK189.out 1
            have hfz57_2 := blk_frozen BK189.out 2
            have hfz57_3 := blk_frozen BK189.out 3
            have hfz57_4 := blk_frozen BK189.out 4
            have hfz57_5 := blk_frozen BK189.out 5
            have hfz57_6 := blk_frozen BK189.out 6
            have hfz57_7 := blk_frozen BK189.out 7
            have hfz57_8 := blk_frozen BK189.out 8
            have hfz57_9 := blk_frozen BK189.out 9
            have hfz57_10 := blk_frozen BK189.out 10
            have hfz57_11 := blk_frozen BK189.out 11
            go_wp2_with (first | ((with_reducible refine gate_callee (f := 54) rfl ?_); refine goesL_ (some 42) rfl rfl Try.func54 (by kernel_rfl) rfl #[.int .i64 a0_6, .int .i64 1, .int .i64 1000] rfl (by (try simp only [List.map_toArray, List.map_cons, List.map_nil]); first | done | rfl | (simp only [List.length_drop, List.length_take]; rfl)) ?_; (with_reducible refine (place_within.calls a0_6 1 1000 true _ A30.out).mono ?_); rintro e w' ⟨rfl, ⟨nd, rfl⟩⟩; refine ⟨_, rfl, ?_⟩) | (go_at_call 54; (with_reducible refine (place_within.calls a0_7 1 1000 false _ A32.out).mono ?_); rintro e w' ⟨rfl, ⟨nd, rfl⟩⟩))
            go_ret
            exact ⟨by first | rfl | (simp [errW_none, errW_some] <;> rfl) | (simp [*, errW_none, errW_some] <;> rfl), by repeat (first | (with_reducible first | exact HB.out | apply below_alloc | apply pw_below_drewN | apply below_drew1 | refine below_set ?_ GE189.out) | exact HB.out)⟩
          ·replace c54 := Bool.eq_false_iff.mpr c54
           subst c54
           have H1 : (some false) = some r := by rw [if_neg (show ¬ (false = true) by decide)] at H; exact H
           clear H
           have H := H1
           clear H1
           obtain rfl := Option.some.inj H
           have hcz58_0 : wc.cell? ⟨gb189, 0, none⟩ = some (.slice A0_0 l0_0.length c0_0) := (blk_cell BK189.out 0).trans rfl
           have hcz58_1 : wc.cell? ⟨gb189, 1, none⟩ = some (.slice A0_1 l0_1.length c0_1) := (blk_cell BK189.out 1).trans rfl
           have hcz58_2 : wc.cell? ⟨gb189, 2, none⟩ = some (.int .i64 a0_2) := (blk_cell BK189.out 2).trans rfl
           have hcz58_3 : wc.cell? ⟨gb189, 3, none⟩ = some (.int .i64 a0_3) := (blk_cell BK189.out 3).trans rfl
           have hcz58_4 : wc.cell? ⟨gb189, 4, none⟩ = some (.int .i64 a0_4) := (blk_cell BK189.out 4).trans rfl
           have hcz58_5 : wc.cell? ⟨gb189, 5, none⟩ = some (.int .i64 a0_5) := (blk_cell BK189.out 5).trans rfl
           have hcz58_6 : wc.cell? ⟨gb189, 6, none⟩ = some (.int .i64 a0_6) := (blk_cell BK189.out 6).trans rfl
           have hcz58_7 : wc.cell? ⟨gb189, 7, none⟩ = some (.int .i64 a0_7) := (blk_cell BK189.out 7).trans rfl
           have hcz58_8 : wc.cell? ⟨gb189, 8, none⟩ = some (.int .i64 a0_8) := (blk_cell BK189.out 8).trans rfl
           have hcz58_9 : wc.cell? ⟨gb189, 9, none⟩ = some (.int .i64 a0_9) := (blk_cell BK189.out 9).trans rfl
           have hcz58_10 : wc.cell? ⟨gb189, 10, none⟩ = some (.int .i64 a0_10) := (blk_cell BK189.out 10).trans rfl
           have hcz58_11 : wc.cell? ⟨gb189, 11, none⟩ = some (.int .i64 a0_11) := (blk_cell BK189.out 11).trans rfl
           have hfz58_0 := blk_frozen BK189.out 0
           have hfz58_1 := blk_frozen BK189.out 1
           have hfz58_2 := blk_frozen BK189.out 2
           have hfz58_3 := blk_frozen BK189.out 3
           have hfz58_4 := blk_frozen BK189.out 4
           have hfz58_5 := blk_frozen BK189.out 5
           have hfz58_6 := blk_frozen BK189.out 6
           have hfz58_7 := blk_frozen BK189.out 7
           have hfz58_8 := blk_frozen BK189.out 8
           have hfz58_9 := blk_frozen BK189.out 9
           have hfz58_10 := blk_frozen BK189.out 10
           have hfz58_11 := blk_frozen BK189.out 11
           go_wp2_with (first | ((with_reducible refine gate_callee (f := 54) rfl ?_); refine goesL_ (some 42) rfl rfl Try.func54 (by kernel_rfl) rfl #[.int .i64 a0_6, .int .i64 1, .int .i64 1000] rfl (by (try simp only [List.map_toArray, List.map_cons, List.map_nil]); first | done | rfl | (simp only [List.length_drop, List.length_take]; rfl)) ?_; (with_reducible refine (place_within.calls a0_6 1 1000 true _ A30.out).mono ?_); rintro e w' ⟨rfl, ⟨nd, rfl⟩⟩; refine ⟨_, rfl, ?_⟩) | (go_at_call 54; (with_reducible refine (place_within.calls a0_7 1 1000 false _ A32.out).mono ?_); rintro e w' ⟨rfl, ⟨nd, rfl⟩⟩))
           go_ret
           exact ⟨by first | rfl | (simp [errW_none, errW_some] <;> rfl) | (simp [*, errW_none, errW_some] <;> rfl), by repeat (first | (with_reducible first | exact HB.out | apply below_alloc | apply pw_below_drewN | apply below_drew1 | refine below_set ?_ GE189.out) | exact HB.out)⟩
        ·replace c31 := Bool.eq_false_iff.mpr c31
         subst c31
         have H1 : (if x3_13 = true then (if x4_20 = true then (some false) else (some false)) else (some false)) = some r := by rw [if_neg (show ¬ (false = true) by decide)] at H; exact H
         clear H
         have H := H1
         clear H1
         by_cases c59 : x3_13 = true
         ·subst c59
          have H1 : (if x4_20 = true then (some false) else (some false)) = some r := by rw [if_pos rfl] at H; exact H
          clear H
          have H := H1
          clear H1
          by_cases c60 : x4_20 = true
          ·subst c60
           have H1 : (some false) = some r := by rw [if_pos rfl] at H; exact H
           clear H
           have H := H1
           clear H1
           obtain rfl := Option.some.inj H
           have hcz61_0 : wc.cell? ⟨gb189, 0, none⟩ = some (.slice A0_0 l0_0.length c0_0) := (blk_cell BK189.out 0).trans rfl
           have hcz61_1 : wc.cell? ⟨gb189, 1, none⟩ = some (.slice A0_1 l0_1.length c0_1) := (blk_cell BK189.out 1).trans rfl
           have hcz61_2 : wc.cell? ⟨gb189, 2, none⟩ = some (.int .i64 a0_2) := (blk_cell BK189.out 2).trans rfl
           have hcz61_3 : wc.cell? ⟨gb189, 3, none⟩ = some (.int .i64 a0_3) := (blk_cell BK189.out 3).trans rfl
           have hcz61_4 : wc.cell? ⟨gb189, 4, none⟩ = some (.int .i64 a0_4) := (blk_cell BK189.out 4).trans rfl
           have hcz61_5 : wc.cell? ⟨gb189, 5, none⟩ = some (.int .i64 a0_5) := (blk_cell BK189.out 5).trans rfl
           have hcz61_6 : wc.cell? ⟨gb189, 6, none⟩ = some (.int .i64 a0_6) := (blk_cell BK189.out 6).trans rfl
           have hcz61_7 : wc.cell? ⟨gb189, 7, none⟩ = some (.int .i64 a0_7) := (blk_cell BK189.out 7).trans rfl
           have hcz61_8 : wc.cell? ⟨gb189, 8, none⟩ = some (.int .i64 a0_8) := (blk_cell BK189.out 8).trans rfl
           have hcz61_9 : wc.cell? ⟨gb189, 9, none⟩ = some (.int .i64 a0_9) := (blk_cell BK189.out 9).trans rfl
           have hcz61_10 : wc.cell? ⟨gb189, 10, none⟩ = some (.int .i64 a0_10) := (blk_cell BK189.out 10).trans rfl
           have hcz61_11 : wc.cell? ⟨gb189, 11, none⟩ = some (.int .i64 a0_11) := (blk_cell BK189.out 11).trans rfl
           have hfz61_0 := blk_frozen BK189.out 0
           have hfz61_1 := blk_frozen BK189.out 1
           have hfz61_2 := blk_frozen BK189.out 2
           have hfz61_3 := blk_frozen BK189.out 3
           have hfz61_4 := blk_frozen BK189.out 4
           have hfz61_5 := blk_frozen BK189.out 5
           have hfz61_6 := blk_frozen BK189.out 6
           have hfz61_7 := blk_frozen BK189.out 7
           have hfz61_8 := blk_frozen BK189.out 8
           have hfz61_9 := blk_frozen BK189.out 9
           have hfz61_10 := blk_frozen BK189.out 10
           have hfz61_11 := blk_frozen BK189.out 11
           go_wp2_with (first | ((with_reducible refine gate_callee (f := 54) rfl ?_); refine goesL_ (some 42) rfl rfl Try.func54 (by kernel_rfl) rfl #[.int .i64 a0_6, .int .i64 1, .int .i64 1000] rfl (by (try simp only [List.map_toArray, List.map_cons, List.map_nil]); first | done | rfl | (simp only [List.length_drop, List.length_take]; rfl)) ?_; (with_reducible refine (place_within.calls a0_6 1 1000 false _ A30.out).mono ?_); rintro e w' ⟨rfl, ⟨nd, rfl⟩⟩; refine ⟨_, rfl, ?_⟩))
           go_ret
           exact ⟨by first | rfl | (simp [errW_none, errW_some] <;> rfl) | (simp [*, errW_none, errW_some] <;> rfl), by repeat (first | (with_reducible first | exact HB.out | apply below_alloc | apply pw_below_drewN | apply below_drew1 | refine below_set ?_ GE189.out) | exact HB.out)⟩
          ·replace c60 := Bool.eq_false_iff.mpr c60
           subst c60
           have H1 : (some false) = some r := by rw [if_neg (show ¬ (false = true) by decide)] at H; exact H
           clear H
           have H := H1
           clear H1
           obtain rfl := Option.some.inj H
           have hcz62_0 : wc.cell? ⟨gb189, 0, none⟩ = some (.slice A0_0 l0_0.length c0_0) := (blk_cell BK189.out 0).trans rfl
           have hcz62_1 : wc.cell? ⟨gb189, 1, none⟩ = some (.slice A0_1 l0_1.length c0_1) := (blk_cell BK189.out 1).trans rfl
           have hcz62_2 : wc.cell? ⟨gb189, 2, none⟩ = some (.int .i64 a0_2) := (blk_cell BK189.out 2).trans rfl
           have hcz62_3 : wc.cell? ⟨gb189, 3, none⟩ = some (.int .i64 a0_3) := (blk_cell BK189.out 3).trans rfl
           have hcz62_4 : wc.cell? ⟨gb189, 4, none⟩ = some (.int .i64 a0_4) := (blk_cell BK189.out 4).trans rfl
           have hcz62_5 : wc.cell? ⟨gb189, 5, none⟩ = some (.int .i64 a0_5) := (blk_cell BK189.out 5).trans rfl
           have hcz62_6 : wc.cell? ⟨gb189, 6, none⟩ = some (.int .i64 a0_6) := (blk_cell BK189.out 6).trans rfl
           have hcz62_7 : wc.cell? ⟨gb189, 7, none⟩ = some (.int .i64 a0_7) := (blk_cell BK189.out 7).trans rfl
           have hcz62_8 : wc.cell? ⟨gb189, 8, none⟩ = some (.int .i64 a0_8) := (blk_cell BK189.out 8).trans rfl
           have hcz62_9 : wc.cell? ⟨gb189, 9, none⟩ = some (.int .i64 a0_9) := (blk_cell BK189.out 9).trans rfl
           have hcz62_10 : wc.cell? ⟨gb189, 10, none⟩ = some (.int .i64 a0_10) := (blk_cell BK189.out 10).trans rfl
           have hcz62_11 : wc.cell? ⟨gb189, 11, none⟩ = some (.int .i64 a0_11) := (blk_cell BK189.out 11).trans rfl
           have hfz62_0 := blk_frozen BK189.out 0
           have hfz62_1 := blk_frozen BK189.out 1
           have hfz62_2 := blk_frozen BK189.out 2
           have hfz62_3 := blk_frozen BK189.out 3
           have hfz62_4 := blk_frozen BK189.out 4
           have hfz62_5 := blk_frozen BK189.out 5
           have hfz62_6 := blk_frozen BK189.out 6
           have hfz62_7 := blk_frozen BK189.out 7
           have hfz62_8 := blk_frozen BK189.out 8
           have hfz62_9 := blk_frozen BK189.out 9
           have hfz62_10 := blk_frozen BK189.out 10
           have hfz62_11 := blk_frozen BK189.out 11
           go_wp2_with (first | ((with_reducible refine gate_callee (f := 54) rfl ?_); refine goesL_ (some 42) rfl rfl Try.func54 (by kernel_rfl) rfl #[.int .i64 a0_6, .int .i64 1, .int .i64 1000] rfl (by (try simp only [List.map_toArray, List.map_cons, List.map_nil]); first | done | rfl | (simp only [List.length_drop, List.length_take]; rfl)) ?_; (with_reducible refine (place_within.calls a0_6 1 1000 false _ A30.out).mono ?_); rintro e w' ⟨rfl, ⟨nd, rfl⟩⟩; refine ⟨_, rfl, ?_⟩))
           go_ret
           exact ⟨by first | rfl | (simp [errW_none, errW_some] <;> rfl) | (simp [*, errW_none, errW_some] <;> rfl), by repeat (first | (with_reducible first | exact HB.out | apply below_alloc | apply pw_below_drewN | apply below_drew1 | refine below_set ?_ GE189.out) | exact HB.out)⟩
         ·replace c59 := Bool.eq_false_iff.mpr c59
          subst c59
          have H1 : (some false) = some r := by rw [if_neg (show ¬ (false = true) by decide)] at H; exact H
          clear H
          have H := H1
          clear H1
          obtain rfl := Option.some.inj H
          have hcz63_0 : wc.cell? ⟨gb189, 0, none⟩ = some (.slice A0_0 l0_0.length c0_0) := (blk_cell BK189.out 0).trans rfl
          have hcz63_1 : wc.cell? ⟨gb189, 1, none⟩ = some (.slice A0_1 l0_1.length c0_1) := (blk_cell BK189.out 1).trans rfl
          have hcz63_2 : wc.cell? ⟨gb189, 2, none⟩ = some (.int .i64 a0_2) := (blk_cell BK189.out 2).trans rfl
          have hcz63_3 : wc.cell? ⟨gb189, 3, none⟩ = some (.int .i64 a0_3) := (blk_cell BK189.out 3).trans rfl
          have hcz63_4 : wc.cell? ⟨gb189, 4, none⟩ = some (.int .i64 a0_4) := (blk_cell BK189.out 4).trans rfl
          have hcz63_5 : wc.cell? ⟨gb189, 5, none⟩ = some (.int .i64 a0_5) := (blk_cell BK189.out 5).trans rfl
          have hcz63_6 : wc.cell? ⟨gb189, 6, none⟩ = some (.int .i64 a0_6) := (blk_cell BK189.out 6).trans rfl
          have hcz63_7 : wc.cell? ⟨gb189, 7, none⟩ = some (.int .i64 a0_7) := (blk_cell BK189.out 7).trans rfl
          have hcz63_8 : wc.cell? ⟨gb189, 8, none⟩ = some (.int .i64 a0_8) := (blk_cell BK189.out 8).trans rfl
          have hcz63_9 : wc.cell? ⟨gb189, 9, none⟩ = some (.int .i64 a0_9) := (blk_cell BK189.out 9).trans rfl
          have hcz63_10 : wc.cell? ⟨gb189, 10, none⟩ = some (.int .i64 a0_10) := (blk_cell BK189.out 10).trans rfl
          have hcz63_11 : wc.cell? ⟨gb189, 11, none⟩ = some (.int .i64 a0_11) := (blk_cell BK189.out 11).trans rfl
          have hfz63_0 := blk_frozen BK189.out 0
          have hfz63_1 := blk_frozen BK189.out 1
          have hfz63_2 := blk_frozen BK189.out 2
          have hfz63_3 := blk_frozen BK189.out 3
          have hfz63_4 := blk_frozen BK189.out 4
          have hfz63_5 := blk_frozen BK189.out 5
          have hfz63_6 := blk_frozen BK189.out 6
          have hfz63_7 := blk_frozen BK189.out 7
          have hfz63_8 := blk_frozen BK189.out 8
          have hfz63_9 := blk_frozen BK189.out 9
          have hfz63_10 := blk_frozen BK189.out 10
          have hfz63_11 := blk_frozen BK189.out 11
          go_wp2_with (first | ((with_reducible refine gate_callee (f := 54) rfl ?_); refine goesL_ (some 42) rfl rfl Try.func54 (by kernel_rfl) rfl #[.int .i64 a0_6, .int .i64 1, .int .i64 1000] rfl (by (try simp only [List.map_toArray, List.map_cons, List.map_nil]); first | done | rfl | (simp only [List.length_drop, List.length_take]; rfl)) ?_; (with_reducible refine (place_within.calls a0_6 1 1000 false _ A30.out).mono ?_); rintro e w' ⟨rfl, ⟨nd, rfl⟩⟩; refine ⟨_, rfl, ?_⟩))
          go_ret
          exact ⟨by first | rfl | (simp [errW_none, errW_some] <;> rfl) | (simp [*, errW_none, errW_some] <;> rfl), by repeat (first | (with_reducible first | exact HB.out | apply below_alloc | apply pw_below_drewN | apply below_drew1 | refine below_set ?_ GE189.out) | exact HB.out)⟩

end Go.Proofs.Ytiobphijbpdolaa.P
