/- The contract of fair.window: of so many records, with the good ones and the map of what was sent to them. -/
import Derived.Test.YtiobphijbpdolaaHFair
import Derived.Test.YtiobphijbpdolaaPut
import Derived.Test.YtiobphijbpdolaaQP
namespace Go.Proofs.Ytiobphijbpdolaa.P
open Go.RowKit Go.Proofs.YtiobphijbpdolaaW.PrintWords Go.Proofs.YtiobphijbpdolaaW.PrintLast Go.Proofs.YtiobphijbpdolaaW.PrintMore Go.Maps
set_option linter.unusedVariables false
set_option linter.unusedSimpArgs false

/-- What a record leaves: none, if it is a crash of a good one or a loss; else who has been woken and whether the clock has ticked. -/
def winStep (W : Int) (good ids : List Int) (y : S71) (woke : List Bool) (tick : Bool) : Option (List Bool × Bool) :=
  if y.f0.f0 = 4 ∧ 0 ≤ y.f0.f1 ∧ y.f0.f1 ≤ W then (if lostAt ids y.f5 then none else some (woke.set y.f0.f1.toNat true, tick))
  else if y.f0.f0 = 3 then (if lostAt ids y.f5 then none else some (woke, true))
  else if y.f0.f0 = 9 ∧ (good.any fun z => decide (y.f0.f1 = z)) = true then none
  else (if lostAt ids y.f5 then none else some (woke, tick))
def winGo (W : Int) (good ids : List Int) : List S71 → List Bool → Bool → Bool
  | [], woke, tick => tick && !anyF woke
  | y :: l, woke, tick => match winStep W good ids y woke tick with
    | none => false
    | some (woke, tick) => winGo W good ids l woke tick
theorem infob : (Try.prog.info? 4).map (fun i => (i.zero, i.size, i.bytes)) = some (some (.bool false), 1, 1) := by kernel_rfl

set_option maxHeartbeats 8000000 in
set_option maxRecDepth 100000 in
theorem window_calls (B0 : Option Addr) (d0 : Nat) (B1 : Option Addr) (d1 : Nat) (c : Cfg) (A0 : Option Addr) (c0 : Nat) (l : List S71) (A1 : Option Addr) (c1 : Nat) (good : List Int) (b n : Nat) (ids : List Int) (w : World)
    (hr0 : Kd.C k71 w A0 l.length l) (hc0 : l.length ≤ c0) (hr1 : Kd.C (Kd.int .i64) w A1 good.length good) (hc1 : good.length ≤ c1) (hm : MapIs w b n ids) (h0 : RecsIn l) (h1 : good.length ≤ 100) (hz : ∀ r ∈ l, ∀ x ∈ r.f5, (Lit.int .i64 x).wf = true) (hW0 : 0 ≤ c.workers) (hW1 : c.workers ≤ 1000) :
    Calls Try.prog 63 #[.agg #[.slice B0 c.ws.length d0, .slice B1 c.cs.length d1, .int .i64 c.workers, .int .i64 c.copies, .int .i64 c.slots, .int .i64 c.batch, .int .i64 c.lease, .int .i64 c.hedge, .int .i64 c.first, .int .i64 c.cap, .int .i64 c.jitter, .int .i64 c.net], .slice A0 l.length c0, .slice A1 good.length c1, .map (some b)] w fun e w' => e = .returned (.bool (winGo c.workers good ids l (List.replicate (c.workers + 1).toNat false) false)) ∧ Below w.heap.size w w' := by
  have hu71 := Try.underlying71
  have hu68 := Try.underlying68
  have hu43 := Try.underlying43
  have HR0 := Aside0.mk hr0
  have HR1 := Aside0.mk hr1
  have HM := Aside0.mk hm
  have HZ := Aside0.mk hz
  have HB := Aside0.mk (Below.refl w.heap.size w)
  clear hr0 hr1 hm hz
  obtain ⟨n1, hn1⟩ : ∃ n1 : Nat, n1 = (c.workers + 1).toNat := ⟨_, rfl⟩
  have HN1 := Aside0.mk hn1
  have hn1' : (List.replicate (c.workers + 1).toNat false).length = n1 := by rw [hn1]; simp
  have hwk : IntKind.i64.wrap (c.workers + 1) = c.workers + 1 := IntWalk.i64_in _ (by omega)
  have hwkb : wrap64 (c.workers + 1) = c.workers + 1 := by rw [← i64_w]; exact hwk
  clear hn1
  obtain ⟨FIN, hFIN⟩ : ∃ FIN, FIN = winGo c.workers good ids l (List.replicate (c.workers + 1).toNat false) false := ⟨_, rfl⟩
  rw [← hFIN]
  have HFIN := Aside0.mk hFIN
  clear hFIN
  go_enter Try.func63, Try.ntmps63
  go_wp2_with (first | ((with_reducible refine gate_dst (N := 4) rfl ?_); (try (refine gate_guard (by rfl) ?_; dsimp only)); refine box_event ?hg (N := 4) ?hd (cs := #[.slice B0 c.ws.length d0, .slice B1 c.cs.length d1, .int .i64 c.workers, .int .i64 c.copies, .int .i64 c.slots, .int .i64 c.batch, .int .i64 c.lease, .int .i64 c.hedge, .int .i64 c.first, .int .i64 c.cap, .int .i64 c.jitter, .int .i64 c.net]) (t := 43) ?hr ?_; (case hd => rfl); (case hg => rfl); (case hr => first | (go_simp; done) | (go_simp; rfl)); intro gc hg w2 hbox hb; have n0_ := Aside0.mk (below_step (by repeat (first | (with_reducible exact HB.out) | apply below_alloc | apply pw_below_drewN | apply below_drew | (refine below_set ?_ (by simp)))) hb); clear HB hb; have HB := n0_; clear n0_; have BC := Aside0.mk hbox; clear hbox hg; have cc2 := blk_cell BC.out 2) | ((with_reducible refine gate_dst (N := 7) rfl ?_); (try (refine gate_guard (by rfl) ?_; dsimp only)); refine box_event ?hg (N := 7) ?hd (cs := #[.map (some b)]) (t := 90) ?hr ?_; (case hd => rfl); (case hg => rfl); (case hr => first | (go_simp; done) | (go_simp; rfl)); intro gm hg w3 hbox hb; have BC' := Aside0.mk (blk_below BC.out hb); have n0_ := Aside0.mk (below_step (by repeat (first | (with_reducible exact HB.out) | apply below_alloc | apply pw_below_drewN | apply below_drew | (refine below_set ?_ (by simp)))) hb); clear HB hb; have HB := n0_; clear n0_; have BM := Aside0.mk hbox; clear hbox hg BC cc2; have BC := BC'; clear BC'; have cc2 := blk_cell BC.out 2; have HB3w := HB; have HB3 := Aside0.mk (Below.refl w3.heap.size w3)) | ((with_reducible refine gate_dst (N := 17) rfl ?_); refine Kd.R_make Kd.bool (w0 := w3) w3.heap.size 4 rfl (N := 17) rfl 96 _ _ rfl (c.workers + 1) rfl rfl Try.underlying96 (.bool false) 1 infob rfl (by decide) (by omega) false (ok := fun _ => True) (okp := fun _ => True) rfl (fun _ hk => hk) trivial (by omega) (by omega) (Below.refl _ _) (Nat.le_refl _) ?_; intro v1 w4 ho hb hg hat; have HO := Aside0.mk ho; have hlen3 := below_size HB3.out; have n0_ := Aside0.mk (below_step (by repeat (first | (with_reducible exact HB.out) | apply below_alloc | apply pw_below_drewN | apply below_drew | (refine below_set ?_ (by simp)))) hb); have n1_ := Aside0.mk (below_step (by repeat (first | (with_reducible exact HB3.out) | apply below_alloc | apply pw_below_drewN | apply below_drew | (refine below_set ?_ (by simp)))) hb); clear HB HB3 hb; have HB := n0_; have HB3 := n1_; clear n0_ n1_; obtain ⟨g, cap, e1, hg0, hgl, _⟩ := Kd.R_form HO.out (by simp; omega); rw [hn1'] at e1; subst e1; clear ho hg hat))
  have hgw : w.heap.size ≤ g := Nat.le_trans (below_size HB3w.out) hg0
  clear cc2
  go_loopw [10, 20] (fun v10 v20 w' => ∃ (i : Int) (tick : Bool) (woke : List Bool), Aside0 (0 ≤ i) ∧ Aside0 (i ≤ (l.length : Int)) ∧ v20 = .int .i64 i ∧ v10 = .bool tick ∧ Aside0 (woke.length = n1) ∧ Aside0 (FIN = winGo c.workers good ids (l.drop i.toNat) woke tick) ∧ Aside0 (Kd.R Kd.bool 4 w' w3.heap.size (fun _ => True) (.slice (some ⟨g, 0, none⟩) n1 cap) woke) ∧ Aside0 (Below w.heap.size w w') ∧ Aside0 (Below w3.heap.size w3 w')) (fun _ v20 _ => l.length - (intOf v20).toNat)
  case atStart => exact ⟨0, false, _, ⟨Int.le_refl _⟩, ⟨by omega⟩, rfl, rfl, ⟨hn1'⟩, ⟨by rw [HFIN.out]; rfl⟩, HO, HB, HB3⟩
  case round =>
    clear HO HB HB3 HFIN
    obtain ⟨i, tick, woke, HI0, HI1, rfl, rfl, HWL, HF, HO, HB, HB3⟩ := hrel
    have HB9 := Aside0.mk (Below.refl wr.heap.size wr)
    have HBr := HB
    have HB3r := HB3
    have hglr : g < wr.heap.size := by obtain ⟨_, _, e_, _, h_, _⟩ := Kd.R_form HO.out (by rw [HWL.out, HN1.out]; omega); cases e_; exact h_
    have h1000 := h0.1
    by_cases hil : i < (l.length : Int)
    · have d1 : decide (i < (l.length : Int)) = true := decide_eq_true hil
      have hi0 := HI0.out
      have p1 : (0 ≤ i) = True := eq_true hi0
      have p2 : (i < (l.length : Int)) = True := eq_true hil
      have w0 : IntKind.i64.wrap (i + 1) = i + 1 := IntWalk.i64_in _ (by omega)
      have w0b : wrap64 (i + 1) = i + 1 := by rw [← i64_w]; exact w0
      obtain ⟨ad, A9, c9, A11, c11, e1, y0, y1, y2, y3, y4, y5, y6, y7, y8, y9, y10, y11, hc9, hr9, hc11, hr11⟩ := at_T71 HR0.out i hi0 hil
      cases e1
      replace y0 := (HB.out.cell (World.block_lt_of_cell? w _ y0)).trans y0
      replace y1 := (HB.out.cell (World.block_lt_of_cell? w _ y1)).trans y1
      replace y2 := (HB.out.cell (World.block_lt_of_cell? w _ y2)).trans y2
      replace y3 := (HB.out.cell (World.block_lt_of_cell? w _ y3)).trans y3
      replace y4 := (HB.out.cell (World.block_lt_of_cell? w _ y4)).trans y4
      replace y5 := (HB.out.cell (World.block_lt_of_cell? w _ y5)).trans y5
      replace y6 := (HB.out.cell (World.block_lt_of_cell? w _ y6)).trans y6
      replace y7 := (HB.out.cell (World.block_lt_of_cell? w _ y7)).trans y7
      replace y8 := (HB.out.cell (World.block_lt_of_cell? w _ y8)).trans y8
      replace y9 := (HB.out.cell (World.block_lt_of_cell? w _ y9)).trans y9
      replace y10 := (HB.out.cell (World.block_lt_of_cell? w _ y10)).trans y10
      replace y11 := (HB.out.cell (World.block_lt_of_cell? w _ y11)).trans y11
      have hmem : rd_T71 l i = l[i.toNat]'(by omega) := by simp [rd_T71, show i.toNat < l.length by omega]
      have hin : rd_T71 l i ∈ l := by rw [hmem]; exact List.getElem_mem _
      have hF2 := HF.out
      rw [List.drop_eq_getElem_cons (show i.toNat < l.length by omega), ← hmem, winGo, show i.toNat + 1 = (i + 1).toNat by omega] at hF2
      clear HF
      have HF := Aside0.mk hF2
      have hl11 := (h0.2 _ hin).2
      have HZ11 := Aside0.mk (fun x hx => HZ.out _ hin x hx)
      have HR11 := Aside0.mk hr11
      clear hmem hin hF2 hr9 hr11 hc9
      generalize rd_T71 l i = y at *
      have hl11 : y.f5.length ≤ 1000000 := by omega
      go_upto_region 6 with (((with_reducible refine gate_dst (N := 12) rfl ?_); (try (refine gate_guard (by rfl) ?_; dsimp only)); refine box_event ?hg (N := 12) ?hd (cs := #[.int .i64 0, .int .i64 0, .int .i64 0, .int .i64 0, .string (⟨#[]⟩ : ByteArray), .int .i64 0, .int .i64 0, .int .i64 0, .int .i64 0, .slice none 0 0, .int .i64 0, .slice none 0 0]) (t := 71) ?hr ?_; (case hd => rfl); (case hg => rfl); (case hr => first | (go_simp; done) | (go_simp; rfl)); intro gr hg w7 hbox hb; have HGR := Aside0.mk (show wr.heap.size ≤ gr from by rw [hg]; exact below_size (by repeat (first | (with_reducible exact HB9.out) | apply below_alloc | apply pw_below_drewN | apply below_drew | (refine below_set ?_ (by simp)) | (refine below_set ?_ hg0) | (refine below_set ?_ hgw)))); have n0_ := Aside0.mk (below_step (by repeat (first | (with_reducible exact HB.out) | apply below_alloc | apply pw_below_drewN | apply below_drew | (refine below_set ?_ (by simp)))) hb); have n1_ := Aside0.mk (below_step (by repeat (first | (with_reducible exact HB3.out) | apply below_alloc | apply pw_below_drewN | apply below_drew | (refine below_set ?_ (by simp)))) hb); have n2_ := Aside0.mk (below_step (by repeat (first | (with_reducible exact HB9.out) | apply below_alloc | apply pw_below_drewN | apply below_drew | (refine below_set ?_ (by simp)))) hb); clear HB HB3 HB9 hb; have HB := n0_; have HB3 := n1_; have HB9 := n2_; clear n0_ n1_ n2_; have BR := Aside0.mk hbox; clear hbox hg; have f0 := blk_frozen BR.out 0; have z0 : w7.cell? ⟨gr, 0, none⟩ = some (.int .i64 0) := (blk_cell BR.out 0).trans rfl; have f1 := blk_frozen BR.out 1; have z1 : w7.cell? ⟨gr, 1, none⟩ = some (.int .i64 0) := (blk_cell BR.out 1).trans rfl; have f2 := blk_frozen BR.out 2; have z2 : w7.cell? ⟨gr, 2, none⟩ = some (.int .i64 0) := (blk_cell BR.out 2).trans rfl; have f3 := blk_frozen BR.out 3; have z3 : w7.cell? ⟨gr, 3, none⟩ = some (.int .i64 0) := (blk_cell BR.out 3).trans rfl; have f4 := blk_frozen BR.out 4; have z4 : w7.cell? ⟨gr, 4, none⟩ = some (.string (⟨#[]⟩ : ByteArray)) := (blk_cell BR.out 4).trans rfl; have f5 := blk_frozen BR.out 5; have z5 : w7.cell? ⟨gr, 5, none⟩ = some (.int .i64 0) := (blk_cell BR.out 5).trans rfl; have f6 := blk_frozen BR.out 6; have z6 : w7.cell? ⟨gr, 6, none⟩ = some (.int .i64 0) := (blk_cell BR.out 6).trans rfl; have f7 := blk_frozen BR.out 7; have z7 : w7.cell? ⟨gr, 7, none⟩ = some (.int .i64 0) := (blk_cell BR.out 7).trans rfl; have f8 := blk_frozen BR.out 8; have z8 : w7.cell? ⟨gr, 8, none⟩ = some (.int .i64 0) := (blk_cell BR.out 8).trans rfl; have f9 := blk_frozen BR.out 9; have z9 : w7.cell? ⟨gr, 9, none⟩ = some (.slice none 0 0) := (blk_cell BR.out 9).trans rfl; have f10 := blk_frozen BR.out 10; have z10 : w7.cell? ⟨gr, 10, none⟩ = some (.int .i64 0) := (blk_cell BR.out 10).trans rfl; have f11 := blk_frozen BR.out 11; have z11 : w7.cell? ⟨gr, 11, none⟩ = some (.slice none 0 0) := (blk_cell BR.out 11).trans rfl))
      clear f0 z0 y0 f1 z1 y1 f2 z2 y2 f3 z3 y3 f4 z4 y4 f5 z5 y5 f6 z6 y6 f7 z7 y7 f8 z8 y8 f9 z9 y9 f10 z10 y10 f11 z11 y11
      have Q1 := Aside0.mk (put12 (.int .i64 y.f0.f0) (.int .i64 y.f0.f1) (.int .i64 y.f0.f2) (.int .i64 y.f0.f3) (.string y.f0.f4.f0) (.int .i64 y.f0.f4.f1) (.int .i64 y.f0.f4.f2) (.int .i64 y.f1) (.int .i64 y.f2) (.slice A9 y.f3.length c9) (.int .i64 y.f4) (.slice A11 y.f5.length c11) BR.out)
      have Q2 := Aside0.mk (puts12 (.int .i64 y.f0.f0) (.int .i64 y.f0.f1) (.int .i64 y.f0.f2) (.int .i64 y.f0.f3) (.string y.f0.f4.f0) (.int .i64 y.f0.f4.f1) (.int .i64 y.f0.f4.f2) (.int .i64 y.f1) (.int .i64 y.f2) (.slice A9 y.f3.length c9) (.int .i64 y.f4) (.slice A11 y.f5.length c11) HB.out (Nat.le_trans (below_size HBr.out) HGR.out))
      have Q3 := Aside0.mk (puts12 (.int .i64 y.f0.f0) (.int .i64 y.f0.f1) (.int .i64 y.f0.f2) (.int .i64 y.f0.f3) (.string y.f0.f4.f0) (.int .i64 y.f0.f4.f1) (.int .i64 y.f0.f4.f2) (.int .i64 y.f1) (.int .i64 y.f2) (.slice A9 y.f3.length c9) (.int .i64 y.f4) (.slice A11 y.f5.length c11) HB3.out (Nat.le_trans (below_size HB3r.out) HGR.out))
      have Q9 := Aside0.mk (puts12 (.int .i64 y.f0.f0) (.int .i64 y.f0.f1) (.int .i64 y.f0.f2) (.int .i64 y.f0.f3) (.string y.f0.f4.f0) (.int .i64 y.f0.f4.f1) (.int .i64 y.f0.f4.f2) (.int .i64 y.f1) (.int .i64 y.f2) (.slice A9 y.f3.length c9) (.int .i64 y.f4) (.slice A11 y.f5.length c11) HB9.out HGR.out)
      clear HB HB3 HB9 BR
      generalize (World.setCell (World.setCell (World.setCell (World.setCell (World.setCell (World.setCell (World.setCell (World.setCell (World.setCell (World.setCell (World.setCell (World.setCell w7 ⟨gr, 0, none⟩ (.int .i64 y.f0.f0)) ⟨gr, 1, none⟩ (.int .i64 y.f0.f1)) ⟨gr, 2, none⟩ (.int .i64 y.f0.f2)) ⟨gr, 3, none⟩ (.int .i64 y.f0.f3)) ⟨gr, 4, none⟩ (.string y.f0.f4.f0)) ⟨gr, 5, none⟩ (.int .i64 y.f0.f4.f1)) ⟨gr, 6, none⟩ (.int .i64 y.f0.f4.f2)) ⟨gr, 7, none⟩ (.int .i64 y.f1)) ⟨gr, 8, none⟩ (.int .i64 y.f2)) ⟨gr, 9, none⟩ (.slice A9 y.f3.length c9)) ⟨gr, 10, none⟩ (.int .i64 y.f4)) ⟨gr, 11, none⟩ (.slice A11 y.f5.length c11)) = w8 at Q1 Q2 Q3 Q9 ⊢
      have HB := Q2
      have HB3 := Q3
      have HB9 := Q9
      clear Q2 Q3 Q9
      have y0 : w8.cell? ⟨gr, 0, none⟩ = some (.int .i64 y.f0.f0) := (blk_cell Q1.out 0).trans rfl
      have y1 : w8.cell? ⟨gr, 1, none⟩ = some (.int .i64 y.f0.f1) := (blk_cell Q1.out 1).trans rfl
      have y2 : w8.cell? ⟨gr, 2, none⟩ = some (.int .i64 y.f0.f2) := (blk_cell Q1.out 2).trans rfl
      have y3 : w8.cell? ⟨gr, 3, none⟩ = some (.int .i64 y.f0.f3) := (blk_cell Q1.out 3).trans rfl
      have y4 : w8.cell? ⟨gr, 4, none⟩ = some (.string y.f0.f4.f0) := (blk_cell Q1.out 4).trans rfl
      have y5 : w8.cell? ⟨gr, 5, none⟩ = some (.int .i64 y.f0.f4.f1) := (blk_cell Q1.out 5).trans rfl
      have y6 : w8.cell? ⟨gr, 6, none⟩ = some (.int .i64 y.f0.f4.f2) := (blk_cell Q1.out 6).trans rfl
      have y7 : w8.cell? ⟨gr, 7, none⟩ = some (.int .i64 y.f1) := (blk_cell Q1.out 7).trans rfl
      have y8 : w8.cell? ⟨gr, 8, none⟩ = some (.int .i64 y.f2) := (blk_cell Q1.out 8).trans rfl
      have y9 : w8.cell? ⟨gr, 9, none⟩ = some (.slice A9 y.f3.length c9) := (blk_cell Q1.out 9).trans rfl
      have y10 : w8.cell? ⟨gr, 10, none⟩ = some (.int .i64 y.f4) := (blk_cell Q1.out 10).trans rfl
      have y11 : w8.cell? ⟨gr, 11, none⟩ = some (.slice A11 y.f5.length c11) := (blk_cell Q1.out 11).trans rfl
      go_upto_region 7 with (((with_reducible refine gate_dst (N := 13) rfl ?_); (try (refine gate_guard (by rfl) ?_; dsimp only)); refine box_event ?hg (N := 13) ?hd (cs := #[.int .i64 0, .int .i64 0, .int .i64 0, .int .i64 0, .string (⟨#[]⟩ : ByteArray), .int .i64 0, .int .i64 0]) (t := 68) ?hr ?_; (case hd => rfl); (case hg => rfl); (case hr => first | (go_simp; done) | (go_simp; rfl)); intro ge hg w9 hbox hb; have HGE := Aside0.mk (show wr.heap.size ≤ ge from by rw [hg]; exact below_size (by repeat (first | (with_reducible exact HB9.out) | apply below_alloc | apply pw_below_drewN | apply below_drew | (refine below_set ?_ (by simp)) | (refine below_set ?_ hg0) | (refine below_set ?_ hgw)))); have Q1' := Aside0.mk (blk_below Q1.out hb); have HNE := Aside0.mk (show gr ≠ ge from fun e => absurd (blk_lt Q1.out) (by rw [e, hg]; exact Nat.lt_irrefl _)); have n0_ := Aside0.mk (below_step (by repeat (first | (with_reducible exact HB.out) | apply below_alloc | apply pw_below_drewN | apply below_drew | (refine below_set ?_ (by simp)))) hb); have n1_ := Aside0.mk (below_step (by repeat (first | (with_reducible exact HB3.out) | apply below_alloc | apply pw_below_drewN | apply below_drew | (refine below_set ?_ (by simp)))) hb); have n2_ := Aside0.mk (below_step (by repeat (first | (with_reducible exact HB9.out) | apply below_alloc | apply pw_below_drewN | apply below_drew | (refine below_set ?_ (by simp)))) hb); clear HB HB3 HB9 hb; have HB := n0_; have HB3 := n1_; have HB9 := n2_; clear n0_ n1_ n2_; have BE := Aside0.mk hbox; clear hbox hg; have f0 := blk_frozen BE.out 0; have z0 : w9.cell? ⟨ge, 0, none⟩ = some (.int .i64 0) := (blk_cell BE.out 0).trans rfl; have f1 := blk_frozen BE.out 1; have z1 : w9.cell? ⟨ge, 1, none⟩ = some (.int .i64 0) := (blk_cell BE.out 1).trans rfl; have f2 := blk_frozen BE.out 2; have z2 : w9.cell? ⟨ge, 2, none⟩ = some (.int .i64 0) := (blk_cell BE.out 2).trans rfl; have f3 := blk_frozen BE.out 3; have z3 : w9.cell? ⟨ge, 3, none⟩ = some (.int .i64 0) := (blk_cell BE.out 3).trans rfl; have f4 := blk_frozen BE.out 4; have z4 : w9.cell? ⟨ge, 4, none⟩ = some (.string (⟨#[]⟩ : ByteArray)) := (blk_cell BE.out 4).trans rfl; have f5 := blk_frozen BE.out 5; have z5 : w9.cell? ⟨ge, 5, none⟩ = some (.int .i64 0) := (blk_cell BE.out 5).trans rfl; have f6 := blk_frozen BE.out 6; have z6 : w9.cell? ⟨ge, 6, none⟩ = some (.int .i64 0) := (blk_cell BE.out 6).trans rfl))
      clear f0 z0 f1 z1 f2 z2 f3 z3 f4 z4 f5 z5 f6 z6 y0 y1 y2 y3 y4 y5 y6 y7 y8 y9 y10 y11
      have R1 := Aside0.mk (put7 (.int .i64 y.f0.f0) (.int .i64 y.f0.f1) (.int .i64 y.f0.f2) (.int .i64 y.f0.f3) (.string y.f0.f4.f0) (.int .i64 y.f0.f4.f1) (.int .i64 y.f0.f4.f2) BE.out)
      have R0 := Aside0.mk (fars7 (.int .i64 y.f0.f0) (.int .i64 y.f0.f1) (.int .i64 y.f0.f2) (.int .i64 y.f0.f3) (.string y.f0.f4.f0) (.int .i64 y.f0.f4.f1) (.int .i64 y.f0.f4.f2) Q1'.out HNE.out)
      have R2 := Aside0.mk (puts7 (.int .i64 y.f0.f0) (.int .i64 y.f0.f1) (.int .i64 y.f0.f2) (.int .i64 y.f0.f3) (.string y.f0.f4.f0) (.int .i64 y.f0.f4.f1) (.int .i64 y.f0.f4.f2) HB.out (Nat.le_trans (below_size HBr.out) HGE.out))
      have R3 := Aside0.mk (puts7 (.int .i64 y.f0.f0) (.int .i64 y.f0.f1) (.int .i64 y.f0.f2) (.int .i64 y.f0.f3) (.string y.f0.f4.f0) (.int .i64 y.f0.f4.f1) (.int .i64 y.f0.f4.f2) HB3.out (Nat.le_trans (below_size HB3r.out) HGE.out))
      have R9 := Aside0.mk (puts7 (.int .i64 y.f0.f0) (.int .i64 y.f0.f1) (.int .i64 y.f0.f2) (.int .i64 y.f0.f3) (.string y.f0.f4.f0) (.int .i64 y.f0.f4.f1) (.int .i64 y.f0.f4.f2) HB9.out HGE.out)
      clear HB HB3 HB9 BE Q1 Q1' HNE
      generalize (World.setCell (World.setCell (World.setCell (World.setCell (World.setCell (World.setCell (World.setCell w9 ⟨ge, 0, none⟩ (.int .i64 y.f0.f0)) ⟨ge, 1, none⟩ (.int .i64 y.f0.f1)) ⟨ge, 2, none⟩ (.int .i64 y.f0.f2)) ⟨ge, 3, none⟩ (.int .i64 y.f0.f3)) ⟨ge, 4, none⟩ (.string y.f0.f4.f0)) ⟨ge, 5, none⟩ (.int .i64 y.f0.f4.f1)) ⟨ge, 6, none⟩ (.int .i64 y.f0.f4.f2)) = w10 at R0 R1 R2 R3 R9 ⊢
      have HB := R2
      have HB3 := R3
      have HB9 := R9
      clear R2 R3 R9
      have y2 : w10.cell? ⟨gc, 2, none⟩ = some (.int .i64 c.workers) := (blk_cell (blk_below BC.out HB3.out) 2).trans rfl
      have k0 : w10.cell? ⟨ge, 0, none⟩ = some (.int .i64 y.f0.f0) := (blk_cell R1.out 0).trans rfl
      have k1 : w10.cell? ⟨ge, 1, none⟩ = some (.int .i64 y.f0.f1) := (blk_cell R1.out 1).trans rfl
      have y11 : w10.cell? ⟨gr, 11, none⟩ = some (.slice A11 y.f5.length c11) := (blk_cell R0.out 11).trans rfl
      obtain ⟨kC, hC⟩ := (contains_is good y.f0.f1 (by omega)).rounds
      have HC := Aside0.mk hC
      clear hC
      have HO9 := Aside0.mk (fun (W : World) (hb : Below wr.heap.size wr W) => Kd.R_below HO.out hb)
      by_cases hwake : y.f0.f0 = 4 ∧ 0 ≤ y.f0.f1 ∧ y.f0.f1 ≤ c.workers
      · have HS := Aside0.mk (show winStep c.workers good ids y woke tick = if lostAt ids y.f5 then none else some (woke.set y.f0.f1.toNat true, tick) from by unfold winStep; rw [if_pos hwake])
        have b4 : (y.f0.f0 == 4) = true := by simpa using hwake.1
        have b5 : decide (0 ≤ y.f0.f1) = true := decide_eq_true hwake.2.1
        have b6 : decide (y.f0.f1 ≤ c.workers) = true := decide_eq_true hwake.2.2
        have hnn : y.f0.f1 < (n1 : Int) := by rw [HN1.out]; omega
        have q1 : (0 ≤ y.f0.f1) = True := eq_true hwake.2.1
        have q2 : (y.f0.f1 < (n1 : Int)) = True := eq_true hnn
        have hn0 := hwake.2.1
        clear hwake
        obtain ⟨hx0, hf0⟩ := Kd.R_celln false (HO9.out _ HB9.out) y.f0.f1 hn0 hnn
        have HP := Aside0.mk (Kd.R_putg (HO9.out _ HB9.out) y.f0.f1 true).1
        have S2 := Aside0.mk (below_set (v := .bool true) (g := g) (j := y.f0.f1.toNat) HB.out hgw)
        have S3 := Aside0.mk (below_set (v := .bool true) (g := g) (j := y.f0.f1.toNat) HB3.out hg0)
        have S0 := Aside0.mk (blk_far (p := ⟨g, y.f0.f1.toNat, none⟩) R0.out (show gr ≠ g from fun e => absurd (Nat.lt_of_lt_of_le hglr HGR.out) (by rw [e]; exact Nat.lt_irrefl _)) (.bool true))
        go_upto_region 13 with (fail)
        clear HB HB3 hx0 hf0 y2 k0 k1 y11
        generalize World.setCell w10 ⟨g, y.f0.f1.toNat, none⟩ (.bool true) = w11 at HP S2 S3 S0 ⊢
        have HB := S2
        have HB3 := S3
        have y11 : w11.cell? ⟨gr, 11, none⟩ = some (.slice A11 y.f5.length c11) := (blk_cell S0.out 11).trans rfl
        clear S2 S3
        cases hlo : lostAt ids y.f5 with
        | true =>
          rw [hlo] at HS
          have HLO := Aside0.mk hlo
          clear hlo
          go_wp2_with (first | (go_at_call 72; (with_reducible refine (contains_calls A11 c11 y.f5 gm b n ids _ (Kd.C_below HR11.out (by repeat (first | (with_reducible exact HB.out) | apply below_alloc | apply pw_below_drewN | apply below_drew | (refine below_set ?_ (by simp)) | (refine below_set ?_ hg0) | (refine below_set ?_ hgw)))) hc11 (HM.out.below (by repeat (first | (with_reducible exact HB.out) | apply below_alloc | apply pw_below_drewN | apply below_drew | (refine below_set ?_ (by simp)) | (refine below_set ?_ hg0) | (refine below_set ?_ hgw)))) ((blk_cell (blk_below BM.out (by repeat (first | (with_reducible exact HB3.out) | apply below_alloc | apply pw_below_drewN | apply below_drew | (refine below_set ?_ (by simp)) | (refine below_set ?_ hg0) | (refine below_set ?_ hgw)))) 0).trans rfl) hl11 HZ11.out).mono ?_); rintro e w' ⟨rfl, rfl⟩; rw [HLO.out]) | (go_at_call 56; (with_reducible refine (slices_Contains_int_int.calls kC A1 c1 good y.f0.f1 _ _ (Kd.C_below HR1.out (by repeat (first | (with_reducible exact HB.out) | apply below_alloc | apply pw_below_drewN | apply below_drew | (refine below_set ?_ (by simp)) | (refine below_set ?_ hg0) | (refine below_set ?_ hgw)))) hc1 HC.out).mono ?_); rintro e w' ⟨rfl, ⟨nd, rfl⟩⟩))
          go_ret
          exact ⟨by rw [HF.out, HS.out]; rfl, (by repeat (first | (with_reducible exact HB.out) | apply below_alloc | apply pw_below_drewN | apply below_drew | (refine below_set ?_ (by simp)) | (refine below_set ?_ hg0) | (refine below_set ?_ hgw)))⟩
        | false =>
          rw [hlo] at HS
          have HLO := Aside0.mk hlo
          clear hlo
          go_wp2_with (first | (go_at_call 72; (with_reducible refine (contains_calls A11 c11 y.f5 gm b n ids _ (Kd.C_below HR11.out (by repeat (first | (with_reducible exact HB.out) | apply below_alloc | apply pw_below_drewN | apply below_drew | (refine below_set ?_ (by simp)) | (refine below_set ?_ hg0) | (refine below_set ?_ hgw)))) hc11 (HM.out.below (by repeat (first | (with_reducible exact HB.out) | apply below_alloc | apply pw_below_drewN | apply below_drew | (refine below_set ?_ (by simp)) | (refine below_set ?_ hg0) | (refine below_set ?_ hgw)))) ((blk_cell (blk_below BM.out (by repeat (first | (with_reducible exact HB3.out) | apply below_alloc | apply pw_below_drewN | apply below_drew | (refine below_set ?_ (by simp)) | (refine below_set ?_ hg0) | (refine below_set ?_ hgw)))) 0).trans rfl) hl11 HZ11.out).mono ?_); rintro e w' ⟨rfl, rfl⟩; rw [HLO.out]) | (go_at_call 56; (with_reducible refine (slices_Contains_int_int.calls kC A1 c1 good y.f0.f1 _ _ (Kd.C_below HR1.out (by repeat (first | (with_reducible exact HB.out) | apply below_alloc | apply pw_below_drewN | apply below_drew | (refine below_set ?_ (by simp)) | (refine below_set ?_ hg0) | (refine below_set ?_ hgw)))) hc1 HC.out).mono ?_); rintro e w' ⟨rfl, ⟨nd, rfl⟩⟩))
          go_roundw
          case rel => exact ⟨i + 1, tick, woke.set y.f0.f1.toNat true, ⟨by omega⟩, ⟨by omega⟩, by first | rfl | go_num, rfl, ⟨by rw [List.length_set]; exact HWL.out⟩, ⟨by rw [HF.out, HS.out]; rfl⟩, ⟨HP.out⟩, ⟨(by repeat (first | (with_reducible exact HB.out) | apply below_alloc | apply pw_below_drewN | apply below_drew | (refine below_set ?_ (by simp)) | (refine below_set ?_ hg0) | (refine below_set ?_ hgw)))⟩, ⟨(by repeat (first | (with_reducible exact HB3.out) | apply below_alloc | apply pw_below_drewN | apply below_drew | (refine below_set ?_ (by simp)) | (refine below_set ?_ hg0) | (refine below_set ?_ hgw)))⟩⟩
          case measure => have := HI0.out; simp [intOf]; omega

      · by_cases h3 : y.f0.f0 = 3
        · have HS := Aside0.mk (show winStep c.workers good ids y woke tick = if lostAt ids y.f5 then none else some (woke, true) from by unfold winStep; rw [if_neg hwake, if_pos h3])
          have b4 : (y.f0.f0 == 4) = false := by simpa using (show ¬ y.f0.f0 = 4 by omega)
          have b3 : (y.f0.f0 == 3) = true := by simpa using h3
          clear hwake h3
          cases hlo : lostAt ids y.f5 with
          | true =>
            rw [hlo] at HS
            have HLO := Aside0.mk hlo
            clear hlo
            go_wp2_with (first | (go_at_call 72; (with_reducible refine (contains_calls A11 c11 y.f5 gm b n ids _ (Kd.C_below HR11.out (by repeat (first | (with_reducible exact HB.out) | apply below_alloc | apply pw_below_drewN | apply below_drew | (refine below_set ?_ (by simp)) | (refine below_set ?_ hg0) | (refine below_set ?_ hgw)))) hc11 (HM.out.below (by repeat (first | (with_reducible exact HB.out) | apply below_alloc | apply pw_below_drewN | apply below_drew | (refine below_set ?_ (by simp)) | (refine below_set ?_ hg0) | (refine below_set ?_ hgw)))) ((blk_cell (blk_below BM.out (by repeat (first | (with_reducible exact HB3.out) | apply below_alloc | apply pw_below_drewN | apply below_drew | (refine below_set ?_ (by simp)) | (refine below_set ?_ hg0) | (refine below_set ?_ hgw)))) 0).trans rfl) hl11 HZ11.out).mono ?_); rintro e w' ⟨rfl, rfl⟩; rw [HLO.out]) | (go_at_call 56; (with_reducible refine (slices_Contains_int_int.calls kC A1 c1 good y.f0.f1 _ _ (Kd.C_below HR1.out (by repeat (first | (with_reducible exact HB.out) | apply below_alloc | apply pw_below_drewN | apply below_drew | (refine below_set ?_ (by simp)) | (refine below_set ?_ hg0) | (refine below_set ?_ hgw)))) hc1 HC.out).mono ?_); rintro e w' ⟨rfl, ⟨nd, rfl⟩⟩))
            go_ret
            exact ⟨by rw [HF.out, HS.out]; rfl, (by repeat (first | (with_reducible exact HB.out) | apply below_alloc | apply pw_below_drewN | apply below_drew | (refine below_set ?_ (by simp)) | (refine below_set ?_ hg0) | (refine below_set ?_ hgw)))⟩
          | false =>
            rw [hlo] at HS
            have HLO := Aside0.mk hlo
            clear hlo
            go_wp2_with (first | (go_at_call 72; (with_reducible refine (contains_calls A11 c11 y.f5 gm b n ids _ (Kd.C_below HR11.out (by repeat (first | (with_reducible exact HB.out) | apply below_alloc | apply pw_below_drewN | apply below_drew | (refine below_set ?_ (by simp)) | (refine below_set ?_ hg0) | (refine below_set ?_ hgw)))) hc11 (HM.out.below (by repeat (first | (with_reducible exact HB.out) | apply below_alloc | apply pw_below_drewN | apply below_drew | (refine below_set ?_ (by simp)) | (refine below_set ?_ hg0) | (refine below_set ?_ hgw)))) ((blk_cell (blk_below BM.out (by repeat (first | (with_reducible exact HB3.out) | apply below_alloc | apply pw_below_drewN | apply below_drew | (refine below_set ?_ (by simp)) | (refine below_set ?_ hg0) | (refine below_set ?_ hgw)))) 0).trans rfl) hl11 HZ11.out).mono ?_); rintro e w' ⟨rfl, rfl⟩; rw [HLO.out]) | (go_at_call 56; (with_reducible refine (slices_Contains_int_int.calls kC A1 c1 good y.f0.f1 _ _ (Kd.C_below HR1.out (by repeat (first | (with_reducible exact HB.out) | apply below_alloc | apply pw_below_drewN | apply below_drew | (refine below_set ?_ (by simp)) | (refine below_set ?_ hg0) | (refine below_set ?_ hgw)))) hc1 HC.out).mono ?_); rintro e w' ⟨rfl, ⟨nd, rfl⟩⟩))
            go_roundw
            case rel => exact ⟨i + 1, true, woke, ⟨by omega⟩, ⟨by omega⟩, by first | rfl | go_num, rfl, ⟨HWL.out⟩, ⟨by rw [HF.out, HS.out]; rfl⟩, ⟨Kd.R_below HO.out (by repeat (first | (with_reducible exact HB9.out) | apply below_alloc | apply pw_below_drewN | apply below_drew | (refine below_set ?_ (by simp)) | (refine below_set ?_ hg0) | (refine below_set ?_ hgw)))⟩, ⟨(by repeat (first | (with_reducible exact HB.out) | apply below_alloc | apply pw_below_drewN | apply below_drew | (refine below_set ?_ (by simp)) | (refine below_set ?_ hg0) | (refine below_set ?_ hgw)))⟩, ⟨(by repeat (first | (with_reducible exact HB3.out) | apply below_alloc | apply pw_below_drewN | apply below_drew | (refine below_set ?_ (by simp)) | (refine below_set ?_ hg0) | (refine below_set ?_ hgw)))⟩⟩
            case measure => have := HI0.out; simp [intOf]; omega

        by_cases h9 : y.f0.f0 = 9
        · cases ha : (good.any fun z => decide (y.f0.f1 = z)) with
          | true =>
          have HC := Aside0.mk (HC.out.trans (by rw [ha]))
          have HS := Aside0.mk (show winStep c.workers good ids y woke tick = none from by unfold winStep; rw [if_neg hwake, if_neg h3, if_pos ⟨h9, ha⟩])
          have b4 : (y.f0.f0 == 4) = false := by simpa using (show ¬ y.f0.f0 = 4 by omega)
          have b3 : (y.f0.f0 == 3) = false := by simpa using h3
          have b9 : (y.f0.f0 == 9) = true := by simpa using h9
          clear hwake h9 h3 ha
          go_wp2_with (first | (go_at_call 72; (with_reducible refine (contains_calls A11 c11 y.f5 gm b n ids _ (Kd.C_below HR11.out (by repeat (first | (with_reducible exact HB.out) | apply below_alloc | apply pw_below_drewN | apply below_drew | (refine below_set ?_ (by simp)) | (refine below_set ?_ hg0) | (refine below_set ?_ hgw)))) hc11 (HM.out.below (by repeat (first | (with_reducible exact HB.out) | apply below_alloc | apply pw_below_drewN | apply below_drew | (refine below_set ?_ (by simp)) | (refine below_set ?_ hg0) | (refine below_set ?_ hgw)))) ((blk_cell (blk_below BM.out (by repeat (first | (with_reducible exact HB3.out) | apply below_alloc | apply pw_below_drewN | apply below_drew | (refine below_set ?_ (by simp)) | (refine below_set ?_ hg0) | (refine below_set ?_ hgw)))) 0).trans rfl) hl11 HZ11.out).mono ?_); rintro e w' ⟨rfl, rfl⟩) | (go_at_call 56; (with_reducible refine (slices_Contains_int_int.calls kC A1 c1 good y.f0.f1 _ _ (Kd.C_below HR1.out (by repeat (first | (with_reducible exact HB.out) | apply below_alloc | apply pw_below_drewN | apply below_drew | (refine below_set ?_ (by simp)) | (refine below_set ?_ hg0) | (refine below_set ?_ hgw)))) hc1 HC.out).mono ?_); rintro e w' ⟨rfl, ⟨nd, rfl⟩⟩))
          go_ret
          exact ⟨by rw [HF.out, HS.out]; rfl, (by repeat (first | (with_reducible exact HB.out) | apply below_alloc | apply pw_below_drewN | apply below_drew | (refine below_set ?_ (by simp)) | (refine below_set ?_ hg0) | (refine below_set ?_ hgw)))⟩
          | false =>
          have HC := Aside0.mk (HC.out.trans (by rw [ha]))
          have HS := Aside0.mk (show winStep c.workers good ids y woke tick = if lostAt ids y.f5 then none else some (woke, tick) from by unfold winStep; rw [if_neg hwake, if_neg h3, if_neg (by rw [ha]; simp)])
          have b4 : (y.f0.f0 == 4) = false := by simpa using (show ¬ y.f0.f0 = 4 by omega)
          have b3 : (y.f0.f0 == 3) = false := by simpa using h3
          have b9 : (y.f0.f0 == 9) = true := by simpa using h9
          clear hwake h9 h3 ha
          cases hlo : lostAt ids y.f5 with
          | true =>
            rw [hlo] at HS
            have HLO := Aside0.mk hlo
            clear hlo
            go_wp2_with (first | (go_at_call 72; (with_reducible refine (contains_calls A11 c11 y.f5 gm b n ids _ (Kd.C_below HR11.out (by repeat (first | (with_reducible exact HB.out) | apply below_alloc | apply pw_below_drewN | apply below_drew | (refine below_set ?_ (by simp)) | (refine below_set ?_ hg0) | (refine below_set ?_ hgw)))) hc11 (HM.out.below (by repeat (first | (with_reducible exact HB.out) | apply below_alloc | apply pw_below_drewN | apply below_drew | (refine below_set ?_ (by simp)) | (refine below_set ?_ hg0) | (refine below_set ?_ hgw)))) ((blk_cell (blk_below BM.out (by repeat (first | (with_reducible exact HB3.out) | apply below_alloc | apply pw_below_drewN | apply below_drew | (refine below_set ?_ (by simp)) | (refine below_set ?_ hg0) | (refine below_set ?_ hgw)))) 0).trans rfl) hl11 HZ11.out).mono ?_); rintro e w' ⟨rfl, rfl⟩; rw [HLO.out]) | (go_at_call 56; (with_reducible refine (slices_Contains_int_int.calls kC A1 c1 good y.f0.f1 _ _ (Kd.C_below HR1.out (by repeat (first | (with_reducible exact HB.out) | apply below_alloc | apply pw_below_drewN | apply below_drew | (refine below_set ?_ (by simp)) | (refine below_set ?_ hg0) | (refine below_set ?_ hgw)))) hc1 HC.out).mono ?_); rintro e w' ⟨rfl, ⟨nd, rfl⟩⟩))
            go_ret
            exact ⟨by rw [HF.out, HS.out]; rfl, (by repeat (first | (with_reducible exact HB.out) | apply below_alloc | apply pw_below_drewN | apply below_drew | (refine below_set ?_ (by simp)) | (refine below_set ?_ hg0) | (refine below_set ?_ hgw)))⟩
          | false =>
            rw [hlo] at HS
            have HLO := Aside0.mk hlo
            clear hlo
            go_wp2_with (first | (go_at_call 72; (with_reducible refine (contains_calls A11 c11 y.f5 gm b n ids _ (Kd.C_below HR11.out (by repeat (first | (with_reducible exact HB.out) | apply below_alloc | apply pw_below_drewN | apply below_drew | (refine below_set ?_ (by simp)) | (refine below_set ?_ hg0) | (refine below_set ?_ hgw)))) hc11 (HM.out.below (by repeat (first | (with_reducible exact HB.out) | apply below_alloc | apply pw_below_drewN | apply below_drew | (refine below_set ?_ (by simp)) | (refine below_set ?_ hg0) | (refine below_set ?_ hgw)))) ((blk_cell (blk_below BM.out (by repeat (first | (with_reducible exact HB3.out) | apply below_alloc | apply pw_below_drewN | apply below_drew | (refine below_set ?_ (by simp)) | (refine below_set ?_ hg0) | (refine below_set ?_ hgw)))) 0).trans rfl) hl11 HZ11.out).mono ?_); rintro e w' ⟨rfl, rfl⟩; rw [HLO.out]) | (go_at_call 56; (with_reducible refine (slices_Contains_int_int.calls kC A1 c1 good y.f0.f1 _ _ (Kd.C_below HR1.out (by repeat (first | (with_reducible exact HB.out) | apply below_alloc | apply pw_below_drewN | apply below_drew | (refine below_set ?_ (by simp)) | (refine below_set ?_ hg0) | (refine below_set ?_ hgw)))) hc1 HC.out).mono ?_); rintro e w' ⟨rfl, ⟨nd, rfl⟩⟩))
            go_roundw
            case rel => exact ⟨i + 1, tick, woke, ⟨by omega⟩, ⟨by omega⟩, by first | rfl | go_num, rfl, ⟨HWL.out⟩, ⟨by rw [HF.out, HS.out]; rfl⟩, ⟨Kd.R_below HO.out (by repeat (first | (with_reducible exact HB9.out) | apply below_alloc | apply pw_below_drewN | apply below_drew | (refine below_set ?_ (by simp)) | (refine below_set ?_ hg0) | (refine below_set ?_ hgw)))⟩, ⟨(by repeat (first | (with_reducible exact HB.out) | apply below_alloc | apply pw_below_drewN | apply below_drew | (refine below_set ?_ (by simp)) | (refine below_set ?_ hg0) | (refine below_set ?_ hgw)))⟩, ⟨(by repeat (first | (with_reducible exact HB3.out) | apply below_alloc | apply pw_below_drewN | apply below_drew | (refine below_set ?_ (by simp)) | (refine below_set ?_ hg0) | (refine below_set ?_ hgw)))⟩⟩
            case measure => have := HI0.out; simp [intOf]; omega

        have hno : winStep c.workers good ids y woke tick = if lostAt ids y.f5 then none else some (woke, tick) := by unfold winStep; rw [if_neg hwake, if_neg h3, if_neg (fun h => h9 h.1)]
        have b3 : (y.f0.f0 == 3) = false := by simpa using h3
        have b9 : (y.f0.f0 == 9) = false := by simpa using h9
        have HS := Aside0.mk hno
        clear hno h3 h9
        by_cases h4 : y.f0.f0 = 4
        · have b4 : (y.f0.f0 == 4) = true := by simpa using h4
          by_cases h5 : 0 ≤ y.f0.f1
          · have b5 : decide (0 ≤ y.f0.f1) = true := decide_eq_true h5
            have b6 : decide (y.f0.f1 ≤ c.workers) = false := decide_eq_false (fun h => hwake ⟨h4, h5, h⟩)
            clear hwake h4 h5
            cases hlo : lostAt ids y.f5 with
            | true =>
              rw [hlo] at HS
              have HLO := Aside0.mk hlo
              clear hlo
              go_wp2_with (first | (go_at_call 72; (with_reducible refine (contains_calls A11 c11 y.f5 gm b n ids _ (Kd.C_below HR11.out (by repeat (first | (with_reducible exact HB.out) | apply below_alloc | apply pw_below_drewN | apply below_drew | (refine below_set ?_ (by simp)) | (refine below_set ?_ hg0) | (refine below_set ?_ hgw)))) hc11 (HM.out.below (by repeat (first | (with_reducible exact HB.out) | apply below_alloc | apply pw_below_drewN | apply below_drew | (refine below_set ?_ (by simp)) | (refine below_set ?_ hg0) | (refine below_set ?_ hgw)))) ((blk_cell (blk_below BM.out (by repeat (first | (with_reducible exact HB3.out) | apply below_alloc | apply pw_below_drewN | apply below_drew | (refine below_set ?_ (by simp)) | (refine below_set ?_ hg0) | (refine below_set ?_ hgw)))) 0).trans rfl) hl11 HZ11.out).mono ?_); rintro e w' ⟨rfl, rfl⟩; rw [HLO.out]) | (go_at_call 56; (with_reducible refine (slices_Contains_int_int.calls kC A1 c1 good y.f0.f1 _ _ (Kd.C_below HR1.out (by repeat (first | (with_reducible exact HB.out) | apply below_alloc | apply pw_below_drewN | apply below_drew | (refine below_set ?_ (by simp)) | (refine below_set ?_ hg0) | (refine below_set ?_ hgw)))) hc1 HC.out).mono ?_); rintro e w' ⟨rfl, ⟨nd, rfl⟩⟩))
              go_ret
              exact ⟨by rw [HF.out, HS.out]; rfl, (by repeat (first | (with_reducible exact HB.out) | apply below_alloc | apply pw_below_drewN | apply below_drew | (refine below_set ?_ (by simp)) | (refine below_set ?_ hg0) | (refine below_set ?_ hgw)))⟩
            | false =>
              rw [hlo] at HS
              have HLO := Aside0.mk hlo
              clear hlo
              go_wp2_with (first | (go_at_call 72; (with_reducible refine (contains_calls A11 c11 y.f5 gm b n ids _ (Kd.C_below HR11.out (by repeat (first | (with_reducible exact HB.out) | apply below_alloc | apply pw_below_drewN | apply below_drew | (refine below_set ?_ (by simp)) | (refine below_set ?_ hg0) | (refine below_set ?_ hgw)))) hc11 (HM.out.below (by repeat (first | (with_reducible exact HB.out) | apply below_alloc | apply pw_below_drewN | apply below_drew | (refine below_set ?_ (by simp)) | (refine below_set ?_ hg0) | (refine below_set ?_ hgw)))) ((blk_cell (blk_below BM.out (by repeat (first | (with_reducible exact HB3.out) | apply below_alloc | apply pw_below_drewN | apply below_drew | (refine below_set ?_ (by simp)) | (refine below_set ?_ hg0) | (refine below_set ?_ hgw)))) 0).trans rfl) hl11 HZ11.out).mono ?_); rintro e w' ⟨rfl, rfl⟩; rw [HLO.out]) | (go_at_call 56; (with_reducible refine (slices_Contains_int_int.calls kC A1 c1 good y.f0.f1 _ _ (Kd.C_below HR1.out (by repeat (first | (with_reducible exact HB.out) | apply below_alloc | apply pw_below_drewN | apply below_drew | (refine below_set ?_ (by simp)) | (refine below_set ?_ hg0) | (refine below_set ?_ hgw)))) hc1 HC.out).mono ?_); rintro e w' ⟨rfl, ⟨nd, rfl⟩⟩))
              go_roundw
              case rel => exact ⟨i + 1, tick, woke, ⟨by omega⟩, ⟨by omega⟩, by first | rfl | go_num, rfl, ⟨HWL.out⟩, ⟨by rw [HF.out, HS.out]; rfl⟩, ⟨Kd.R_below HO.out (by repeat (first | (with_reducible exact HB9.out) | apply below_alloc | apply pw_below_drewN | apply below_drew | (refine below_set ?_ (by simp)) | (refine below_set ?_ hg0) | (refine below_set ?_ hgw)))⟩, ⟨(by repeat (first | (with_reducible exact HB.out) | apply below_alloc | apply pw_below_drewN | apply below_drew | (refine below_set ?_ (by simp)) | (refine below_set ?_ hg0) | (refine below_set ?_ hgw)))⟩, ⟨(by repeat (first | (with_reducible exact HB3.out) | apply below_alloc | apply pw_below_drewN | apply below_drew | (refine below_set ?_ (by simp)) | (refine below_set ?_ hg0) | (refine below_set ?_ hgw)))⟩⟩
              case measure => have := HI0.out; simp [intOf]; omega

          · have b5 : decide (0 ≤ y.f0.f1) = false := decide_eq_false h5
            clear hwake h4 h5
            cases hlo : lostAt ids y.f5 with
            | true =>
              rw [hlo] at HS
              have HLO := Aside0.mk hlo
              clear hlo
              go_wp2_with (first | (go_at_call 72; (with_reducible refine (contains_calls A11 c11 y.f5 gm b n ids _ (Kd.C_below HR11.out (by repeat (first | (with_reducible exact HB.out) | apply below_alloc | apply pw_below_drewN | apply below_drew | (refine below_set ?_ (by simp)) | (refine below_set ?_ hg0) | (refine below_set ?_ hgw)))) hc11 (HM.out.below (by repeat (first | (with_reducible exact HB.out) | apply below_alloc | apply pw_below_drewN | apply below_drew | (refine below_set ?_ (by simp)) | (refine below_set ?_ hg0) | (refine below_set ?_ hgw)))) ((blk_cell (blk_below BM.out (by repeat (first | (with_reducible exact HB3.out) | apply below_alloc | apply pw_below_drewN | apply below_drew | (refine below_set ?_ (by simp)) | (refine below_set ?_ hg0) | (refine below_set ?_ hgw)))) 0).trans rfl) hl11 HZ11.out).mono ?_); rintro e w' ⟨rfl, rfl⟩; rw [HLO.out]) | (go_at_call 56; (with_reducible refine (slices_Contains_int_int.calls kC A1 c1 good y.f0.f1 _ _ (Kd.C_below HR1.out (by repeat (first | (with_reducible exact HB.out) | apply below_alloc | apply pw_below_drewN | apply below_drew | (refine below_set ?_ (by simp)) | (refine below_set ?_ hg0) | (refine below_set ?_ hgw)))) hc1 HC.out).mono ?_); rintro e w' ⟨rfl, ⟨nd, rfl⟩⟩))
              go_ret
              exact ⟨by rw [HF.out, HS.out]; rfl, (by repeat (first | (with_reducible exact HB.out) | apply below_alloc | apply pw_below_drewN | apply below_drew | (refine below_set ?_ (by simp)) | (refine below_set ?_ hg0) | (refine below_set ?_ hgw)))⟩
            | false =>
              rw [hlo] at HS
              have HLO := Aside0.mk hlo
              clear hlo
              go_wp2_with (first | (go_at_call 72; (with_reducible refine (contains_calls A11 c11 y.f5 gm b n ids _ (Kd.C_below HR11.out (by repeat (first | (with_reducible exact HB.out) | apply below_alloc | apply pw_below_drewN | apply below_drew | (refine below_set ?_ (by simp)) | (refine below_set ?_ hg0) | (refine below_set ?_ hgw)))) hc11 (HM.out.below (by repeat (first | (with_reducible exact HB.out) | apply below_alloc | apply pw_below_drewN | apply below_drew | (refine below_set ?_ (by simp)) | (refine below_set ?_ hg0) | (refine below_set ?_ hgw)))) ((blk_cell (blk_below BM.out (by repeat (first | (with_reducible exact HB3.out) | apply below_alloc | apply pw_below_drewN | apply below_drew | (refine below_set ?_ (by simp)) | (refine below_set ?_ hg0) | (refine below_set ?_ hgw)))) 0).trans rfl) hl11 HZ11.out).mono ?_); rintro e w' ⟨rfl, rfl⟩; rw [HLO.out]) | (go_at_call 56; (with_reducible refine (slices_Contains_int_int.calls kC A1 c1 good y.f0.f1 _ _ (Kd.C_below HR1.out (by repeat (first | (with_reducible exact HB.out) | apply below_alloc | apply pw_below_drewN | apply below_drew | (refine below_set ?_ (by simp)) | (refine below_set ?_ hg0) | (refine below_set ?_ hgw)))) hc1 HC.out).mono ?_); rintro e w' ⟨rfl, ⟨nd, rfl⟩⟩))
              go_roundw
              case rel => exact ⟨i + 1, tick, woke, ⟨by omega⟩, ⟨by omega⟩, by first | rfl | go_num, rfl, ⟨HWL.out⟩, ⟨by rw [HF.out, HS.out]; rfl⟩, ⟨Kd.R_below HO.out (by repeat (first | (with_reducible exact HB9.out) | apply below_alloc | apply pw_below_drewN | apply below_drew | (refine below_set ?_ (by simp)) | (refine below_set ?_ hg0) | (refine below_set ?_ hgw)))⟩, ⟨(by repeat (first | (with_reducible exact HB.out) | apply below_alloc | apply pw_below_drewN | apply below_drew | (refine below_set ?_ (by simp)) | (refine below_set ?_ hg0) | (refine below_set ?_ hgw)))⟩, ⟨(by repeat (first | (with_reducible exact HB3.out) | apply below_alloc | apply pw_below_drewN | apply below_drew | (refine below_set ?_ (by simp)) | (refine below_set ?_ hg0) | (refine below_set ?_ hgw)))⟩⟩
              case measure => have := HI0.out; simp [intOf]; omega

        · have b4 : (y.f0.f0 == 4) = false := by simpa using h4
          clear hwake h4
          cases hlo : lostAt ids y.f5 with
          | true =>
            rw [hlo] at HS
            have HLO := Aside0.mk hlo
            clear hlo
            go_wp2_with (first | (go_at_call 72; (with_reducible refine (contains_calls A11 c11 y.f5 gm b n ids _ (Kd.C_below HR11.out (by repeat (first | (with_reducible exact HB.out) | apply below_alloc | apply pw_below_drewN | apply below_drew | (refine below_set ?_ (by simp)) | (refine below_set ?_ hg0) | (refine below_set ?_ hgw)))) hc11 (HM.out.below (by repeat (first | (with_reducible exact HB.out) | apply below_alloc | apply pw_below_drewN | apply below_drew | (refine below_set ?_ (by simp)) | (refine below_set ?_ hg0) | (refine below_set ?_ hgw)))) ((blk_cell (blk_below BM.out (by repeat (first | (with_reducible exact HB3.out) | apply below_alloc | apply pw_below_drewN | apply below_drew | (refine below_set ?_ (by simp)) | (refine below_set ?_ hg0) | (refine below_set ?_ hgw)))) 0).trans rfl) hl11 HZ11.out).mono ?_); rintro e w' ⟨rfl, rfl⟩; rw [HLO.out]) | (go_at_call 56; (with_reducible refine (slices_Contains_int_int.calls kC A1 c1 good y.f0.f1 _ _ (Kd.C_below HR1.out (by repeat (first | (with_reducible exact HB.out) | apply below_alloc | apply pw_below_drewN | apply below_drew | (refine below_set ?_ (by simp)) | (refine below_set ?_ hg0) | (refine below_set ?_ hgw)))) hc1 HC.out).mono ?_); rintro e w' ⟨rfl, ⟨nd, rfl⟩⟩))
            go_ret
            exact ⟨by rw [HF.out, HS.out]; rfl, (by repeat (first | (with_reducible exact HB.out) | apply below_alloc | apply pw_below_drewN | apply below_drew | (refine below_set ?_ (by simp)) | (refine below_set ?_ hg0) | (refine below_set ?_ hgw)))⟩
          | false =>
            rw [hlo] at HS
            have HLO := Aside0.mk hlo
            clear hlo
            go_wp2_with (first | (go_at_call 72; (with_reducible refine (contains_calls A11 c11 y.f5 gm b n ids _ (Kd.C_below HR11.out (by repeat (first | (with_reducible exact HB.out) | apply below_alloc | apply pw_below_drewN | apply below_drew | (refine below_set ?_ (by simp)) | (refine below_set ?_ hg0) | (refine below_set ?_ hgw)))) hc11 (HM.out.below (by repeat (first | (with_reducible exact HB.out) | apply below_alloc | apply pw_below_drewN | apply below_drew | (refine below_set ?_ (by simp)) | (refine below_set ?_ hg0) | (refine below_set ?_ hgw)))) ((blk_cell (blk_below BM.out (by repeat (first | (with_reducible exact HB3.out) | apply below_alloc | apply pw_below_drewN | apply below_drew | (refine below_set ?_ (by simp)) | (refine below_set ?_ hg0) | (refine below_set ?_ hgw)))) 0).trans rfl) hl11 HZ11.out).mono ?_); rintro e w' ⟨rfl, rfl⟩; rw [HLO.out]) | (go_at_call 56; (with_reducible refine (slices_Contains_int_int.calls kC A1 c1 good y.f0.f1 _ _ (Kd.C_below HR1.out (by repeat (first | (with_reducible exact HB.out) | apply below_alloc | apply pw_below_drewN | apply below_drew | (refine below_set ?_ (by simp)) | (refine below_set ?_ hg0) | (refine below_set ?_ hgw)))) hc1 HC.out).mono ?_); rintro e w' ⟨rfl, ⟨nd, rfl⟩⟩))
            go_roundw
            case rel => exact ⟨i + 1, tick, woke, ⟨by omega⟩, ⟨by omega⟩, by first | rfl | go_num, rfl, ⟨HWL.out⟩, ⟨by rw [HF.out, HS.out]; rfl⟩, ⟨Kd.R_below HO.out (by repeat (first | (with_reducible exact HB9.out) | apply below_alloc | apply pw_below_drewN | apply below_drew | (refine below_set ?_ (by simp)) | (refine below_set ?_ hg0) | (refine below_set ?_ hgw)))⟩, ⟨(by repeat (first | (with_reducible exact HB.out) | apply below_alloc | apply pw_below_drewN | apply below_drew | (refine below_set ?_ (by simp)) | (refine below_set ?_ hg0) | (refine below_set ?_ hgw)))⟩, ⟨(by repeat (first | (with_reducible exact HB3.out) | apply below_alloc | apply pw_below_drewN | apply below_drew | (refine below_set ?_ (by simp)) | (refine below_set ?_ hg0) | (refine below_set ?_ hgw)))⟩⟩
            case measure => have := HI0.out; simp [intOf]; omega


    · have d1 : decide (i < (l.length : Int)) = false := decide_eq_false hil
      have hE := HF.out
      rw [List.drop_of_length_le (show l.length ≤ i.toNat by have := HI0.out; omega), winGo] at hE
      have HE := Aside0.mk hE
      clear hE
      obtain ⟨_, hcap, hCC⟩ := Kd.R_reads' HO.out
      have HLn := Aside0.mk HWL.out.symm
      have hCK := containsb_calls (some ⟨g, 0, none⟩) cap woke wr hCC (by rw [← HLn.out]; exact hcap) (by rw [HWL.out, HN1.out]; omega)
      have HCK := Aside0.mk hCK
      clear hCC hCK hcap
      have HW2 : Aside0 (∀ x, (anyF woke = x) → FIN = (tick && !x)) := ⟨fun x h => by rw [HE.out, h]⟩
      generalize anyF woke = cf at HCK HW2
      cases tick
      · go_wp2
        go_ret
        exact ⟨by rw [HW2.out _ rfl]; rfl, HB.out⟩
      · go_wp2_with (go_at_call 74; (with_reducible refine HCK.out.mono ?_); rintro e w' ⟨rfl, rfl⟩)
        go_ret
        exact ⟨by rw [HW2.out _ rfl]; rfl, HB.out⟩
end Go.Proofs.Ytiobphijbpdolaa.P
