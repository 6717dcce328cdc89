/- inkhornlaw13.PlaceSpread returns true, whatever the configuration and the number; nothing is asked but sizes within the form's reach. -/
import Derived.Test.YtiobphijbpdolaaQ13
import Derived.Test.YtiobphijbpdolaaPx14
import Derived.Test.YtiobphijbpdolaaKinds
namespace Go.Proofs.Ytiobphijbpdolaa.P
open Go.RowKit Go.Proofs.YtiobphijbpdolaaW.PrintWords Go.Proofs.YtiobphijbpdolaaW.PrintLast Go.Proofs.YtiobphijbpdolaaW.PrintMore
set_option linter.unusedVariables false

/-- How many of n shards worker w keeps, of W workers, in C copies. -/
def cntK (n W C : Nat) (w : Int) : Nat := ((List.range n).filter fun s => (copiesL W C s).any fun y => decide (w = y)).length
def loK (n W C : Nat) : Nat → Nat
  | 0 => 100
  | i + 1 => min (loK n W C i) (cntK n W C ((i + 1 : Nat) : Int))
def hiK (n W C : Nat) : Nat → Nat
  | 0 => 0
  | i + 1 => max (hiK n W C i) (cntK n W C ((i + 1 : Nat) : Int))
def spreadB (n W C : Nat) : Bool := !(decide (1 ≤ n) && decide (1 ≤ W) && decide (1 ≤ C) && decide (C ≤ W)) || (decide (hiK n W C W ≤ C + loK n W C W) && decide (1 ≤ hiK n W C W))
theorem spread_tab : (List.range 7).all (fun n => (List.range 6).all fun W => (List.range 4).all fun C => spreadB n W C) = true := by decide +kernel
theorem spread_all (n : Nat) (hn : n < 7) (W : Nat) (hW : W < 6) (C : Nat) (hC : C < 4) (h1 : 1 ≤ n) (h2 : 1 ≤ W) (h3 : 1 ≤ C) (h4 : C ≤ W) : hiK n W C W ≤ C + loK n W C W ∧ 1 ≤ hiK n W C W := by
  have a := List.all_eq_true.1 (List.all_eq_true.1 (List.all_eq_true.1 spread_tab n (List.mem_range.2 hn)) W (List.mem_range.2 hW)) C (List.mem_range.2 hC)
  simpa [spreadB, h1, h2, h3, h4] using a
theorem cnt_none (n W C : Nat) (w : Int) (hW : 1 ≤ W) (h : w ≤ 0 ∨ (W : Int) < w) : cntK n W C w = 0 := by
  unfold cntK
  rw [List.length_eq_zero_iff, List.filter_eq_nil_iff]
  intro s _
  rw [List.any_eq_true]
  rintro ⟨y, hy, e⟩
  simp only [copiesL, List.mem_map, List.mem_range] at hy
  obtain ⟨j, _, rfl⟩ := hy
  have e2 := of_decide_eq_true e
  have := Nat.mod_lt (s + j) (show 0 < W by omega)
  omega
theorem keeps_cnt (c : Cfg) (h : mayB c = true) (w : Int) : (keepsOf c w).length = cntK (c.cs.length + 1) c.workers.toNat c.copies.toNat w := by
  have hsh : shards c = c.cs.length + 1 := by simp [shards, h]
  unfold keepsOf keepsUpto cntK
  rw [List.length_map, hsh]
  congr 1
  apply List.filter_congr
  intro s hs
  rw [List.mem_range] at hs
  rw [copiesOf, if_pos (by rw [hsh]; omega)]
  rfl
theorem spread_loop (c : Cfg) (hs : Sized c) (h : mayB c = true) (x : Int) (n W C : Nat) (hn : n = c.cs.length + 1) (hW : c.workers = W) (hC : c.copies = C) (d : Nat) : ∀ (i : Nat), i ≤ W → W - i = d →
    Ev (fun k => inkhornlaw13_PlaceSpread.l0 k x (loK n W C i : Int) (hiK n W C i : Int) ((i + 1 : Nat) : Int) c.ws c.cs c.workers c.copies c.slots c.batch c.lease c.hedge c.first c.cap c.jitter c.net) true := by
  have hb := may_cuts h
  have hk : ∀ w, (keepsOf c w).length = cntK n W C w := fun w => by rw [keeps_cnt c h w, hn, hW, hC]; rfl
  have hlo : ∀ i, loK n W C i ≤ 100 := by
    intro i
    induction i with
    | zero => exact Nat.le_refl _
    | succ i ih => rw [loK]; omega
  have hcn : ∀ w, cntK n W C w ≤ n := by
    intro w
    unfold cntK
    have := List.length_filter_le (fun s => (copiesL W C s).any fun y => decide (w = y)) (List.range n)
    rw [List.length_range] at this
    exact this
  have hhi : ∀ i, hiK n W C i ≤ 6 := by
    intro i
    induction i with
    | zero => exact Nat.zero_le _
    | succ i ih => rw [hiK]; have := hcn ((i + 1 : Nat) : Int); omega
  induction d with
  | zero =>
    intro i hi hd
    have e : i = W := by omega
    subst e
    have ha := spread_all n (by omega) i (by omega) C (by omega) (by omega) (by omega) (by omega) (by omega)
    have h1 := hlo i
    have h2 := hhi i
    refine Ev.step (f := fun k => (place_Keeps.f k c.ws c.cs c.workers c.copies c.slots c.batch c.lease c.hedge c.first c.cap c.jitter c.net 0).bind fun t275 => (if (t275.length : Int) = 0 then ((inkhornlaw0_Low.f x 100).bind fun t278 => ((place_Keeps.f k c.ws c.cs c.workers c.copies c.slots c.batch c.lease c.hedge c.first c.cap c.jitter c.net (wrap64 ((wrap64 (c.workers + 1)) + t278))).bind fun t279 => (if (t279.length : Int) = 0 then ((inkhornlaw13_awake.f k).bind fun t282 => (some t282)) else (some false)))) else (some false))) (fun k => ?_) ?_
    · simp only [inkhornlaw13_PlaceSpread.l0]
      rw [if_neg (by omega), wrap_small (i := (hiK n i C i : Int) - (loK n i C i : Int)) (by omega) (by omega), if_pos (by omega), if_pos (by omega)]
    · refine ev_bind (keeps_is c hs 0) (ev_if_pos (by rw [hk]; have := cnt_none n i C 0 (by omega) (by omega); omega) ?_)
      have hr := low_range x 100 (by omega)
      refine ev_bind (ev_const (low_is x 100 (by omega) (by omega))) ?_
      rw [wrap_small (i := c.workers + 1) (by omega) (by omega), wrap_small (by omega) (by omega)]
      refine ev_bind (keeps_is c hs _) (ev_if_pos (by rw [hk]; have := cnt_none n i C (c.workers + 1 + x % 18446744073709551616 % 100) (by omega) (by omega); omega) ?_)
      exact ev_bind awake13_is (Ev.now _)
  | succ d ih =>
    intro i hi hd
    refine Ev.step (f := fun k => (place_Keeps.f k c.ws c.cs c.workers c.copies c.slots c.batch c.lease c.hedge c.first c.cap c.jitter c.net ((i + 1 : Nat) : Int)).bind fun t272 => (inkhornlaw13_PlaceSpread.l0 k x (mn (loK n W C i : Int) (t272.length : Int)) (mx (hiK n W C i : Int) (t272.length : Int)) (wrap64 (((i + 1 : Nat) : Int) + 1)) c.ws c.cs c.workers c.copies c.slots c.batch c.lease c.hedge c.first c.cap c.jitter c.net)) (fun k => by simp only [inkhornlaw13_PlaceSpread.l0]; rw [if_pos (by omega)]) ?_
    refine ev_bind (keeps_is c hs _) ?_
    have := ih (i + 1) (by omega) (by omega)
    have e1 : mn (loK n W C i : Int) ((keepsOf c ((i + 1 : Nat) : Int)).length : Int) = (loK n W C (i + 1) : Int) := by
      rw [hk, mn_is, loK]
      omega
    have e2 : mx (hiK n W C i : Int) ((keepsOf c ((i + 1 : Nat) : Int)).length : Int) = (hiK n W C (i + 1) : Int) := by
      rw [hk, hiK]
      unfold mx
      omega
    rw [e1, e2, wrap_small (by omega) (by omega)]
    exact this
theorem PlaceSpread_pure (c : Cfg) (hm : c.ws.length ≤ 140737488355328) (hm2 : c.cs.length ≤ 140737488355328) (hs : Sized c) (x : Int) : Ev (fun k => inkhornlaw13_PlaceSpread.f k c.ws c.cs c.workers c.copies c.slots c.batch c.lease c.hedge c.first c.cap c.jitter c.net x) true := by
  unfold inkhornlaw13_PlaceSpread.f
  have hA : Ev (fun k => inkhornlaw13_PlaceSpread.j0 k x true c.ws c.cs c.workers c.copies c.slots c.batch c.lease c.hedge c.first c.cap c.jitter c.net) true :=
    Ev.step (f := fun k => (inkhornlaw13_awake.f k).bind fun t271 => some t271) (fun k => by simp only [inkhornlaw13_PlaceSpread.j0, if_true]) (ev_bind awake13_is (Ev.now _))
  refine ev_bind (greatC_is c hm hm2) ?_
  cases greatCfg c with
  | true => exact ev_if_pos rfl hA
  | false =>
    refine ev_if_neg (by simp) (ev_bind (may_is c hs) ?_)
    cases h : mayB c with
    | false => exact hA
    | true =>
      have hb := may_cuts h
      refine Ev.step (f := fun k => inkhornlaw13_PlaceSpread.l0 k x 100 0 1 c.ws c.cs c.workers c.copies c.slots c.batch c.lease c.hedge c.first c.cap c.jitter c.net) (fun k => by simp only [inkhornlaw13_PlaceSpread.j0, Bool.not_true, Bool.false_eq_true, if_false]) ?_
      exact spread_loop c hs h x (c.cs.length + 1) c.workers.toNat c.copies.toNat rfl (by omega) (by omega) c.workers.toNat 0 (by omega) (by omega)

def cfgOf (x : S43) : Cfg := ⟨x.f0, x.f1, x.f2, x.f3, x.f4, x.f5, x.f6, x.f7, x.f8, x.f9, x.f10, x.f11⟩
theorem cfg_sized {x : S43} (h : F43 x) : x.f0.length ≤ 140737488355328 ∧ x.f1.length ≤ 140737488355328 ∧ Sized (cfgOf x) := by
  have h0 := h.1.1
  have h1 := h.2.1.1
  refine ⟨by omega, by omega, fun s hs => ?_, fun k hk => ?_⟩
  · have := h.1.2 s hs
    unfold F9 at this
    omega
  · have := (h.2.1.2 k hk).2
    unfold F9 at this
    omega
theorem PlaceSpread_walk (A0 : Option Addr) (c0 : Nat) (A1 : Option Addr) (c1 : Nat) (x : S43) (a1 : Int) (w : World) (hr0 : Kd.C Kd.string w A0 x.f0.length x.f0) (hc0 : x.f0.length ≤ c0) (hr1 : Kd.C k24 w A1 x.f1.length x.f1) (hc1 : x.f1.length ≤ c1) (ff : F43 x) (f1 : (Lit.int .i64 a1).wf = true) :
    Calls Try.prog 6 #[.agg #[.slice A0 x.f0.length c0, .slice A1 x.f1.length c1, .int .i64 x.f2, .int .i64 x.f3, .int .i64 x.f4, .int .i64 x.f5, .int .i64 x.f6, .int .i64 x.f7, .int .i64 x.f8, .int .i64 x.f9, .int .i64 x.f10, .int .i64 x.f11], .int .i64 a1] w fun e w' => e = .returned (.bool true) ∧ Below w.heap.size w w' := by
  obtain ⟨h1, h2, h3⟩ := cfg_sized ff
  obtain ⟨k, hk⟩ := (PlaceSpread_pure (cfgOf x) h1 h2 h3 a1).rounds
  exact inkhornlaw13_PlaceSpread.calls k A0 c0 x.f0 A1 c1 x.f1 x.f2 x.f3 x.f4 x.f5 x.f6 x.f7 x.f8 x.f9 x.f10 x.f11 a1 true w hr0 hc0 hr1 hc1 hk
end Go.Proofs.Ytiobphijbpdolaa.P
