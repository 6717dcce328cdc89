/- However often it rots, an image parts from the right one in just one byte: by our machine's rules. No condition. -/
import Derived.Test.YtffokmamcempgaaDisk
import Derived.Test.YtffokmamcempgaaAMIn
import Derived.Test.YtffokmamcempgaaKinds
namespace Go.Proofs.Ytffokmamcempgaa.P
open Go Go.RowKit Go.Proofs.Ytffokmamcempgaa.AM Go.Proofs.YtffokmamcempgaaW.PrintWords
set_option linter.unusedVariables false
set_option linter.unusedSimpArgs false
set_option maxRecDepth 100000
/-! the disk of the small configuration -/
def startH (us vs : List Value) : Heap := inHeap [(3, us), (3, vs)]
noncomputable def setupR (us vs : List Value) : Option ((Value × Heap) × (Value × Heap)) := (cf 100 37 [] (startH us vs)).bind fun r => (cf 100 36 [r.1, .int .i64 1] r.2).map fun q => (r, q)
def goodL : List UInt8 := [73, 78, 75, 49, 0, 2, 0, 0, 2, 0, 0, 0, 97, 0, 1, 0, 0, 0, 98, 0, 1, 1, 0, 0, 100, 108, 150, 133]
def bEq : List Value → List UInt8 → Bool
  | [], [] => true
  | .int .u8 (.ofNat a) :: l, b :: m => match Nat.beq a b.toNat with | true => bEq l m | false => false
  | _, _ => false
theorem bEq_eq : ∀ {l : List Value} {m : List UInt8}, bEq l m = true → l = byteCells m
  | [], [], _ => rfl
  | .int .u8 (.ofNat a) :: l, b :: m, h => by
    unfold bEq at h
    split at h
    · rename_i hb
      rw [bEq_eq h, Nat.eq_of_beq_eq_true hb]
      rfl
    · cases h
theorem new_a (us vs : List Value) : ((setupR us vs).map fun r => (r.2.1, r.2.2.get 0, r.2.2.get 1, r.2.2.get 13, r.2.2.get 12)) = some (.tuple #[.pointer (some ⟨13, 0, none⟩), .int .i64 0], some (.cells false 3 us), some (.cells false 3 vs), some (.cells true 85 [.map (some 12), .int .i64 0]), some (.map [⟨.int .i64 0, .pointer (some ⟨182, 0, none⟩), 0⟩] 1)) := by kernel_rfl
theorem new_b (us vs : List Value) : ((setupR us vs).map fun r => r.2.2.get 182) = some (some (.cells true 81 [.slice (some ⟨179, 0, none⟩) 28 U, .slice (some ⟨181, 0, none⟩) 28 U])) := by kernel_rfl
def two (r : (Value × Heap) × (Value × Heap)) : Bool × Bool := match r.2.2.get 179, r.2.2.get 181 with
  | some (.cells true 5 l), some (.cells true 5 m) => (bEq l goodL, bEq m goodL)
  | _, _ => (false, false)
theorem new_c (us vs : List Value) : ((setupR us vs).map two) = some (true, true) := by kernel_rfl
theorem two_ok {r : (Value × Heap) × (Value × Heap)} (h : two r = (true, true)) : r.2.2.get 179 = some (.cells true 5 (byteCells goodL)) ∧ r.2.2.get 181 = some (.cells true 5 (byteCells goodL)) := by
  unfold two at h
  split at h
  · rename_i l m h1 h2
    simp only [Prod.mk.injEq] at h
    rw [h1, h2, bEq_eq h.1, bEq_eq h.2]
    exact ⟨rfl, rfl⟩
  · cases h
def imgOf (now : List UInt8) : Img := ⟨0, 182, 0, goodL, now⟩
theorem look_one (now : List UInt8) : lookI [imgOf now] 0 = some (imgOf now) := by simp [lookI, imgOf]
theorem keep_one (now now' : List UInt8) : [imgOf now].map (keepNow 182 now') = [imgOf now'] := by simp [keepNow, imgOf]
theorem setup (us vs : List Value) : ∃ vc Hc Hn, cf 100 37 [] (startH us vs) = some (vc, Hc) ∧ cf 100 36 [vc, .int .i64 1] Hc = some (.tuple #[.pointer (some ⟨13, 0, none⟩), .int .i64 0], Hn) ∧
    DiskAt Hn 13 12 1 0 [imgOf goodL] ∧ Hn.get 0 = some (.cells false 3 us) ∧ Hn.get 1 = some (.cells false 3 vs) := by
  have h2 := new_a us vs
  have h4 := new_b us vs
  have h5 := new_c us vs
  simp only [Option.map_eq_some_iff, Prod.mk.injEq] at h2
  obtain ⟨⟨⟨vc, Hc⟩, v, Hn⟩, h3, e0, e1, e2, e3, e4⟩ := h2
  rw [h3] at h4 h5
  have e5 : Hn.get 182 = some (.cells true 81 [.slice (some ⟨179, 0, none⟩) 28 U, .slice (some ⟨181, 0, none⟩) 28 U]) := Option.some.inj h4
  obtain ⟨e6, e7⟩ := two_ok (Option.some.inj h5)
  have e6 : Hn.get 179 = some (.cells true 5 (byteCells goodL)) := e6
  have e7 : Hn.get 181 = some (.cells true 5 (byteCells goodL)) := e7
  have e0 : v = .tuple #[.pointer (some ⟨13, 0, none⟩), .int .i64 0] := e0
  have e1 : Hn.get 0 = some (.cells false 3 us) := e1
  have e2 : Hn.get 1 = some (.cells false 3 vs) := e2
  subst e0
  simp only [setupR, Option.bind_eq_some_iff, Option.map_eq_some_iff] at h3
  obtain ⟨r1, h1, r2, h3, e⟩ := h3
  cases e
  have w0 : WF (startH us vs) := inHeap_wf _
  have w1 : WF Hn := (call_keeps env2_ok 100 _ _ _ _ _ h3).wf ((call_keeps env2_ok 100 _ _ _ _ _ h1).wf w0)
  refine ⟨vc, Hc, Hn, h1, h3, ⟨w1, e3, e4, fun i hi => ?_, by simp⟩, e1, e2⟩
  rw [List.mem_singleton.1 hi]
  exact ⟨⟨_, _, e5, Row.fresh (bytes_len goodL) e6, Row.fresh (bytes_len goodL) e7⟩, by decide, by decide⟩
theorem rot_differs (at_ x : Int) (l : List UInt8) (j : Nat) (hj : j < l.length) : ((rotL l at_ x)[j]? ≠ l[j]?) ↔ j = lowN at_ l.length := by
  have hk := low_lt at_ (show 0 < l.length by omega)
  by_cases h : j = lowN at_ l.length
  · rw [← h]
    refine ⟨fun _ => rfl, fun _ e => ?_⟩
    rw [rotL, ← h, List.getElem?_set_self hj, List.getElem?_eq_getElem hj, List.getD_eq_getElem?_getD, List.getElem?_eq_getElem hj, Option.getD_some] at e
    have e2 : l[j] ^^^ rotB x = l[j] := Option.some.inj e
    have e3 : rotB x = 0 := by
      have := congrArg (l[j] ^^^ ·) e2
      simpa [← UInt8.xor_assoc] using this
    have := rotB_nat x
    rw [e3] at this
    have h0 : (0 : UInt8).toNat = 0 := rfl
    omega
  · refine ⟨fun q => ?_, fun e => (h e).elim⟩
    rw [rotL, List.getElem?_set_ne (fun e => h e.symm)] at q
    exact (q rfl).elim
theorem once_runs {ru rv : InRow} {us vs : List Int} {W : World} (hu : InSl W ru.A ru.n ru.c) (hv : InSl W rv.A rv.n rv.c) (eu : ru.e = 3 ∧ ru.sz = 1 ∧ ru.n = us.length ∧ ru.vs = us.map (Value.int .i64)) (ev : rv.e = 3 ∧ rv.sz = 1 ∧ rv.n = vs.length ∧ rv.vs = vs.map (Value.int .i64)) (hnu : us.length < 9223372036854775807) (hnv : vs.length < 9223372036854775807) :
    Runs (cf 101) 5 [absV ru 0, absV rv 1] (inHeap (rowsOf [ru, rv])) fun v _ => v = .bool true := by
  obtain ⟨Au, nu, cu, eu', su, lu⟩ := ru
  obtain ⟨Av, nv, cv, ev', sv, lv⟩ := rv
  obtain ⟨rfl, rfl, rfl, rfl⟩ := eu
  obtain ⟨rfl, rfl, rfl, rfl⟩ := ev
  obtain ⟨vc, Hc, Hn, hc, hn, hd, hg0, hg1⟩ := setup (us.map (Value.int .i64)) (vs.map (Value.int .i64))
  have ru : Row Hn 3 1 (absV ⟨Au, us.length, cu, 3, 1, us.map (Value.int .i64)⟩ 0) us.length (us.map (Value.int .i64)) := Row.abs (r := ⟨Au, us.length, cu, 3, 1, us.map (Value.int .i64)⟩) hu (by simp) hg0
  have rv : Row Hn 3 1 (absV ⟨Av, vs.length, cv, 3, 1, vs.map (Value.int .i64)⟩ 1) vs.length (vs.map (Value.int .i64)) := Row.abs (r := ⟨Av, vs.length, cv, 3, 1, vs.map (Value.int .i64)⟩) hv (by simp) hg1
  have hstart : inHeap (rowsOf [⟨Au, us.length, cu, 3, 1, us.map (Value.int .i64)⟩, ⟨Av, vs.length, cv, 3, 1, vs.map (Value.int .i64)⟩]) = startH (us.map (Value.int .i64)) (vs.map (Value.int .i64)) := rfl
  rw [hstart]
  generalize absV ⟨Au, us.length, cu, 3, 1, us.map (Value.int .i64)⟩ 0 = u at ru ⊢
  generalize absV ⟨Av, vs.length, cv, 3, 1, vs.map (Value.int .i64)⟩ 1 = v at rv ⊢
  obtain ⟨ua, uc, hu1⟩ := ru.isSlice
  obtain ⟨va, vc', hv1⟩ := rv.isSlice
  by_cases hbig : 20 < us.length
  · skip
    refine Runs.enter rfl rfl rfl ?_
    refine XC.then_ops ?_
    refine XO.op (o_move rfl) ?_
    refine XO.nil ?_
    refine XC.assoc ?_
    refine XC.then_ops ?_
    refine XO.op (o_move rfl) ?_
    refine XO.op (o_lenRow (by rw [hu1]; rfl)) ?_
    refine XO.op (o_gtr (q := true) rfl rfl (decide_eq_true (by omega))) ?_
    refine XO.op (o_move rfl) ?_
    first | refine XO.run rfl (o_move rfl) ?_ | refine XO.pass rfl rfl ?_
    first | refine XO.run rfl (o_lenRow rfl) ?_ | refine XO.pass rfl rfl ?_
    first | refine XO.run rfl (o_move rfl) ?_ | refine XO.pass rfl rfl ?_
    first | refine XO.run rfl (o_lenRow rfl) ?_ | refine XO.pass rfl rfl ?_
    first | refine XO.run rfl (o_lss rfl rfl rfl) ?_ | refine XO.pass rfl rfl ?_
    refine XO.op (by first | exact o_pick_t rfl rfl | exact o_pick_f rfl rfl) ?_
    refine XO.nil ?_
    refine XC.push_t rfl ?_
    refine XC.assoc ?_
    refine XC.then_ops ?_
    refine XO.op (o_call rfl (awake14_cf 99 _)) ?_
    refine XO.op (o_move rfl) ?_
    refine XO.nil ?_
    refine XC.then_ret ?_
    refine ⟨_, rfl, ?_⟩
    exact rfl
  by_cases hshort : vs.length < us.length
  · skip
    refine Runs.enter rfl rfl rfl ?_
    refine XC.then_ops ?_
    refine XO.op (o_move rfl) ?_
    refine XO.nil ?_
    refine XC.assoc ?_
    refine XC.then_ops ?_
    refine XO.op (o_move rfl) ?_
    refine XO.op (o_lenRow (by rw [hu1]; rfl)) ?_
    refine XO.op (o_gtr (q := false) rfl rfl (decide_eq_false (by omega))) ?_
    refine XO.op (o_move rfl) ?_
    first | refine XO.run rfl (o_move rfl) ?_ | refine XO.pass rfl rfl ?_
    first | refine XO.run rfl (o_lenRow (by rw [hv1]; rfl)) ?_ | refine XO.pass rfl rfl ?_
    first | refine XO.run rfl (o_move rfl) ?_ | refine XO.pass rfl rfl ?_
    first | refine XO.run rfl (o_lenRow (by rw [hu1]; rfl)) ?_ | refine XO.pass rfl rfl ?_
    first | refine XO.run rfl (o_lss (q := true) rfl rfl (decide_eq_true (by omega))) ?_ | refine XO.pass rfl rfl ?_
    refine XO.op (by first | exact o_pick_t rfl rfl | exact o_pick_f rfl rfl) ?_
    refine XO.nil ?_
    refine XC.push_t rfl ?_
    refine XC.assoc ?_
    refine XC.then_ops ?_
    refine XO.op (o_call rfl (awake14_cf 99 _)) ?_
    refine XO.op (o_move rfl) ?_
    refine XO.nil ?_
    refine XC.then_ret ?_
    refine ⟨_, rfl, ?_⟩
    exact rfl
  have hlg : goodL.length = 28 := rfl
  refine Runs.enter rfl rfl rfl ?_
  refine XC.then_ops ?_
  refine XO.op (o_move rfl) ?_
  refine XO.nil ?_
  refine XC.assoc ?_
  refine XC.then_ops ?_
  refine XO.op (o_move rfl) ?_
  refine XO.op (o_lenRow (by rw [hu1]; rfl)) ?_
  refine XO.op (o_gtr (q := false) rfl rfl (decide_eq_false (by omega))) ?_
  refine XO.op (o_move rfl) ?_
  first | refine XO.run rfl (o_move rfl) ?_ | refine XO.pass rfl rfl ?_
  first | refine XO.run rfl (o_lenRow (by rw [hv1]; rfl)) ?_ | refine XO.pass rfl rfl ?_
  first | refine XO.run rfl (o_move rfl) ?_ | refine XO.pass rfl rfl ?_
  first | refine XO.run rfl (o_lenRow (by rw [hu1]; rfl)) ?_ | refine XO.pass rfl rfl ?_
  first | refine XO.run rfl (o_lss (q := false) rfl rfl (decide_eq_false (by omega))) ?_ | refine XO.pass rfl rfl ?_
  refine XO.op (by first | exact o_pick_t rfl rfl | exact o_pick_f rfl rfl) ?_
  refine XO.nil ?_
  refine XC.push_f rfl ?_
  refine XC.then_skip ?_
  refine XC.then_ops ?_
  refine XO.op (o_call rfl hc) ?_
  refine XO.op (o_call rfl hn) ?_
  refine XO.op (o_move rfl) ?_
  refine XO.op (o_extract rfl rfl) ?_
  refine XO.op (o_extract rfl rfl) ?_
  refine XO.op (o_move rfl) ?_
  refine XO.op (o_move rfl) ?_
  refine XO.nil ?_
  refine XC.assoc ?_
  refine XC.then_ops ?_
  refine XO.op (o_move rfl) ?_
  refine XO.op (o_neq rfl rfl rfl) ?_
  refine XO.op (o_move rfl) ?_
  first | refine XO.run rfl (o_move rfl) ?_ | refine XO.pass rfl rfl ?_
  first | refine XO.run rfl (o_eqNil rfl rfl rfl) ?_ | refine XO.pass rfl rfl ?_
  refine XO.op (by first | exact o_pick_t rfl rfl | exact o_pick_f rfl rfl) ?_
  refine XO.nil ?_
  refine XC.push_f rfl ?_
  refine XC.then_skip ?_
  refine XC.then_ops ?_
  refine XO.op (o_move rfl) ?_
  obtain ⟨w1, G1, g1, hr1⟩ := read_runs (n := 98) hd 0
  rw [look_one] at hr1
  obtain ⟨vr, rfl, hrow, hold, -⟩ := hr1
  have hrow : bRow G1 vr goodL := hrow
  have hd1 := hd.old hold
  have ru1 := ru.old hd.wf hold
  have rv1 := rv.old hd.wf hold
  clear hold ru rv hd hc hn hg0 hg1
  obtain ⟨vra, vrc, hvr1⟩ := hrow.isSlice
  refine XO.op (o_call rfl g1) ?_
  refine XO.op (o_move rfl) ?_
  refine XO.op (o_extract rfl rfl) ?_
  refine XO.op (o_extract rfl rfl) ?_
  refine XO.op (o_move rfl) ?_
  refine XO.op (o_move rfl) ?_
  refine XO.nil ?_
  refine XC.assoc ?_
  refine XC.then_ops ?_
  refine XO.op (o_move rfl) ?_
  refine XO.nil ?_
  refine XC.then_block ?_
  refine XC.sb (K := [(9, .int .i64 ((0 : Nat) : Int)), (0, u), (1, v), (5, .pointer (some ⟨13, 0, none⟩)), (7, vr)]) (Sb.cons rfl (Sb.cons rfl (Sb.cons rfl (Sb.cons rfl (Sb.cons rfl (Sb.nil _)))))) ?_
  refine XC.loop (fun m L G => ∃ (j : Nat) (now : List UInt8), L = [(9, .int .i64 (j : Int)), (0, u), (1, v), (5, .pointer (some ⟨13, 0, none⟩)), (7, vr)] ∧ DiskAt G 13 12 1 0 [imgOf now] ∧ bRow G vr goodL ∧ Row G 3 1 u us.length (us.map (Value.int .i64)) ∧ Row G 3 1 v vs.length (vs.map (Value.int .i64)) ∧ m + j = us.length) ⟨0, goodL, rfl, hd1, hrow, ru1, rv1, rfl⟩ (by show us.length < 9223372036854775808; omega) ?_
  clear hd1 hrow ru1 rv1
  rintro m L G ⟨j, now, rfl, hd, hrow, ru, rv, hm⟩
  refine XC.assoc ?_
  refine XC.then_ops ?_
  refine XO.op (o_move rfl) ?_
  refine XO.op (o_move rfl) ?_
  refine XO.op (o_lenRow (by rw [hu1]; rfl)) ?_
  refine XO.op (o_lss rfl rfl rfl) ?_
  refine XO.nil ?_
  refine XC.pushIf rfl (fun hc46 => ?_) (fun hc46 => ?_)
  · skip
    have hj : j < us.length := by omega
    obtain ⟨bu, ou, cu, wu, alu, xu, eu, gu, iu, pu⟩ := ru.one hj
    obtain ⟨bv, ov, cv, wv, alv, xv, ev, gv, iv, pv⟩ := rv.one (show j < vs.length by omega)
    rw [List.getElem?_map, List.getElem?_eq_getElem hj] at iu
    rw [List.getElem?_map, List.getElem?_eq_getElem (show j < vs.length by omega)] at iv
    cases iu
    cases iv
    refine XC.then_skip ?_
    refine XC.then_block ?_
    refine XC.assoc ?_
    refine XC.then_draw ?_
    refine XD.pure (o_move rfl) ?_
    refine XD.pure (o_move rfl) ?_
    refine XD.pure (o_move rfl) ?_
    refine XD.pure (o_indexAddr (by rw [eu]; rfl) rfl hj) ?_
    refine XD.pure (o_load rfl gu pu) ?_
    refine XD.pure (o_move rfl) ?_
    refine XD.pure (o_move rfl) ?_
    refine XD.pure (o_indexAddr (by rw [ev]; rfl) rfl (by omega)) ?_
    refine XD.pure (o_load rfl gv pv) ?_
    obtain ⟨w2, G2, g2, hr2⟩ := rot_runs (n := 98) hd.noWl 0 us[j] vs[j] (fun i hi => by rw [look_one] at hi; cases hi; show 0 < goodL.length; omega)
    rw [look_one] at hr2
    obtain ⟨rfl, hd2, hb2⟩ := hr2
    rw [show (imgOf now).x = 182 from rfl, keep_one] at hd2
    have hx5 : ∀ (own : Bool) (all : List Value), G.get 182 ≠ some (.cells own 5 all) := fun own all h => by
      obtain ⟨⟨vg, vn, hg, -⟩, -⟩ := hd.img (imgOf now) (List.mem_singleton.2 rfl)
      rw [show (imgOf now).x = 182 from rfl, h] at hg
      cases hg
    have hx3 : ∀ (own : Bool) (all : List Value), G.get 182 ≠ some (.cells own 3 all) := fun own all h => by
      obtain ⟨⟨vg, vn, hg, -⟩, -⟩ := hd.img (imgOf now) (List.mem_singleton.2 rfl)
      rw [show (imgOf now).x = 182 from rfl, h] at hg
      cases hg
    have hd3 := hd2.addWl G
    have hb3 : But G (addWl G2 G) 182 := (But.ofNoWl hb2).addWl G
    have hrow3 := hrow.but hd.wf hb3 hx5
    have ru3 := ru.but hd.wf hb3 hx3
    have rv3 := rv.but hd.wf hb3 hx3
    refine XD.op (o_call rfl g2) ?_
    generalize addWl G2 G = G3 at hd3 hb3 hrow3 ru3 rv3 ⊢
    clear hb3 hb2 hd2 hd hrow ru rv g2 gu gv eu ev pu pv
    refine XD.pure (o_neq rfl rfl rfl) ?_
    refine XD.nil ?_
    refine XC.push_f rfl ?_
    refine XC.then_skip ?_
    refine XC.then_ops ?_
    refine XO.op (o_move rfl) ?_
    obtain ⟨w4, G4, g4, hr4⟩ := read_runs (n := 98) hd3 0
    rw [look_one] at hr4
    obtain ⟨vb, rfl, hrb, hold, -⟩ := hr4
    have hrb : bRow G4 vb (rotL goodL us[j] vs[j]) := hrb
    have hrl : (rotL goodL us[j] vs[j]).length = 28 := by simp [rotL, hlg]
    have hd4 := hd3.old hold
    have hrow4 := hrow3.old hd3.wf hold
    have ru4 := ru3.old hd3.wf hold
    have rv4 := rv3.old hd3.wf hold
    clear hold hd3 hrow3 ru3 rv3
    obtain ⟨vba, vbc, hvb1⟩ := hrb.isSlice
    obtain ⟨bu, ou, cu, wu, alu, xu, eu, gu, iu, pu⟩ := ru4.one hj
    rw [List.getElem?_map, List.getElem?_eq_getElem hj] at iu
    cases iu
    refine XO.op (o_call rfl g4) ?_
    refine XO.op (o_move rfl) ?_
    refine XO.op (o_extract rfl rfl) ?_
    refine XO.op (o_extract rfl rfl) ?_
    refine XO.op (o_move rfl) ?_
    refine XO.op (o_move rfl) ?_
    refine XO.nil ?_
    refine XC.assoc ?_
    refine XC.then_ops ?_
    refine XO.op (o_move rfl) ?_
    refine XO.op (o_lenRow (by rw [hvb1]; rfl)) ?_
    refine XO.op (o_move rfl) ?_
    refine XO.op (o_lenRow (by rw [hvr1]; rfl)) ?_
    refine XO.op (o_neq (q := false) rfl rfl (by rw [hrl, hlg]; rfl)) ?_
    refine XO.op (o_move rfl) ?_
    first | refine XO.run rfl (o_move rfl) ?_ | refine XO.pass rfl rfl ?_
    first | refine XO.run rfl (o_lenRow (by rw [hvb1]; rfl)) ?_ | refine XO.pass rfl rfl ?_
    first | refine XO.run rfl (o_eql (q := false) rfl rfl (by rw [hrl]; rfl)) ?_ | refine XO.pass rfl rfl ?_
    refine XO.op (by first | exact o_pick_t rfl rfl | exact o_pick_f rfl rfl) ?_
    refine XO.nil ?_
    refine XC.push_f rfl ?_
    refine XC.then_skip ?_
    refine XC.then_ops ?_
    refine XO.op (o_move rfl) ?_
    refine XO.op (o_move rfl) ?_
    refine XO.op (o_indexAddr (by rw [eu]; rfl) rfl hj) ?_
    refine XO.op (o_load rfl gu pu) ?_
    refine XO.op (o_move rfl) ?_
    refine XO.op (o_lenRow (by rw [hvb1]; rfl)) ?_
    obtain ⟨w5, G5, g5, rfl, rfl⟩ := low_runs (n := 99) (H := G4) us[j] (k := (rotL goodL us[j] vs[j]).length) (by omega) (by omega)
    refine XO.op (o_call rfl g5) ?_
    refine XO.op (o_move rfl) ?_
    refine XO.nil ?_
    refine XC.then_ops ?_
    refine XO.op (o_move rfl) ?_
    refine XO.nil ?_
    refine XC.block ?_
    refine XC.sb (K := [(13, .int .i64 ((0 : Nat) : Int)), (10, vb), (12, .int .i64 (lowN us[j] (rotL goodL us[j] vs[j]).length : Int)), (9, .int .i64 (j : Int)), (0, u), (1, v), (5, .pointer (some ⟨13, 0, none⟩)), (7, vr)]) (Sb.cons rfl (Sb.cons rfl (Sb.cons rfl (Sb.cons rfl (Sb.cons rfl (Sb.cons rfl (Sb.cons rfl (Sb.cons rfl (Sb.nil _))))))))) ?_
    refine XC.loop (fun m L G => ∃ q : Nat, L = [(13, .int .i64 (q : Int)), (10, vb), (12, .int .i64 (lowN us[j] (rotL goodL us[j] vs[j]).length : Int)), (9, .int .i64 (j : Int)), (0, u), (1, v), (5, .pointer (some ⟨13, 0, none⟩)), (7, vr)] ∧ G = G5 ∧ m + q = 28) ⟨0, rfl, rfl, rfl⟩ (by show 28 < 9223372036854775808; omega) ?_
    rintro m2 L2 G6 ⟨q, rfl, rfl, hm2⟩
    refine XC.assoc ?_
    refine XC.then_ops ?_
    refine XO.op (o_move rfl) ?_
    refine XO.op (o_move rfl) ?_
    refine XO.op (o_lenRow (by rw [hvb1]; rfl)) ?_
    refine XO.op (o_lss rfl rfl rfl) ?_
    refine XO.nil ?_
    refine XC.pushIf rfl (fun hc85 => ?_) (fun hc85 => ?_)
    · skip
      have hq : q < 28 := by omega
      obtain ⟨b1, o1, c1, w1, al1, x1, e1, ga1, i1, p1⟩ := hrb.one (show q < (rotL goodL us[j] vs[j]).length by omega)
      obtain ⟨b2, o2, c2, w2, al2, x2, e2, ga2, i2, p2⟩ := hrow4.one (show q < goodL.length by omega)
      rw [bytes_at _ (show q < (rotL goodL us[j] vs[j]).length by omega)] at i1
      rw [bytes_at _ (show q < goodL.length by omega)] at i2
      cases i1
      cases i2
      have hdf := rot_differs us[j] vs[j] goodL q (by omega)
      rw [List.getElem?_eq_getElem (show q < (rotL goodL us[j] vs[j]).length by omega), List.getElem?_eq_getElem (show q < goodL.length by omega)] at hdf
      refine XC.then_skip ?_
      refine XC.then_block ?_
      refine XC.then_draw ?_
      refine XD.pure (o_move rfl) ?_
      refine XD.pure (o_move rfl) ?_
      refine XD.pure (o_indexAddr (by rw [e1]; rfl) rfl (by omega)) ?_
      refine XD.pure (o_load rfl ga1 p1) ?_
      refine XD.pure (o_move rfl) ?_
      refine XD.pure (o_move rfl) ?_
      refine XD.pure (o_indexAddr (by rw [e2]; rfl) rfl (by omega)) ?_
      refine XD.pure (o_load rfl ga2 p2) ?_
      refine XD.pure (o_neq rfl rfl (u8_ne _ _)) ?_
      refine XD.pure (o_move rfl) ?_
      refine XD.pure (o_move rfl) ?_
      refine XD.pure (o_eql (q := decide ((q : Nat) = lowN us[j] (rotL goodL us[j] vs[j]).length)) rfl rfl (by rw [Bool.eq_iff_iff]; simp only [beq_iff_eq, decide_eq_true_eq]; omega)) ?_
      refine XD.pure (o_bin (v := .bool false) rfl rfl (by rw [neq_bool, show (decide ((rotL goodL us[j] vs[j])[q] ≠ goodL[q]) != decide (q = lowN us[j] (rotL goodL us[j] vs[j]).length)) = false from by rw [bne_eq_false_iff_eq, decide_eq_decide, show lowN us[j] (rotL goodL us[j] vs[j]).length = lowN us[j] goodL.length by rw [hrl, hlg], ← hdf]; simp; exact Iff.rfl])) ?_
      refine XD.nil ?_
      refine XC.cond_f rfl ?_
      refine XC.skip ?_
      refine blk_n ?_
      refine then_n ?_
      refine XC.ops ?_
      refine XO.op (o_move rfl) ?_
      refine XO.op (o_add (r := ((q + 1 : Nat) : Int)) rfl rfl (by rw [w64 (by omega) (by omega)]; omega)) ?_
      refine XO.op (o_move rfl) ?_
      refine XO.nil ?_
      refine ⟨m2 - 1, _, by omega, Sb.cons rfl (Sb.cons rfl (Sb.cons rfl (Sb.cons rfl (Sb.cons rfl (Sb.cons rfl (Sb.cons rfl (Sb.cons rfl (Sb.nil _)))))))), q + 1, rfl, rfl, by omega⟩
    · skip
      refine XC.then_exit ?_
      refine blk_x rfl ?_
      refine blk_n ?_
      refine then_n ?_
      refine XC.ops ?_
      refine XO.op (o_move rfl) ?_
      refine XO.op (o_add (r := ((j + 1 : Nat) : Int)) rfl rfl (by rw [w64 (by omega) (by omega)]; omega)) ?_
      refine XO.op (o_move rfl) ?_
      refine XO.nil ?_
      refine ⟨m - 1, _, by omega, Sb.cons rfl (Sb.cons rfl (Sb.cons rfl (Sb.cons rfl (Sb.cons rfl (Sb.nil _))))), j + 1, _, rfl, hd4, hrow4, ru4, rv4, by omega⟩
  · skip
    refine XC.then_exit ?_
    refine blk_x rfl ?_
    refine then_n ?_
    refine XC.then_ops ?_
    refine XO.op (o_move rfl) ?_
    obtain ⟨w2, G2, g2, hr2⟩ := mend_runs (n := 98) hd 0
    rw [look_one] at hr2
    obtain ⟨rfl, hd2, hb2⟩ := hr2
    rw [show (imgOf now).x = 182 from rfl, keep_one] at hd2
    have hx5 : ∀ (own : Bool) (all : List Value), G.get 182 ≠ some (.cells own 5 all) := fun own all h => by
      obtain ⟨⟨vg, vn, hg, -⟩, -⟩ := hd.img (imgOf now) (List.mem_singleton.2 rfl)
      rw [show (imgOf now).x = 182 from rfl, h] at hg
      cases hg
    have hrow2 := hrow.but hd.wf hb2 hx5
    refine XO.op (o_call rfl g2) ?_
    refine XO.nil ?_
    refine XC.then_ops ?_
    refine XO.op (o_move rfl) ?_
    obtain ⟨w4, G4, g4, hr4⟩ := read_runs (n := 98) hd2 0
    rw [look_one] at hr4
    obtain ⟨vb, rfl, hrb, hold, -⟩ := hr4
    have hrow4 := hrow2.old hd2.wf hold
    refine XO.op (o_call rfl g4) ?_
    refine XO.op (o_move rfl) ?_
    refine XO.op (o_extract rfl rfl) ?_
    refine XO.op (o_extract rfl rfl) ?_
    refine XO.op (o_move rfl) ?_
    refine XO.op (o_move rfl) ?_
    refine XO.nil ?_
    refine XC.then_ops ?_
    refine XO.op (o_move rfl) ?_
    refine XO.op (o_move rfl) ?_
    obtain ⟨w5, G5, g5, rfl, rfl⟩ := sameBytes_runs (n := 99) hrb hrow4 (by show goodL.length < _; omega) (by omega)
    rw [show decide ((imgOf (imgOf now).good).now = goodL) = true from decide_eq_true rfl] at g5
    refine XO.op (o_call rfl g5) ?_
    refine XO.op (o_move rfl) ?_
    refine XO.run rfl (o_call rfl (awake14_cf 99 _)) ?_
    refine XO.op (by first | exact o_pick_t rfl rfl | exact o_pick_f rfl rfl) ?_
    refine XO.op (o_move rfl) ?_
    refine XO.nil ?_
    refine XC.ret ?_
    refine ⟨_, rfl, ?_⟩
    exact rfl
theorem ints_ok {W : World} {A : Option Addr} {c base : Nat} {l : List Int} (hr : Kd.C (Kd.int .i64) W A l.length l) (hv : Value.okWide Try.prog W .any base 28 (.slice A l.length c)) :
    RowOk Try.prog W ⟨A, l.length, c, 3, 1, l.map (Value.int .i64)⟩ := by
  have h := rowOk_of (P := Try.prog) (e := 3) (enc := fun x => [Value.int .i64 x]) hr (okWide_in Try.underlying28 hv) (fun x cs h => by obtain ⟨rfl⟩ := h; rfl) (fun _ => rfl) (by decide) (fun x v hv => by rw [List.mem_singleton.1 hv]; rfl) (by kernel_rfl)
  rwa [show (l.map fun x => [Value.int .i64 x]).flatten = l.map (Value.int .i64) from by clear h hr hv; induction l <;> simp_all] at h
theorem DiskOnce_walk (A0 : Option Addr) (c0 : Nat) (l0 : List Int) (A1 : Option Addr) (c1 : Nat) (l1 : List Int) (w : World) (hr0 : Kd.C (Kd.int .i64) w A0 l0.length l0) (hc0 : l0.length ≤ c0) (hr1 : Kd.C (Kd.int .i64) w A1 l1.length l1) (hc1 : l1.length ≤ c1)
    {base : Nat} (hv0 : Value.okWide Try.prog w .any base 28 (.slice A0 l0.length c0)) (hv1 : Value.okWide Try.prog w .any base 28 (.slice A1 l1.length c1)) (f0 : F28 l0) (f1 : F28 l1) :
    Calls Try.prog 5 #[.slice A0 l0.length c0, .slice A1 l1.length c1] w fun e w' => e = .returned (.bool true) ∧ Below w.heap.size w w' := by
  have h0 := ints_ok hr0 hv0
  have h1 := ints_ok hr1 hv1
  have hall : ∀ r ∈ [(⟨A0, l0.length, c0, 3, 1, l0.map (Value.int .i64)⟩ : InRow), ⟨A1, l1.length, c1, 3, 1, l1.map (Value.int .i64)⟩], RowOk Try.prog w r := fun r hr => by
    rcases List.mem_cons.1 hr with rfl | hr
    · exact h0
    · rw [List.mem_singleton.1 hr]; exact h1
  have hu : Int.ofNat l0.length * 8 ≤ 140737488351232 := by have := f0.1; simp only [Int.ofNat_eq_natCast]; omega
  have hv : Int.ofNat l1.length * 8 ≤ 140737488351232 := by have := f1.1; simp only [Int.ofNat_eq_natCast]; omega
  simp only [Int.ofNat_eq_natCast] at hu hv
  exact Runs.callsIn env2_ok hall (once_runs (W := w) h0.sl h1.sl ⟨rfl, rfl, rfl, rfl⟩ ⟨rfl, rfl, rfl, rfl⟩ (by omega) (by omega)) (LR.cons (row_VR hall rfl) (LR.cons (row_VR hall rfl) (LR.nil _))) rfl
end Go.Proofs.Ytffokmamcempgaa.P
