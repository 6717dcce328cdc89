/- Its epoch is that of the greatest Grant for it in this life: what the law answers, by our machine's rules. No condition. -/
import Derived.Test.YtkaaofamlgogcaaGreatWork
import Derived.Test.YtkaaofamlgogcaaGreatSmall
import Derived.Test.YtkaaofamlgogcaaGreatAMIn2
import Derived.Test.YtkaaofamlgogcaaGreatKinds
namespace Go.Proofs.YtkaaofamlgogcaaGreat.P
open Go Go.RowKit Go.Proofs.YtkaaofamlgogcaaGreat.AM Go.Proofs.YtkaaofamlgogcaaGreatW.PrintWords
set_option linter.unusedVariables false
set_option linter.unusedSimpArgs false
set_option maxRecDepth 100000
def grantCs (x : S38) : List Value := [.int .i64 x.f0, .int .i64 x.f1, .int .i64 x.f2]
def startH (gs : List Value) : Heap := inHeap [(38, gs)]
/-- The worker as the law has it ahead of the Grants. -/
noncomputable def setupR (i : Nat) (gs : List Value) : Option ((Value × Heap) × (Value × Heap) × (Value × Heap) × (Value × Heap)) :=
  (cf 100 17 [] (startH gs)).bind fun r1 => (cf 100 12 [r1.1, .int .i64 (.ofNat i)] r1.2).bind fun r2 => match r2.1 with
    | .tuple ⟨[p, _]⟩ => (cf 100 18 [p] r2.2).bind fun r3 => (cf 100 19 [p] r3.2).map fun r4 => (r1, r2, r3, r4)
    | _ => none
def checkR (i : Nat) (r : (Value × Heap) × (Value × Heap) × (Value × Heap) × (Value × Heap)) : Bool := match r.2.1.1 with
  | .tuple ⟨[.pointer (some ⟨w, 0, none⟩), .int .i64 (.ofNat 0)]⟩ => match r.2.2.2.2.get w with
    | some (.cells true 95 [.int .i64 (.ofNat j), .int .i64 (.ofNat 0), .bool true, _, .pointer (some ⟨d, 0, none⟩), _, _]) => match r.2.2.2.2.get d with
      | some (.cells true 164 [_, .int .i64 (.ofNat 2)]) => Nat.beq i j
      | _ => false
    | _ => false
  | _ => false
theorem setup1 (gs : List Value) : ((setupR 1 gs).map fun r => (checkR 1 r, r.2.2.2.2.get 0)) = some (true, some (.cells false 38 gs)) := by kernel_rfl
theorem setup2 (gs : List Value) : ((setupR 2 gs).map fun r => (checkR 2 r, r.2.2.2.2.get 0)) = some (true, some (.cells false 38 gs)) := by kernel_rfl
theorem setup {i : Nat} (hi : i = 1 ∨ i = 2) (gs : List Value) : ∃ vc H1 w H2 v3 H3 v4 H4 x m, cf 100 17 [] (startH gs) = some (vc, H1) ∧ cf 100 12 [vc, .int .i64 i] H1 = some (.tuple #[pt w, .int .i64 0], H2) ∧
    cf 100 18 [pt w] H2 = some (v3, H3) ∧ cf 100 19 [pt w] H3 = some (v4, H4) ∧ WAt H4.c w x ∧ DAt H4.c x.disk m 2 ∧ x.up = true ∧ x.id = (i : Int) ∧ x.epoch = 0 ∧ H4.c.get 0 = some (.cells false 38 gs) ∧ H4.c.wf := by
  have h : ((setupR i gs).map fun r => (checkR i r, r.2.2.2.2.get 0)) = some (true, some (.cells false 38 gs)) := by
    rcases hi with rfl | rfl
    · exact setup1 gs
    · exact setup2 gs
  simp only [Option.map_eq_some_iff, Prod.mk.injEq] at h
  obtain ⟨r, hr, hc, h0⟩ := h
  simp only [setupR, Option.bind_eq_some_iff] at hr
  obtain ⟨⟨vc, H1⟩, e1, ⟨v2, H2⟩, e2, hr⟩ := hr
  split at hr <;> (try (cases hr; done))
  rename_i p q hp
  simp only [Option.bind_eq_some_iff, Option.map_eq_some_iff] at hr
  obtain ⟨⟨v3, H3⟩, e3, ⟨v4, H4⟩, e4, rfl⟩ := hr
  have hp : v2 = .tuple ⟨[p, q]⟩ := hp
  subst hp
  have w0 : WF (startH gs) := inHeap_wf _
  have k := fun {f a H v H'} (h : cf 100 f a H = some (v, H')) => (call_keeps env2_ok 100 f a H v H' h).wf
  have wf := k e4 (k e3 (k e2 (k e1 w0)))
  unfold checkR at hc
  split at hc <;> (try (cases hc; done))
  rename_i w hw
  cases hw
  split at hc <;> (try (cases hc; done))
  rename_i j kp d sh qu hg
  split at hc <;> (try (cases hc; done))
  rename_i m hd
  have := Nat.eq_of_beq_eq_true hc
  subst this
  exact ⟨vc, H1, w, H2, v3, H3, v4, H4, ⟨(i : Int), 0, true, kp, d, sh, qu⟩, m, e1, e2, e3, e4, hg, hd, rfl, rfl, rfl, h0, wf⟩
/-- The greatest epoch. -/
def gEp (i most : Int) (x : S38) : Int := if x.f0 = i ∧ x.f1 = 2 ∧ most < x.f2 then x.f2 else most
theorem granted_ep (x : WCells) (most : Int) (y : S38) : granted { x with epoch := most } 2 y.f0 y.f1 y.f2 = { x with epoch := gEp x.id most y } := by
  unfold granted gEp
  by_cases h : y.f0 = x.id ∧ y.f1 = 2 ∧ most < y.f2
  · rw [if_pos h, if_pos h]
  · rw [if_neg h, if_neg h]
theorem absV_block (r : InRow) (i b : Nat) (h : blockOf (absV r i) = some b) : b = i := by
  unfold absV at h
  split at h
  · cases h
  · cases h; rfl
theorem epochs_runs {W : World} {A : Option Addr} {c : Nat} {gs : List S38} (hs : InSl W A gs.length c) (id : Int) (hn : gs.length < 9223372036854775807) :
    Runs (cf 101) 4 [.int .i64 id, absV ⟨A, gs.length, c, 38, 3, (gs.map grantCs).flatten⟩ 0] (startH (gs.map grantCs).flatten) fun v _ => v = .bool true := by
  have hlen : ∀ x, (grantCs x).length = 3 := fun _ => rfl
  obtain ⟨i, hi, hlow⟩ : ∃ i : Nat, (i = 1 ∨ i = 2) ∧ (i : Int) = 1 + (lowN id 2 : Int) := by
    have := low_lt id (show 0 < 2 by omega)
    exact ⟨1 + lowN id 2, by omega, by omega⟩
  obtain ⟨vc, H1, w, H2, v3, H3, v4, H4, x, m, e1, e2, e3, e4, h, hd, hu, hid, hep, h0, w0⟩ := setup hi (gs.map grantCs).flatten
  have hru : Rw H4.c 38 3 (absV ⟨A, gs.length, c, 38, 3, (gs.map grantCs).flatten⟩ 0) gs.length (gs.map grantCs).flatten := Rw.abs (r := ⟨A, gs.length, c, 38, 3, (gs.map grantCs).flatten⟩) hs (flatLen hlen) h0
  have hw0 : w ≠ 0 := fun q => by subst q; unfold WAt at h; rw [h0] at h; cases h
  have hns : inS (fun b => ¬ b = w) (absV ⟨A, gs.length, c, 38, 3, (gs.map grantCs).flatten⟩ 0) := fun b hb q => hw0 (by rw [← q]; exact absV_block _ _ _ hb)
  have hl0 : Rw (startH (gs.map grantCs).flatten).c 38 3 (absV ⟨A, gs.length, c, 38, 3, (gs.map grantCs).flatten⟩ 0) gs.length (gs.map grantCs).flatten := Rw.abs (r := ⟨A, gs.length, c, 38, 3, (gs.map grantCs).flatten⟩) hs (flatLen hlen) (inHeap_get _ 0)
  generalize absV ⟨A, gs.length, c, 38, 3, (gs.map grantCs).flatten⟩ 0 = u at hru hns hl0 ⊢
  have hdw : ¬ x.disk = w := fun q => by unfold WAt DAt at *; rw [q, h] at hd; cases hd
  refine Runs.enter rfl rfl rfl ?_
  refine XC.then_ops ?_
  refine XO.op (o_move rfl) <| XO.nil <| ?_
  refine XC.assoc ?_
  refine XC.then_ops ?_
  refine XO.op (o_move rfl) <| XO.op (o_len hl0 rfl) <| XO.op (o_gtr rfl rfl rfl) <| XO.nil <| ?_
  refine XC.pushIf rfl (fun hc11 => ?_) (fun hc11 => ?_)
  · skip
    refine XC.assoc ?_
    refine XC.then_ops ?_
    refine XO.pu (awake21_pu 99 _) rfl <| XO.op (o_move rfl) <| XO.nil <| ?_
    refine XC.then_ret ?_
    refine ⟨_, rfl, ?_⟩
    exact rfl
  · skip
    refine XC.then_skip ?_
    refine XC.then_ops ?_
    refine XO.op (o_move rfl) <| XO.pu (low_pu (n := 99) (k := 2) id (by omega) (by omega)) rfl <| XO.op (o_add (r := (i : Int)) rfl rfl (by rw [← hlow]; exact w64 (by omega) (by omega))) <| XO.op (o_move rfl) <| XO.nil <| ?_
    refine XC.then_ops ?_
    refine XO.op (o_call rfl (e1)) <| XO.op (o_move rfl) <| XO.op (o_call rfl (e2)) <| XO.op (o_move rfl) <| XO.op (o_extract rfl rfl) <| XO.op (o_extract rfl rfl) <| XO.op (o_move rfl) <| XO.op (o_move rfl) <| XO.nil <| ?_
    refine XC.assoc ?_
    refine XC.then_ops ?_
    refine XO.op (o_move rfl) <| XO.op (o_neq (q := false) rfl rfl rfl) <| XO.op (o_move rfl) <| XO.gt rfl <| XO.op (o_move rfl) <| XO.gt rfl <| XO.op (o_eqNil rfl rfl rfl) <| XO.op (o_pick_f rfl rfl) <| XO.nil <| ?_
    refine XC.push_f (rfl) ?_
    refine XC.then_skip ?_
    refine XC.then_ops ?_
    refine XO.op (o_move rfl) <| XO.op (o_call rfl (e3)) <| XO.nil <| ?_
    refine XC.then_ops ?_
    refine XO.op (o_move rfl) <| XO.op (o_call rfl (e4)) <| ?_
    have g := Chg.refl (S := (· = w)) H4.c
    clear e1 e2 e3 e4 hl0
    refine XO.nil <| ?_
    refine XC.then_ops ?_
    refine XO.op (o_move rfl) <| XO.nil <| ?_
    refine XC.assoc ?_
    refine XC.then_ops ?_
    refine XO.op (o_move rfl) <| XO.nil <| ?_
    refine XC.then_block ?_
    refine XC.lp (σ := Nat × Int) (fun s => [(8, .int .i64 (s.1 : Int)), (7, .int .i64 s.2)]) [(0, .int .i64 (i : Int)), (1, u), (5, pt w)] (fun s G => WAt G.c w { x with epoch := s.2 } ∧ Chg (· = w) H4.c G.c ∧ s.1 ≤ gs.length) (fun s => gs.length - s.1) (0, 0) (Sb.cons rfl (Sb.cons rfl (Sb.cons rfl (Sb.cons rfl (Sb.cons rfl (Sb.nil _)))))) ⟨by rw [← hep]; exact h, g, Nat.zero_le _⟩ (by show gs.length - 0 < 9223372036854775808; omega) ?_
    clear h g
    rintro ⟨j, most⟩ G ⟨h, g, hj⟩
    simp only at h g hj
    refine XC.assoc ?_
    refine XC.then_ops ?_
    refine XO.op (o_move rfl) <| XO.op (o_move rfl) <| XO.op (o_len (hru.chg g hns) rfl) <| XO.op (o_lss rfl rfl rfl) <| XO.nil <| ?_
    refine XC.pushIf rfl (fun hc35 => ?_) (fun hc35 => ?_)
    · skip
      have hj2 : j < gs.length := by omega
      refine XC.then_skip ?_
      refine XC.then_block ?_
      refine XC.then_ops ?_
      refine XO.op (o_move rfl) <| XO.op (o_move rfl) <| XO.op (o_move rfl) <| XO.op (o_ix (hru.chg g hns) rfl rfl hj2) <| XO.op (o_ld (hru.chg g hns) rfl (by show j * 3 + 3 ≤ _; omega) (by omega) (flat_part (enc := grantCs) hlen hj2)) <| XO.op (o_iface rfl) <| ?_
      refine XO.ca (take_grant (n := 96) (g.wf w0) h (hd.chg g hdw) hu _ _ _) rfl ?_
      rintro v44 H1 ⟨h', g2⟩
      rw [granted_ep, show gEp x.id most gs[j] = gEp i most gs[j] from by rw [hid]] at h'
      replace g := g.trans g2
      clear h g2
      have h := h'
      clear h'
      refine XO.nil <| ?_
      refine XC.jn (σ := Int) (fun s => [(7, .int .i64 s)]) [(0, .int .i64 (i : Int)), (1, u), (5, pt w), (8, .int .i64 (j : Int))] (fun s G => G = H1 ∧ s = gEp i most gs[j]) ?_ ?_
      · skip
        refine XC.then_ops ?_
        refine XO.op (o_move rfl) <| XO.op (o_move rfl) <| XO.op (o_ix (hru.chg g hns) rfl rfl hj2) <| XO.op (o_ixf (hru.chg g hns) (by omega) rfl) <| XO.op (o_ld (hru.chg g hns) rfl (by simp only [Option.getD_none]; omega) (by omega) (flat_cell (enc := grantCs) hlen hj2 (by omega))) <| XO.op (o_move rfl) <| XO.op (o_eq rfl rfl) <| XO.op (o_move rfl) <| ?_
        refine XO.splitd (g := 52) rfl (fun hg52 => ?_) (fun hg52 => ?_)
        · skip
          refine XO.gt rfl <| XO.op (o_move rfl) <| XO.gt rfl <| XO.op (o_move rfl) <| XO.gt rfl <| XO.op (o_ix (hru.chg g hns) rfl rfl hj2) <| XO.gt rfl <| XO.op (o_ixf (hru.chg g hns) (by omega) rfl) <| XO.gt rfl <| XO.op (o_ld (hru.chg g hns) rfl (by simp only [Option.getD_none]; omega) (by omega) (flat_cell (enc := grantCs) hlen hj2 (by omega))) <| XO.gt rfl <| ?_
          refine XO.op (o_eq rfl rfl) <| XO.op (o_pick_t rfl rfl) <| XO.op (o_move rfl) <| ?_
          refine XO.splitd (g := 60) rfl (fun hg60 => ?_) (fun hg60 => ?_)
          · skip
            refine XO.gt rfl <| XO.op (o_move rfl) <| XO.gt rfl <| XO.op (o_move rfl) <| XO.gt rfl <| XO.op (o_ix (hru.chg g hns) rfl rfl hj2) <| XO.gt rfl <| XO.op (o_ixf (hru.chg g hns) (by omega) rfl) <| XO.gt rfl <| XO.op (o_ld (hru.chg g hns) rfl (by simp only [Option.getD_none]; omega) (by omega) (flat_cell (enc := grantCs) hlen hj2 (by omega))) <| XO.gt rfl <| ?_
            refine XO.op (o_move rfl) <| XO.gt rfl <| XO.op (o_gtr rfl rfl rfl) <| XO.op (o_pick_t rfl rfl) <| XO.nil <| ?_
            refine XC.ite rfl (fun hc68 => ?_) (fun hc68 => ?_)
            · skip
              refine XC.ops ?_
              refine XO.op (o_move rfl) <| XO.op (o_move rfl) <| XO.op (o_ix (hru.chg g hns) rfl rfl hj2) <| XO.op (o_ixf (hru.chg g hns) (by omega) rfl) <| XO.op (o_ld (hru.chg g hns) rfl (by simp only [Option.getD_none]; omega) (by omega) (flat_cell (enc := grantCs) hlen hj2 (by omega))) <| XO.op (o_move rfl) <| XO.nil <| ?_
              refine join_n _ (Sb.cons rfl (Sb.cons rfl (Sb.cons rfl (Sb.cons rfl (Sb.cons rfl (Sb.nil _)))))) ⟨rfl, ?_⟩
              unfold gEp
              rw [if_pos ⟨hg52, hg60, hc68⟩]
            · skip
              refine XC.skip ?_
              refine join_n _ (Sb.cons rfl (Sb.cons rfl (Sb.cons rfl (Sb.cons rfl (Sb.cons rfl (Sb.nil _)))))) ⟨rfl, ?_⟩
              unfold gEp
              rw [if_neg]
              exact fun q => by first | exact hg52 q.1 | exact hg60 q.2.1 | exact hc68 q.2.2
          · skip
            refine XO.pass rfl rfl <| XO.pass rfl rfl <| XO.pass rfl rfl <| XO.pass rfl rfl <| XO.pass rfl rfl <| XO.pass rfl rfl <| XO.pass rfl rfl <| XO.op (o_pick_f rfl rfl) <| XO.nil <| ?_
            refine XC.cond_f (rfl) ?_
            refine XC.skip ?_
            refine join_n _ (Sb.cons rfl (Sb.cons rfl (Sb.cons rfl (Sb.cons rfl (Sb.cons rfl (Sb.nil _)))))) ⟨rfl, ?_⟩
            unfold gEp
            rw [if_neg]
            exact fun q => by first | exact hg52 q.1 | exact hg60 q.2.1 | exact hc68 q.2.2
        · skip
          refine XO.pass rfl rfl <| XO.pass rfl rfl <| XO.pass rfl rfl <| XO.pass rfl rfl <| XO.pass rfl rfl <| XO.pass rfl rfl <| XO.op (o_pick_f rfl rfl) <| XO.op (o_move rfl) <| XO.pass rfl rfl <| XO.pass rfl rfl <| XO.pass rfl rfl <| XO.pass rfl rfl <| XO.pass rfl rfl <| XO.pass rfl rfl <| XO.pass rfl rfl <| XO.op (o_pick_f rfl rfl) <| XO.nil <| ?_
          refine XC.cond_f (rfl) ?_
          refine XC.skip ?_
          refine join_n _ (Sb.cons rfl (Sb.cons rfl (Sb.cons rfl (Sb.cons rfl (Sb.cons rfl (Sb.nil _)))))) ⟨rfl, ?_⟩
          unfold gEp
          rw [if_neg]
          exact fun q => by first | exact hg52 q.1 | exact hg60 q.2.1 | exact hc68 q.2.2
      · skip
        rintro s H5 ⟨rfl, rfl⟩
        have he := epoch_pu (n := 98) h
        simp only [hu, if_true] at he
        refine XC.then_ops ?_
        refine XO.op (o_move rfl) <| XO.pu (he) rfl <| XO.op (o_move rfl) <| XO.op (o_neq (q := false) rfl rfl (by simp)) <| XO.op (o_move rfl) <| XO.gt rfl <| XO.op (o_move rfl) <| XO.gt rfl <| XO.pu (life_pu (n := 98) h (hd.chg g hdw)) rfl <| XO.gt rfl <| XO.op (o_neq (q := false) rfl rfl rfl) <| XO.op (o_pick_f rfl rfl) <| XO.nil <| ?_
        refine XC.cond_f (rfl) ?_
        refine XC.skip ?_
        refine blk_n ?_
        refine then_n ?_
        refine XC.ops ?_
        refine XO.op (o_move rfl) <| XO.op (o_add rfl rfl (w64 (by omega) (by omega))) <| XO.op (o_move rfl) <| XO.nil <| ?_
        exact ⟨(j + 1, gEp i most gs[j]), by show gs.length - (j + 1) < gs.length - j; omega, Sb.cons rfl (Sb.cons rfl (Sb.cons rfl (Sb.cons rfl (Sb.cons rfl (Sb.nil _))))), h, g, hj2⟩
    · skip
      refine XC.then_exit ?_
      refine blk_x rfl ?_
      refine then_n ?_
      refine XC.then_ops ?_
      refine XO.op (o_move rfl) <| ?_
      refine XO.ca (crash_rn (n := 99) h) rfl ?_
      rintro v84 H2 ⟨hv, h', g2⟩
      simp only [hu, if_true] at hv
      subst hv
      have he := epoch_pu (n := 98) h'
      simp only [Bool.false_eq_true, if_false] at he
      refine XO.op (o_eql (q := true) rfl rfl rfl) <| XO.op (o_move rfl) <| XO.gt rfl <| XO.op (o_move rfl) <| XO.gt rfl <| XO.pu (he) rfl <| XO.gt rfl <| XO.op (o_eql (q := true) rfl rfl rfl) <| XO.op (o_pick_t rfl rfl) <| XO.op (o_move rfl) <| XO.gt rfl <| XO.pu (awake21_pu 99 _) rfl <| XO.op (o_pick_t rfl rfl) <| XO.op (o_move rfl) <| XO.nil <| ?_
      refine XC.ret ?_
      refine ⟨_, rfl, ?_⟩
      exact rfl
theorem WorkerEpochs_walk (a0 : Int) (A1 : Option Addr) (c1 : Nat) (l1 : List S38) (w : World) (hr1 : Kd.C k38 w A1 l1.length l1) (hc1 : l1.length ≤ c1)
    {base : Nat} (hv1 : Value.okWide Tryz.prog w .any base 52 (.slice A1 l1.length c1)) (f0 : F3 a0) (f1 : F52 l1) :
    Calls Tryz.prog 4 #[.int .i64 a0, .slice A1 l1.length c1] w fun e w' => e = .returned (.bool true) ∧ Below w.heap.size w w' := by
  have h1 : RowOk Tryz.prog w ⟨A1, l1.length, c1, 38, 3, (l1.map grantCs).flatten⟩ := rowOk_of (P := Tryz.prog) (e := 38) (enc := grantCs) hr1 (okWide_in Tryz.underlying52 hv1) (fun x cs h => by obtain ⟨_, _, rfl, rfl, ⟨_, _, rfl, rfl, rfl⟩⟩ := h; rfl) (fun _ => rfl) (by decide) (fun x v hv => by
    simp only [grantCs, List.mem_cons, List.not_mem_nil, or_false] at hv
    rcases hv with rfl | rfl | rfl <;> rfl) (by kernel_rfl)
  have hall : ∀ r ∈ [(⟨A1, l1.length, c1, 38, 3, (l1.map grantCs).flatten⟩ : InRow)], RowOk Tryz.prog w r := fun r hr => by rw [List.mem_singleton.1 hr]; exact h1
  have hu : l1.length < 9223372036854775807 := by have := f1.1; omega
  exact Runs.callsIn env2_ok hall (epochs_runs (W := w) h1.sl a0 hu) (LR.cons (plain_refl _ 8 _ rfl) (LR.cons (row_VR hall rfl) (LR.nil _))) rfl
end Go.Proofs.YtkaaofamlgogcaaGreat.P
