/- A worker's small calls, by our machine's rules. -/
import Derived.Test.YtkaaofamlgogcaaGreatEnvW
namespace Go.Proofs.YtkaaofamlgogcaaGreat.P
open Go Go.RowKit Go.Proofs.YtkaaofamlgogcaaGreat.AM
set_option linter.unusedVariables false
set_option linter.unusedSimpArgs false
set_option maxRecDepth 100000

/-! a worker's cells, as they lie -/
structure WCells where
  id : Int
  epoch : Int
  up : Bool
  keeps : Value
  disk : Nat
  shards : Value
  queue : Value
def WCells.cs (x : WCells) : List Value := [.int .i64 x.id, .int .i64 x.epoch, .bool x.up, x.keeps, .pointer (some ⟨x.disk, 0, none⟩), x.shards, x.queue]
def WAt (C : HC) (w : Nat) (x : WCells) : Prop := C.get w = some (.cells true 95 x.cs)
def DAt (C : HC) (d : Nat) (m : Value) (life : Int) : Prop := C.get d = some (.cells true 164 [m, .int .i64 life])
abbrev pt (b : Nat) : Value := .pointer (some ⟨b, 0, none⟩)
section
variable {n w d : Nat} {C : HC} {x : WCells} {m : Value} {life : Int}
theorem DAt.chg {w' : Nat} {D : HC} (h : DAt C d m life) (g : Chg (· = w') C D) (hne : ¬ d = w') : DAt D d m life := g.at h hne
theorem up_pu (h : WAt C w x) : Pu (cf (n + 1)) 32 [pt w] C (.bool x.up) := by
  unfold WAt at h
  refine Pu.enter rfl rfl rfl fun H0 hH => ?_
  subst hH
  refine XC.then_ops ?_
  refine XO.op (o_move rfl) <| XO.nil <| ?_
  refine XC.then_ops ?_
  refine XO.op (o_move rfl) <| XO.op (o_eqNil rfl rfl rfl) <| XO.op (o_move rfl) <| XO.gt rfl <| XO.op (o_move rfl) <| XO.gt rfl <| XO.op (o_nilCheck rfl) <| XO.gt rfl <| XO.op (o_fieldAddr rfl) <| XO.gt rfl <| XO.op (o_get rfl h rfl) <| XO.op (o_pick_t rfl rfl) <| XO.op (o_move rfl) <| XO.nil <| ?_
  refine XC.ret ?_
  refine ⟨_, rfl, ?_⟩
  exact ⟨rfl, rfl⟩
theorem epoch_pu (h : WAt C w x) : Pu (cf (n + 2)) 20 [pt w] C (.int .i64 (if x.up then x.epoch else 0)) := by
  unfold WAt at h
  cases hu : x.up with
  | false =>
    have hp := up_pu (n := n) h
    rw [hu] at hp
    refine Pu.enter rfl rfl rfl fun H0 hH => ?_
    subst hH
    refine XC.then_ops ?_
    refine XO.op (o_move rfl) <| XO.nil <| ?_
    refine XC.assoc ?_
    refine XC.then_ops ?_
    refine XO.op (o_move rfl) <| XO.pu (hp) rfl <| XO.op (o_not rfl) <| XO.nil <| ?_
    refine XC.push_t (rfl) ?_
    refine XC.assoc ?_
    refine XC.then_ops ?_
    refine XO.op (o_move rfl) <| XO.nil <| ?_
    refine XC.then_ret ?_
    refine ⟨_, rfl, ?_⟩
    exact ⟨rfl, rfl⟩
  | true =>
    have hp := up_pu (n := n) h
    rw [hu] at hp
    refine Pu.enter rfl rfl rfl fun H0 hH => ?_
    subst hH
    refine XC.then_ops ?_
    refine XO.op (o_move rfl) <| XO.nil <| ?_
    refine XC.assoc ?_
    refine XC.then_ops ?_
    refine XO.op (o_move rfl) <| XO.pu (hp) rfl <| XO.op (o_not rfl) <| XO.nil <| ?_
    refine XC.push_f (rfl) ?_
    refine XC.then_skip ?_
    refine XC.then_ops ?_
    refine XO.op (o_move rfl) <| XO.op (o_nilCheck rfl) <| XO.op (o_fieldAddr rfl) <| XO.op (o_get rfl h rfl) <| XO.op (o_move rfl) <| XO.nil <| ?_
    refine XC.ret ?_
    refine ⟨_, rfl, ?_⟩
    exact ⟨rfl, rfl⟩
theorem dlife_pu (h : DAt C d m life) : Pu (cf (n + 1)) 52 [pt d] C (.int .i64 life) := by
  unfold DAt at h
  refine Pu.enter rfl rfl rfl fun H0 hH => ?_
  subst hH
  refine XC.then_ops ?_
  refine XO.op (o_move rfl) <| XO.nil <| ?_
  refine XC.assoc ?_
  refine XC.then_ops ?_
  refine XO.op (o_move rfl) <| XO.op (o_eqNil rfl rfl rfl) <| XO.nil <| ?_
  refine XC.push_f (rfl) ?_
  refine XC.then_skip ?_
  refine XC.then_ops ?_
  refine XO.op (o_move rfl) <| XO.op (o_nilCheck rfl) <| XO.op (o_fieldAddr rfl) <| XO.op (o_get rfl h rfl) <| XO.op (o_move rfl) <| XO.nil <| ?_
  refine XC.ret ?_
  refine ⟨_, rfl, ?_⟩
  exact ⟨rfl, rfl⟩
theorem disk_pu (h : WAt C w x) : Pu (cf (n + 1)) 26 [pt w] C (pt x.disk) := by
  unfold WAt at h
  refine Pu.enter rfl rfl rfl fun H0 hH => ?_
  subst hH
  refine XC.then_ops ?_
  refine XO.op (o_move rfl) <| XO.nil <| ?_
  refine XC.assoc ?_
  refine XC.then_ops ?_
  refine XO.op (o_move rfl) <| XO.op (o_eqNil rfl rfl rfl) <| XO.nil <| ?_
  refine XC.push_f (rfl) ?_
  refine XC.then_skip ?_
  refine XC.then_ops ?_
  refine XO.op (o_move rfl) <| XO.op (o_nilCheck rfl) <| XO.op (o_fieldAddr rfl) <| XO.op (o_get rfl h rfl) <| XO.op (o_move rfl) <| XO.nil <| ?_
  refine XC.ret ?_
  refine ⟨_, rfl, ?_⟩
  exact ⟨rfl, rfl⟩
theorem life_pu (h : WAt C w x) (hd : DAt C x.disk m life) : Pu (cf (n + 2)) 21 [pt w] C (.int .i64 life) := by
  refine Pu.enter rfl rfl rfl fun H0 hH => ?_
  subst hH
  refine XC.then_ops ?_
  refine XO.op (o_move rfl) <| XO.nil <| ?_
  refine XC.then_ops ?_
  refine XO.op (o_move rfl) <| XO.pu (disk_pu h) rfl <| XO.pu (dlife_pu hd) rfl <| XO.op (o_move rfl) <| XO.nil <| ?_
  refine XC.ret ?_
  refine ⟨_, rfl, ?_⟩
  exact ⟨rfl, rfl⟩
/-- What a crash is. -/
theorem crash_rn (h : WAt C w x) : Rn (cf (n + 1)) 18 [pt w] C fun v D => v = .int .i64 (if x.up then 0 else 10) ∧ WAt D w { x with up := false } ∧ Chg (· = w) C D := by
  unfold WAt at h
  cases hu : x.up with
  | false =>
    refine Rn.enter rfl rfl rfl fun H0 hH => ?_
    subst hH
    have g := Chg.refl (S := fun _ => False) H0.c
    refine XC.then_ops ?_
    refine XO.op (o_move rfl) <| XO.nil <| ?_
    refine XC.then_block ?_
    refine XC.then_ops ?_
    refine XO.op (o_move rfl) <| XO.op (o_eqNil rfl rfl rfl) <| XO.op (o_move rfl) <| XO.nil <| ?_
    refine XC.cond_f (rfl) ?_
    refine XC.then_ops ?_
    refine XO.op (o_move rfl) <| XO.op (o_nilCheck rfl) <| XO.op (o_fieldAddr rfl) <| XO.op (o_get rfl h rfl) <| XO.op (o_not (q := false) (by rw [← hu]; rfl)) <| XO.op (o_move rfl) <| XO.nil <| ?_
    refine XC.cond_t (rfl) ?_
    refine XC.then_ops ?_
    refine XO.op (o_move rfl) <| XO.nil <| ?_
    refine XC.ret ?_
    refine blk_r ?_
    refine then_r ?_
    refine ⟨_, rfl, ?_⟩
    refine ⟨rfl, ?_, Chg.refl _⟩
    rw [show ({ x with up := false } : WCells) = x from by cases x; cases hu; rfl]
    exact h
  | true =>
    refine Rn.enter rfl rfl rfl fun H0 hH => ?_
    subst hH
    have g := Chg.refl (S := fun _ => False) H0.c
    refine XC.then_ops ?_
    refine XO.op (o_move rfl) <| XO.nil <| ?_
    refine XC.then_block ?_
    refine XC.then_ops ?_
    refine XO.op (o_move rfl) <| XO.op (o_eqNil rfl rfl rfl) <| XO.op (o_move rfl) <| XO.nil <| ?_
    refine XC.cond_f (rfl) ?_
    refine XC.then_ops ?_
    refine XO.op (o_move rfl) <| XO.op (o_nilCheck rfl) <| XO.op (o_fieldAddr rfl) <| XO.op (o_get rfl h rfl) <| XO.op (o_not (q := true) (by rw [← hu]; rfl)) <| XO.op (o_move rfl) <| XO.nil <| ?_
    refine XC.cond_f (rfl) ?_
    refine XC.skip ?_
    refine blk_n ?_
    refine then_n ?_
    refine XC.then_ops ?_
    refine XO.op (o_move rfl) <| XO.op (o_nilCheck rfl) <| XO.op (o_fieldAddr rfl) <| ?_
    refine XO.up (o_set rfl rfl h rfl rfl rfl) h ?_
    intro H1 g1 a1
    refine XO.nil <| ?_
    refine XC.then_ops ?_
    refine XO.op (o_move rfl) <| XO.nil <| ?_
    refine XC.ret ?_
    refine ⟨_, rfl, ?_⟩
    exact ⟨rfl, a1, g1⟩
/-- What a Grant does. -/
def granted (x : WCells) (life a b e : Int) : WCells := if a = x.id ∧ b = life ∧ x.epoch < e then { x with epoch := e } else x
theorem granted_no {life a b e : Int} (h : ¬ (a = x.id ∧ b = life ∧ x.epoch < e)) : granted x life a b e = x := if_neg h
theorem granted_yes {life a b e : Int} (h1 : a = x.id) (h2 : b = life) (h3 : x.epoch < e) : granted x life a b e = { x with epoch := e } := if_pos ⟨h1, h2, h3⟩
theorem granted_up {life a b e : Int} : (granted x life a b e).up = x.up ∧ (granted x life a b e).id = x.id ∧ (granted x life a b e).disk = x.disk := by
  unfold granted
  split <;> exact ⟨rfl, rfl, rfl⟩
theorem take_down (h : WAt C w x) (hu : x.up = false) (v : Value) : Pu (cf (n + 2)) 14 [pt w, v] C (.tuple #[]) := by
  have hp := up_pu (n := n) h
  rw [hu] at hp
  refine Pu.enter rfl rfl rfl fun H0 hH => ?_
  subst hH
  refine XC.assoc ?_
  refine XC.then_ops ?_
  refine XO.op (o_move rfl) <| XO.pu (hp) rfl <| XO.op (o_not rfl) <| XO.nil <| ?_
  refine XC.push_t (rfl) ?_
  refine XC.then_ret ?_
  refine ⟨_, rfl, ?_⟩
  exact ⟨rfl, rfl⟩
theorem take_grant (w0 : C.wf) (h : WAt C w x) (hd : DAt C x.disk m life) (hu : x.up = true) (a b e : Int) : Rn (cf (n + 4)) 14 [pt w, .iface 38 (.agg #[.int .i64 a, .int .i64 b, .int .i64 e])] C fun v D => WAt D w (granted x life a b e) ∧ Chg (· = w) C D := by
  have hp := up_pu (n := n + 2) h
  have hl := life_pu (n := n + 1) h hd
  rw [hu] at hp
  have hw := w0.lt h
  have hdn := w0.lt hd
  unfold WAt at h
  unfold DAt at hd
  have hne : x.disk ≠ w := fun q => by rw [q, h] at hd; cases hd
  refine Rn.enter rfl rfl rfl fun H0 hH => ?_
  subst hH
  have g := Chg.refl (S := (· = w)) H0.c
  refine XC.assoc ?_
  refine XC.then_ops ?_
  refine XO.op (o_move rfl) <| XO.pu (hp) rfl <| XO.op (o_not rfl) <| XO.nil <| ?_
  refine XC.push_f (rfl) ?_
  refine XC.then_skip ?_
  refine XC.assoc ?_
  refine XC.then_ops ?_
  refine XO.op (o_move rfl) <| XO.op (o_assertT rfl rfl) <| XO.op (o_move rfl) <| XO.op (o_extract rfl rfl) <| XO.op (o_extract rfl rfl) <| ?_
  refine XO.nwp (o_new) (g.wf w0) ?_
  intro b4 H1 n4 g1 a4
  replace n4 := Nat.le_trans g.next n4
  replace h := Gr.at g1 h
  replace hd := Gr.at g1 hd
  replace g := g.tr g1
  refine XO.up (o_set rfl rfl a4 rfl rfl rfl) (a4) ?_
  intro H2 g1 us1
  replace h := Chg.at g1 h (by show ¬ _ = _; omega)
  replace hd := Chg.at g1 hd (by show ¬ _ = _; omega)
  replace g := Chg.th g w0 g1 (fun q hq => .inr (hq ▸ n4))
  replace a4 := us1
  clear us1
  refine XO.op (o_move rfl) <| XO.nil <| ?_
  refine XC.jn (σ := Unit) (fun _ => []) [(0, pt w), (1, .iface 38 (.agg #[.int .i64 a, .int .i64 b, .int .i64 e]))] (fun _ G => WAt G.c w (granted x life a b e) ∧ Chg (· = w) H0.c G.c) ?_ ?_
  · skip
    refine XC.then_draw ?_
    refine XD.pure (o_move rfl) <| XD.pure (o_move rfl) <| XD.gt rfl <| XD.pure (o_fieldAddr rfl) <| XD.gt rfl <| XD.pure (o_get rfl a4 rfl) <| XD.gt rfl <| XD.pure (o_move rfl) <| XD.gt rfl <| XD.pure (o_nilCheck rfl) <| XD.gt rfl <| XD.pure (o_fieldAddr rfl) <| XD.gt rfl <| XD.pure (o_get rfl h rfl) <| XD.gt rfl <| XD.pure (o_eq rfl rfl) <| XD.pure (o_pick_t rfl rfl) <| XD.pure (o_move rfl) <| ?_
    refine XD.splitd (g := 28) rfl (fun hg28 => ?_) (fun hg28 => ?_)
    · skip
      refine XD.gt rfl <| XD.pure (o_fieldAddr rfl) <| XD.gt rfl <| XD.lk (o_get rfl a4 rfl) rfl fun R30 => XD.gt rfl <| XD.pure (o_move rfl) <| XD.gt rfl <| XD.pu (life_pu (n := n + 1) h hd) rfl <| XD.gt rfl <| XD.pure (o_eq rfl rfl) <| XD.pure (o_pick_t rfl rfl) <| XD.pure (o_move rfl) <| ?_
      refine XD.splitd (g := 35) rfl (fun hg35 => ?_) (fun hg35 => ?_)
      · skip
        refine XD.gt rfl <| XD.pure (o_fieldAddr rfl) <| XD.gt rfl <| XD.pure (o_get rfl a4 rfl) <| XD.gt rfl <| XD.pure (o_move rfl) <| XD.gt rfl <| XD.pure (o_nilCheck rfl) <| XD.gt rfl <| XD.pure (o_fieldAddr rfl) <| XD.gt rfl <| XD.pure (o_get rfl h rfl) <| XD.gt rfl <| XD.pure (o_gtr rfl rfl rfl) <| XD.pure (o_pick_t rfl rfl) <| XD.nil <| ?_
        refine XC.ite rfl (fun hc43 => ?_) (fun hc43 => ?_)
        · skip
          refine XC.ops ?_
          refine XO.op (o_move rfl) <| XO.op (o_fieldAddr rfl) <| XO.op (o_get rfl a4 rfl) <| XO.op (o_nilCheck rfl) <| XO.op (o_fieldAddr rfl) <| ?_
          refine XO.up (o_set rfl rfl h rfl rfl rfl) (h) ?_
          intro H3 g1 us2
          replace hd := Chg.at g1 hd (by show ¬ _ = _; omega)
          replace a4 := Chg.at g1 a4 (by show ¬ _ = _; omega)
          replace g := Chg.th g w0 g1 (fun q hq => .inl hq)
          replace h := us2
          clear us2
          refine XO.nil <| ?_
          refine join_n () (Sb.cons rfl (Sb.cons rfl (Sb.nil _))) ⟨?_, g⟩
          rw [granted_yes hg28 hg35 hc43]
          exact h
        · skip
          refine XC.skip ?_
          refine join_n () (Sb.cons rfl (Sb.cons rfl (Sb.nil _))) ⟨?_, g⟩
          rw [granted_no (fun q => by first | exact hg28 q.1 | exact hg35 q.2.1 | exact hc43 q.2.2)]
          exact h
      · skip
        refine XD.pass rfl rfl <| XD.pass rfl rfl <| XD.pass rfl rfl <| XD.pass rfl rfl <| XD.pass rfl rfl <| XD.pass rfl rfl <| XD.pass rfl rfl <| XD.pure (o_pick_f rfl rfl) <| XD.nil <| ?_
        refine XC.cond_f (rfl) ?_
        refine XC.skip ?_
        refine join_n () (Sb.cons rfl (Sb.cons rfl (Sb.nil _))) ⟨?_, g⟩
        rw [granted_no (fun q => by first | exact hg28 q.1 | exact hg35 q.2.1 | exact hc43 q.2.2)]
        exact h
    · skip
      refine XD.pass rfl rfl <| XD.pass rfl rfl <| XD.pass rfl rfl <| XD.pass rfl rfl <| XD.pass rfl rfl <| XD.pure (o_pick_f rfl rfl) <| XD.pure (o_move rfl) <| XD.pass rfl rfl <| XD.pass rfl rfl <| XD.pass rfl rfl <| XD.pass rfl rfl <| XD.pass rfl rfl <| XD.pass rfl rfl <| XD.pass rfl rfl <| XD.pure (o_pick_f rfl rfl) <| XD.nil <| ?_
      refine XC.cond_f (rfl) ?_
      refine XC.skip ?_
      refine join_n () (Sb.cons rfl (Sb.cons rfl (Sb.nil _))) ⟨?_, g⟩
      rw [granted_no (fun q => by first | exact hg28 q.1 | exact hg35 q.2.1 | exact hc43 q.2.2)]
      exact h
  · skip
    rintro - H9 ⟨h, g⟩
    unfold WAt at h
    have n4 : H0.c.next ≤ H0.c.next := Nat.le_refl _
    refine XC.assoc ?_
    refine XC.then_ops ?_
    refine XO.op (o_move rfl) <| XO.op (o_assertT rfl rfl) <| XO.op (o_move rfl) <| XO.op (o_extract rfl rfl) <| XO.op (o_extract rfl rfl) <| ?_
    refine XO.nwp (o_new) (g.wf w0) ?_
    intro b6 H4 n6 g1 a6
    replace n6 := Nat.le_trans g.next n6
    replace h := Gr.at g1 h
    replace g := g.tr g1
    refine XO.up (o_set rfl rfl a6 rfl rfl rfl) (a6) ?_
    intro H5 g1 us3
    replace h := Chg.at g1 h (by show ¬ _ = _; omega)
    replace g := Chg.th g w0 g1 (fun q hq => .inr (hq ▸ n6))
    replace a6 := us3
    clear us3
    refine XO.op (o_move rfl) <| XO.nil <| ?_
    refine XC.assoc ?_
    refine XC.then_draw ?_
    refine XD.pure (o_move rfl) <| XD.pure (o_move rfl) <| XD.pass rfl rfl <| XD.pass rfl rfl <| XD.pass rfl rfl <| XD.pure (o_pick_f rfl rfl) <| XD.pure (o_move rfl) <| XD.pass rfl rfl <| XD.pass rfl rfl <| XD.pass rfl rfl <| XD.pass rfl rfl <| XD.pass rfl rfl <| XD.pass rfl rfl <| XD.pass rfl rfl <| XD.pure (o_pick_f rfl rfl) <| XD.pure (o_move rfl) <| XD.pass rfl rfl <| XD.pass rfl rfl <| ?_
    refine XD.pass rfl rfl <| XD.pure (o_pick_f rfl rfl) <| XD.pure (o_move rfl) <| XD.pass rfl rfl <| XD.pass rfl rfl <| XD.pass rfl rfl <| XD.pass rfl rfl <| XD.pass rfl rfl <| XD.pass rfl rfl <| XD.pass rfl rfl <| XD.pass rfl rfl <| XD.pass rfl rfl <| XD.pure (o_pick_f rfl rfl) <| XD.nil <| ?_
    refine XC.push_f (rfl) ?_
    refine XC.then_skip ?_
    refine XC.then_ops ?_
    refine XO.op (o_move rfl) <| XO.op (o_assertT rfl rfl) <| XO.op (o_move rfl) <| XO.op (o_extract rfl rfl) <| XO.op (o_extract rfl rfl) <| ?_
    refine XO.nwp (o_new) (g.wf w0) ?_
    intro b8 H6 n8 g1 a8
    replace n8 := Nat.le_trans g.next n8
    replace h := Gr.at g1 h
    replace g := g.tr g1
    refine XO.up (o_set rfl rfl a8 rfl rfl rfl) (a8) ?_
    intro H7 g1 us4
    replace h := Chg.at g1 h (by show ¬ _ = _; omega)
    replace g := Chg.th g w0 g1 (fun q hq => .inr (hq ▸ n8))
    replace a8 := us4
    clear us4
    refine XO.op (o_move rfl) <| XO.nil <| ?_
    refine XC.then_ops ?_
    refine XO.op (o_move rfl) <| XO.nil <| ?_
    refine XC.cond_f (rfl) ?_
    refine XC.skip ?_
    exact ⟨_, rfl, h, g⟩
end
end Go.Proofs.YtkaaofamlgogcaaGreat.P
