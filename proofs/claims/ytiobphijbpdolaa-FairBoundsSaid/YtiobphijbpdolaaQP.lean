/- Plain facts on place: which configurations may be, who keeps what. -/
import Derived.Test.YtiobphijbpdolaaKinds
import Derived.Test.YtiobphijbpdolaaQ12
import Derived.Test.YtiobphijbpdolaaQEv
import Derived.Test.YtiobphijbpdolaaPx11
import Derived.Test.YtiobphijbpdolaaPx12
namespace Go.Proofs.Ytiobphijbpdolaa.P
open Go.RowKit Go.Proofs.YtiobphijbpdolaaW.PrintWords Go.Proofs.YtiobphijbpdolaaW.PrintLast Go.Proofs.YtiobphijbpdolaaW.PrintMore
set_option linter.unusedVariables false

theorem index_loop (l : List Int) (x : Int) (hl : l.length ≤ 9223372036854775806) (d : Nat) : ∀ (i : Nat), i ≤ l.length → l.length - i = d →
    Ev (fun k => slices_Index_int_int.l0 k l x (l.length : Int) (i : Int)) (match (l.drop i).findIdx? (fun y => decide (x = y)) with | some j => ((i + j : Nat) : Int) | none => -1) := by
  induction d with
  | zero =>
    intro i hi hd
    have e : i = l.length := by omega
    subst e
    exact Ev.step (f := fun _ => some (-1)) (fun k => by simp only [slices_Index_int_int.l0]; rw [if_neg (by omega)]) (ev_some (by simp))
  | succ d ih =>
    intro i hi hd
    have hlt : i < l.length := by omega
    have hr : rd l (i : Int) = l[i] := by simp [rd, hlt]
    rw [List.drop_eq_getElem_cons hlt, List.findIdx?_cons]
    by_cases hx : x = l[i]
    · refine Ev.step (f := fun _ => some (i : Int)) (fun k => ?_) (ev_some (by simp [hx]))
      simp only [slices_Index_int_int.l0]
      rw [if_pos (by omega), if_pos (by omega), if_pos (by omega), hr, if_pos hx]
    · refine Ev.step (f := fun k => slices_Index_int_int.l0 k l x (l.length : Int) ((i + 1 : Nat) : Int)) (fun k => ?_) (ev_eq (ih (i + 1) (by omega) (by omega)) ?_)
      · simp only [slices_Index_int_int.l0]
        rw [if_pos (by omega), if_pos (by omega), if_pos (by omega), hr, if_neg hx, wrap_small (by omega) (by omega)]
        rfl
      · simp only [hx, decide_false]
        cases (l.drop (i + 1)).findIdx? (fun y => decide (x = y)) with
        | none => rfl
        | some j => simp; omega
theorem contains_is (l : List Int) (x : Int) (hl : l.length ≤ 9223372036854775806) : Ev (fun k => slices_Contains_int_int.f k l x) (l.any fun y => decide (x = y)) := by
  unfold slices_Contains_int_int.f slices_Index_int_int.f
  refine ev_bind (index_loop l x hl l.length 0 (by omega) (by omega)) (ev_some ?_)
  rw [List.drop_zero]
  cases h : l.findIdx? (fun y => decide (x = y)) with
  | none =>
    rw [List.findIdx?_eq_none_iff] at h
    symm
    simp only [Int.reduceNeg, ge_iff_le]
    rw [show (decide ((0 : Int) ≤ -1)) = false from rfl]
    rw [List.any_eq_false]
    intro y hy
    have := h y hy
    simpa using this
  | some j =>
    have h1 := List.findIdx?_eq_some_iff_getElem.1 h
    obtain ⟨hj, h2, _⟩ := h1
    have : l.any (fun y => decide (x = y)) = true := List.any_eq_true.2 ⟨l[j], List.getElem_mem _, h2⟩
    rw [this]
    simp
/-! configurations -/
def inB (a lo hi : Int) : Bool := decide (lo ≤ a) && decide (a ≤ hi)
theorem within_is (a lo hi : Int) : place_within.f a lo hi = some (inB a lo hi) := by
  unfold place_within.f inB
  by_cases h : a ≥ lo
  · rw [if_pos h]
    have : decide (lo ≤ a) = true := decide_eq_true h
    simp [this]
  · rw [if_neg h]
    have : decide (lo ≤ a) = false := decide_eq_false h
    simp [this]
structure Cfg where
  ws : List ByteArray
  cs : List S24
  workers : Int
  copies : Int
  slots : Int
  batch : Int
  lease : Int
  hedge : Int
  first : Int
  cap : Int
  jitter : Int
  net : Int
def numsOk (c : Cfg) : Bool := inB c.workers 1 5 && inB c.copies 1 (min 3 c.workers) && (inB c.slots 1 4 && inB c.batch 1 5 && inB c.net 8 64) && (inB c.lease 1 1000 && inB c.hedge 1 1000 && inB c.first 1 10 && inB c.cap c.first 50 && inB c.jitter 0 10)
def mayB (c : Cfg) : Bool := decide (goodWords c.ws = 0) && decide (goodCuts c.cs = 0) && numsOk c
def Sized (c : Cfg) : Prop := (∀ s ∈ c.ws, s.size ≤ 140737488355328) ∧ (∀ k ∈ c.cs, k.f1.size ≤ 140737488355328)
theorem mn_is (a b : Int) : mn a b = min a b := by unfold mn; omega
theorem may_j2 (a b : Bool) (c : Cfg) : Ev (fun k => place_May.j2 k a b c.ws c.cs c.workers c.copies c.slots c.batch c.lease c.hedge c.first c.cap c.jitter c.net)
    (a && b && (inB c.lease 1 1000 && inB c.hedge 1 1000 && inB c.first 1 10 && inB c.cap c.first 50 && inB c.jitter 0 10)) := by
  refine ⟨1, fun k hk => ?_⟩
  obtain ⟨k, rfl⟩ : ∃ m, k = m + 1 := ⟨k - 1, by omega⟩
  simp only [place_May.j2, within_is, Option.bind_some]
  cases inB c.lease 1 1000 <;> cases inB c.hedge 1 1000 <;> cases inB c.first 1 10 <;> cases inB c.cap c.first 50 <;> cases inB c.jitter 0 10 <;> cases a <;> cases b <;> rfl
theorem may_j1 (a : Bool) (c : Cfg) : Ev (fun k => place_May.j1 k a c.ws c.cs c.workers c.copies c.slots c.batch c.lease c.hedge c.first c.cap c.jitter c.net)
    (a && (inB c.slots 1 4 && inB c.batch 1 5 && inB c.net 8 64) && (inB c.lease 1 1000 && inB c.hedge 1 1000 && inB c.first 1 10 && inB c.cap c.first 50 && inB c.jitter 0 10)) := by
  refine Ev.step (f := fun k => place_May.j2 k a (inB c.slots 1 4 && inB c.batch 1 5 && inB c.net 8 64) c.ws c.cs c.workers c.copies c.slots c.batch c.lease c.hedge c.first c.cap c.jitter c.net) (fun k => ?_) (may_j2 _ _ c)
  simp only [place_May.j1, within_is, Option.bind_some]
  cases inB c.slots 1 4 <;> cases inB c.batch 1 5 <;> cases inB c.net 8 64 <;> rfl
theorem may_j0 (b : Bool) (c : Cfg) : Ev (fun k => place_May.j0 k b c.ws c.cs c.workers c.copies c.slots c.batch c.lease c.hedge c.first c.cap c.jitter c.net) (!b && numsOk c) := by
  cases b with
  | true => exact Ev.step (f := fun _ => some false) (fun k => by simp only [place_May.j0]; rfl) (ev_some rfl)
  | false =>
    refine Ev.step (f := fun k => place_May.j1 k (inB c.workers 1 5 && inB c.copies 1 (min 3 c.workers)) c.ws c.cs c.workers c.copies c.slots c.batch c.lease c.hedge c.first c.cap c.jitter c.net) (fun k => ?_) (ev_eq (may_j1 _ c) (by simp [numsOk]))
    simp only [place_May.j0, within_is, Option.bind_some, mn_is]
    cases inB c.workers 1 5 <;> cases inB c.copies 1 (min 3 c.workers) <;> rfl
theorem may_is (c : Cfg) (hs : Sized c) : Ev (fun k => place_May.f k c.ws c.cs c.workers c.copies c.slots c.batch c.lease c.hedge c.first c.cap c.jitter c.net) (mayB c) := by
  unfold place_May.f
  refine ev_bind (goodW_is c.ws hs.1) ?_
  by_cases h : goodWords c.ws = 0
  · refine ev_if_pos h (ev_bind (ev_at (fun k => part_Good.mono _ k) (good_is c.cs hs.2)) (ev_eq (may_j0 _ c) ?_))
    simp only [mayB, h, decide_true, Bool.true_and]
    by_cases h2 : goodCuts c.cs = 0
    · simp [h2]
    · have : (goodCuts c.cs != 0) = true := by simpa using h2
      simp [this, h2]
  · refine ev_if_neg h (ev_eq (may_j0 _ c) ?_)
    simp [mayB, h]
def shards (c : Cfg) : Nat := if mayB c then c.cs.length + 1 else 0
theorem may_cuts {c : Cfg} (h : mayB c = true) : c.cs.length ≤ 5 ∧ 1 ≤ c.workers ∧ c.workers ≤ 5 ∧ 1 ≤ c.copies ∧ c.copies ≤ 3 ∧ c.copies ≤ c.workers := by
  simp only [mayB, numsOk, inB, Bool.and_eq_true, decide_eq_true_eq] at h
  refine ⟨?_, by omega, by omega, by omega, by omega, by omega⟩
  have h2 := h.1.2
  unfold goodCuts at h2
  by_cases h5 : 5 < c.cs.length
  · rw [if_pos h5] at h2; cases h2
  · omega
theorem shards_le (c : Cfg) : shards c ≤ 6 := by
  unfold shards
  split
  · rename_i h; have := (may_cuts h).1; omega
  · omega
theorem shards_is (c : Cfg) (hs : Sized c) : Ev (fun k => place_Shards.f k c.ws c.cs c.workers c.copies c.slots c.batch c.lease c.hedge c.first c.cap c.jitter c.net) (shards c : Int) := by
  unfold place_Shards.f
  refine ev_bind (may_is c hs) ?_
  unfold shards
  cases h : mayB c with
  | true =>
    have := (may_cuts h).1
    exact ev_if_pos rfl (ev_some (by rw [wrap_small (by omega) (by omega)]; simp))
  | false => exact ev_if_neg (by simp) (ev_some (by simp))
/-- Who keeps shard s, of so many workers, in so many copies. -/
def copiesL (W C s : Nat) : List Int := (List.range C).map fun j => ((1 + (s + j) % W : Nat) : Int)
def copiesOf (c : Cfg) (s : Int) : List Int := if 0 ≤ s ∧ s < shards c then copiesL c.workers.toNat c.copies.toNat s.toNat else []
theorem copies_loop (c : Cfg) (W C s : Nat) (hW : c.workers = W) (hC : c.copies = C) (hW1 : 1 ≤ W) (hW5 : W ≤ 5) (hC3 : C ≤ 3) (hs : s ≤ 6) (d : Nat) : ∀ (i : Nat), i ≤ C → C - i = d →
    Ev (fun k => place_Copies.l0 k (s : Int) (copiesL W i s) c.copies (i : Int) c.ws c.cs c.workers c.copies c.slots c.batch c.lease c.hedge c.first c.cap c.jitter c.net) (copiesL W C s) := by
  induction d with
  | zero =>
    intro i hi hd
    have e : i = C := by omega
    subst e
    exact Ev.step (f := fun _ => some (copiesL W i s)) (fun k => by simp only [place_Copies.l0]; rw [if_neg (by omega)]) (ev_some rfl)
  | succ d ih =>
    intro i hi hd
    refine Ev.step (f := fun k => place_Copies.l0 k (s : Int) (copiesL W (i + 1) s) c.copies ((i + 1 : Nat) : Int) c.ws c.cs c.workers c.copies c.slots c.batch c.lease c.hedge c.first c.cap c.jitter c.net) (fun k => ?_) (ih (i + 1) (by omega) (by omega))
    simp only [place_Copies.l0]
    have hlen : (copiesL W i s).length = i := by simp [copiesL]
    rw [if_pos (by omega), if_neg (by omega), if_pos (by rw [hlen]; omega), wrap_small (i := (i : Int) + 1) (by omega) (by omega), wrap_small (i := (s : Int) + i) (by omega) (by omega)]
    have e1 : wrap64 (1 + Int.tmod ((s : Int) + i) c.workers) = ((1 + (s + i) % W : Nat) : Int) := by
      rw [hW, Int.tmod_eq_emod_of_nonneg (by omega)]
      have h1 : ((s : Int) + i) % W = (((s + i) % W : Nat) : Int) := by rw [Int.natCast_emod]; rfl
      have h2 : (s + i) % W < W := Nat.mod_lt _ (by omega)
      rw [h1, wrap_small (by omega) (by omega)]
      omega
    rw [e1]
    have e2 : copiesL W (i + 1) s = copiesL W i s ++ [((1 + (s + i) % W : Nat) : Int)] := by simp [copiesL, List.range_succ]
    rw [e2]
    rfl
theorem copies_is (c : Cfg) (hs : Sized c) (s : Int) : Ev (fun k => place_Copies.f k c.ws c.cs c.workers c.copies c.slots c.batch c.lease c.hedge c.first c.cap c.jitter c.net s) (copiesOf c s) := by
  unfold place_Copies.f
  refine ev_bind (shards_is c hs) ?_
  have hle := shards_le c
  rw [wrap_small (by omega) (by omega), within_is]
  refine ev_bind (Ev.now _) ?_
  by_cases h : 0 ≤ s ∧ s < shards c
  · have hm : mayB c = true := by
      cases hm : mayB c with
      | true => rfl
      | false => simp [shards, hm] at h; omega
    have hb := may_cuts hm
    have e : inB s 0 ((shards c : Int) - 1) = true := by simp only [inB, Bool.and_eq_true, decide_eq_true_eq]; omega
    refine ev_if_pos e ?_
    obtain ⟨n, rfl⟩ := Int.eq_ofNat_of_zero_le h.1
    have := copies_loop c c.workers.toNat c.copies.toNat n (by omega) (by omega) (by omega) (by omega) (by omega) (by omega) c.copies.toNat 0 (by omega) (by omega)
    refine ev_eq this ?_
    rw [copiesOf, if_pos h]
    rfl
  · have e : inB s 0 ((shards c : Int) - 1) = false := by
      cases e : inB s 0 ((shards c : Int) - 1) with
      | false => rfl
      | true => simp only [inB, Bool.and_eq_true, decide_eq_true_eq] at e; omega
    rw [e]
    exact ev_if_neg (by simp) (ev_some (by rw [copiesOf, if_neg h]))
/-- The shards that a worker keeps. -/
def keepsUpto (c : Cfg) (w : Int) (n : Nat) : List Int := ((List.range n).filter fun (s : Nat) => (copiesOf c (s : Int)).any fun y => decide (w = y)).map fun (s : Nat) => (s : Int)
def keepsOf (c : Cfg) (w : Int) : List Int := keepsUpto c w (shards c)
theorem copiesOf_length (c : Cfg) (s : Int) : (copiesOf c s).length ≤ 3 := by
  unfold copiesOf
  split
  · rename_i h
    have hm : mayB c = true := by
      cases hm : mayB c with
      | true => rfl
      | false => simp [shards, hm] at h; omega
    have := may_cuts hm
    simp [copiesL]; omega
  · simp
theorem keepsUpto_length (c : Cfg) (w : Int) (n : Nat) : (keepsUpto c w n).length ≤ n := by
  unfold keepsUpto
  rw [List.length_map]
  have := List.length_filter_le (fun (s : Nat) => (copiesOf c (s : Int)).any fun y => decide (w = y)) (List.range n)
  rw [List.length_range] at this
  exact this
theorem keeps_loop (c : Cfg) (hs : Sized c) (w : Int) (d : Nat) : ∀ (i : Nat), i ≤ shards c → shards c - i = d →
    Ev (fun k => place_Keeps.l0 k w (keepsUpto c w i) (shards c : Int) (i : Int) c.ws c.cs c.workers c.copies c.slots c.batch c.lease c.hedge c.first c.cap c.jitter c.net) (keepsOf c w) := by
  have hle := shards_le c
  induction d with
  | zero =>
    intro i hi hd
    have e : i = shards c := by omega
    subst e
    exact Ev.step (f := fun _ => some (keepsUpto c w (shards c))) (fun k => by simp only [place_Keeps.l0]; rw [if_neg (by omega)]) (ev_some rfl)
  | succ d ih =>
    intro i hi hd
    have hlen := keepsUpto_length c w i
    have e2 : keepsUpto c w (i + 1) = if (copiesOf c (i : Int)).any (fun y => decide (w = y)) then keepsUpto c w i ++ [(i : Int)] else keepsUpto c w i := by
      unfold keepsUpto
      rw [List.range_succ, List.filter_append, List.map_append]
      have e3 : [i].filter (fun (s : Nat) => (copiesOf c (s : Int)).any fun y => decide (w = y)) = if (copiesOf c (i : Int)).any (fun y => decide (w = y)) then [i] else [] := by
        rw [List.filter_cons]
        rfl
      rw [e3]
      cases (copiesOf c (i : Int)).any (fun y => decide (w = y)) <;> simp
    refine Ev.step (f := fun k => (place_Copies.f k c.ws c.cs c.workers c.copies c.slots c.batch c.lease c.hedge c.first c.cap c.jitter c.net (i : Int)).bind fun t238 => ((slices_Contains_int_int.f k t238 w).bind fun t241 => (if t241 = true then (if (keepsUpto c w i).length < 17592186044416 then (place_Keeps.l0 k w (keepsUpto c w i ++ [(i : Int)]) (shards c : Int) (wrap64 ((i : Int) + 1)) c.ws c.cs c.workers c.copies c.slots c.batch c.lease c.hedge c.first c.cap c.jitter c.net) else (none)) else (place_Keeps.l0 k w (keepsUpto c w i) (shards c : Int) (wrap64 ((i : Int) + 1)) c.ws c.cs c.workers c.copies c.slots c.batch c.lease c.hedge c.first c.cap c.jitter c.net)))) (fun k => by simp only [place_Keeps.l0]; rw [if_pos (by omega)]) ?_
    refine ev_bind (copies_is c hs (i : Int)) (ev_bind (contains_is _ w (by have := copiesOf_length c (i : Int); omega)) ?_)
    have := ih (i + 1) (by omega) (by omega)
    rw [wrap_small (by omega) (by omega)]
    cases hb : (copiesOf c (i : Int)).any (fun y => decide (w = y)) with
    | true =>
      rw [e2, hb] at this
      exact ev_if_pos rfl (ev_if_pos (by omega) this)
    | false =>
      rw [e2, hb] at this
      exact ev_if_neg (by simp) this
theorem keeps_is (c : Cfg) (hs : Sized c) (w : Int) : Ev (fun k => place_Keeps.f k c.ws c.cs c.workers c.copies c.slots c.batch c.lease c.hedge c.first c.cap c.jitter c.net w) (keepsOf c w) := by
  unfold place_Keeps.f
  exact ev_bind (shards_is c hs) (keeps_loop c hs w (shards c) 0 (by omega) (by omega))
def greatCfg (c : Cfg) : Bool := if c.cs.length ≤ 10 then (c.cs.any (fun k => decide (100 < k.f1.size)) || greatTexts c.ws) else true
theorem greatC_is (c : Cfg) (hm : c.ws.length ≤ 140737488355328) (hm2 : c.cs.length ≤ 140737488355328) : Ev (fun k => inkhornlaw0_GreatConfig.f k c.ws c.cs c.workers c.copies c.slots c.batch c.lease c.hedge c.first c.cap c.jitter c.net) (greatCfg c) := by
  obtain ⟨K, hK⟩ := texts_is c.ws hm
  unfold inkhornlaw0_GreatConfig.f greatCfg
  by_cases hl : c.cs.length ≤ 10
  · rw [if_pos hl]
    refine ⟨2 * c.cs.length + 2 + K, fun k hk => ?_⟩
    have := great_loop c.cs c.ws _ K hK c.workers c.copies c.slots c.batch c.lease c.hedge c.first c.cap c.jitter c.net hl c.cs.length k 0 (by omega) (by omega) (by omega)
    rw [List.drop_zero] at this
    exact this
  · rw [if_neg hl]
    refine ⟨2 + K, fun k hk => ?_⟩
    obtain ⟨k, rfl⟩ : ∃ m, k = m + 2 := ⟨k - 2, by omega⟩
    simp only [inkhornlaw0_GreatConfig.l0, inkhornlaw0_GreatConfig.j1]
    rw [if_pos (by omega), if_neg (by simp; omega), show inkhornlaw0_GreatTexts.f k c.ws = some (greatTexts c.ws) from hK k (by omega)]
    cases greatTexts c.ws <;> simp
    omega
def cfgOf (x : S43) : Cfg := ⟨x.f0, x.f1, x.f2, x.f3, x.f4, x.f5, x.f6, x.f7, x.f8, x.f9, x.f10, x.f11⟩
theorem cfg_sized {x : S43} (h : F43 x) : x.f0.length ≤ 140737488355328 ∧ x.f1.length ≤ 140737488355328 ∧ Sized (cfgOf x) := by
  have h0 := h.1.1
  have h1 := h.2.1.1
  refine ⟨by omega, by omega, fun s hs => ?_, fun k hk => ?_⟩
  · have := h.1.2 s hs
    unfold F9 at this
    omega
  · have := (h.2.1.2 k hk).2
    unfold F9 at this
    omega
end Go.Proofs.Ytiobphijbpdolaa.P
