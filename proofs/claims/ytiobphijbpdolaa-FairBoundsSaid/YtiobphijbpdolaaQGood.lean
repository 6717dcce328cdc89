/- Plain facts on fair.Good and fair.Bound. -/
import Derived.Test.YtiobphijbpdolaaQP
import Derived.Test.YtiobphijbpdolaaPx27
import Derived.Test.YtiobphijbpdolaaPx25
import Derived.Test.YtiobphijbpdolaaHFair2
namespace Go.Proofs.Ytiobphijbpdolaa.P
open Go.RowKit Go.Proofs.YtiobphijbpdolaaW.PrintWords Go.Proofs.YtiobphijbpdolaaW.PrintLast Go.Proofs.YtiobphijbpdolaaW.PrintMore
set_option linter.unusedVariables false
set_option linter.unusedSimpArgs false

def goodAt (c : Cfg) (good : List Int) (s : Nat) : Bool := (copiesOf c (s : Int)).any fun y => decide (rd good (s : Int) = y)
def goodF (c : Cfg) (good : List Int) : Bool := decide (shards c ≠ 0) && decide (good.length = shards c) && (List.range (shards c)).all (goodAt c good)
theorem goodF_loop (c : Cfg) (hs : Sized c) (good : List Int) (n : Nat) (hn : good.length = n) (hn6 : n ≤ 6) (d : Nat) : ∀ (i : Nat), i ≤ n → n - i = d →
    Ev (fun k => fair_Good.l0 k good (n : Int) (i : Int) c.ws c.cs c.workers c.copies c.slots c.batch c.lease c.hedge c.first c.cap c.jitter c.net) (((List.range n).drop i).all (goodAt c good)) := by
  induction d with
  | zero =>
    intro i hi hd
    have e : i = n := by omega
    subst e
    exact Ev.step (f := fun _ => some true) (fun k => by simp only [fair_Good.l0]; rw [if_neg (by omega)]) (ev_some (by rw [List.drop_of_length_le (by simp)]; rfl))
  | succ d ih =>
    intro i hi hd
    have hlt : i < n := by omega
    have hdr : (List.range n).drop i = i :: (List.range n).drop (i + 1) := by
      rw [List.drop_eq_getElem_cons (by simpa using hlt)]
      simp
    refine Ev.step (f := fun k => (place_Copies.f k c.ws c.cs c.workers c.copies c.slots c.batch c.lease c.hedge c.first c.cap c.jitter c.net (i : Int)).bind fun t => if 0 ≤ (i : Int) then (if (i : Int) < (good.length : Int) then ((slices_Contains_int_int.f k t (rd good (i : Int))).bind fun u => (if u = true then fair_Good.l0 k good (n : Int) (wrap64 ((i : Int) + 1)) c.ws c.cs c.workers c.copies c.slots c.batch c.lease c.hedge c.first c.cap c.jitter c.net else some false)) else none) else none) (fun k => ?_) ?_
    · simp only [fair_Good.l0]
      rw [if_pos (by omega)]
    · refine ev_bind (copies_is c hs (i : Int)) (ev_if_pos (by omega) (ev_if_pos (by omega) ?_))
      rw [show wrap64 ((i : Int) + 1) = ((i + 1 : Nat) : Int) by rw [wrap_small (by omega) (by omega)]; rfl]
      have hl3 := copiesOf_length c (i : Int)
      refine ev_bind (contains_is _ _ (by omega)) ?_
      rw [hdr, List.all_cons]
      have e : ((copiesOf c (i : Int)).any fun y => decide (rd good (i : Int) = y)) = goodAt c good i := rfl
      rw [e]
      cases goodAt c good i with
      | true => exact ev_if_pos rfl (ev_eq (ih (i + 1) (by omega) (by omega)) (by simp))
      | false => exact ev_if_neg (by simp) (ev_some (by simp))
theorem goodF_is (c : Cfg) (hs : Sized c) (good : List Int) : Ev (fun k => fair_Good.f k c.ws c.cs c.workers c.copies c.slots c.batch c.lease c.hedge c.first c.cap c.jitter c.net good) (goodF c good) := by
  unfold fair_Good.f
  refine ev_bind (shards_is c hs) ?_
  have h6 := shards_le c
  unfold goodF
  by_cases h0 : shards c = 0
  · refine ev_if_pos (by omega) (Ev.step (f := fun _ => some false) (fun k => by simp only [fair_Good.j0, if_true]) (ev_some (by simp [h0])))
  · refine ev_if_neg (by omega) ?_
    by_cases hl : good.length = shards c
    · refine Ev.step (f := fun k => fair_Good.l0 k good (shards c : Int) ((0 : Nat) : Int) c.ws c.cs c.workers c.copies c.slots c.batch c.lease c.hedge c.first c.cap c.jitter c.net) (fun k => ?_) (ev_eq (goodF_loop c hs good (shards c) hl h6 (shards c) 0 (by omega) (by omega)) (by simp [h0, hl]))
      simp only [fair_Good.j0]
      rw [show (((good.length : Int) != (shards c : Int))) = false by simp; omega]
      simp
    · exact Ev.step (f := fun _ => some false) (fun k => by simp only [fair_Good.j0]; rw [show (((good.length : Int) != (shards c : Int))) = true by simp; omega]; simp) (ev_some (by simp [hl]))

def clipF (x : Int) : Int := mn (mx x 0) 1000
def mostF (c : Cfg) : Int := clipF c.cap + clipF c.jitter
theorem clip_range (x : Int) : 0 ≤ clipF x ∧ clipF x ≤ 1000 := by unfold clipF mn mx; split <;> split <;> omega
theorem most_is (c : Cfg) : backoff_Most.f c.ws c.cs c.workers c.copies c.slots c.batch c.lease c.hedge c.first c.cap c.jitter c.net = some (mostF c) := by
  have h1 := clip_range c.cap
  have h2 := clip_range c.jitter
  unfold clipF at h1 h2
  unfold backoff_Most.f backoff_clip.f mostF clipF
  simp only [Option.bind_some]
  rw [wrap_small (by omega) (by omega)]
def boundF (c : Cfg) (n : Int) : Int := if mayB c = true ∧ 1 ≤ n ∧ n ≤ 10 then 4 + (n + 1) * (c.copies * (mostF c + 2) + c.slots * (shards c : Int) + 6) else 0
theorem may_slots {c : Cfg} (h : mayB c = true) : 1 ≤ c.slots ∧ c.slots ≤ 4 := by
  simp only [mayB, numsOk, Bool.and_eq_true, inB, decide_eq_true_eq] at h
  omega
theorem each_range {c : Cfg} (h : mayB c = true) : 0 ≤ c.copies * (mostF c + 2) ∧ c.copies * (mostF c + 2) ≤ 6006 ∧ 0 ≤ c.slots * (shards c : Int) ∧ c.slots * (shards c : Int) ≤ 24 := by
  have h1 := may_cuts h
  have h2 := may_slots h
  have h3 := shards_le c
  have h4 := clip_range c.cap
  have h5 := clip_range c.jitter
  have h6 : 0 ≤ mostF c ∧ mostF c ≤ 2000 := by unfold mostF; omega
  refine ⟨Int.mul_nonneg (by omega) (by omega), ?_, Int.mul_nonneg (by omega) (by omega), ?_⟩
  · have := Int.mul_le_mul (a := c.copies) (b := mostF c + 2) (c := 3) (d := 2002) (by omega) (by omega) (by omega) (by omega)
    omega
  · have := Int.mul_le_mul (a := c.slots) (b := (shards c : Int)) (c := 4) (d := 6) (by omega) (by omega) (by omega) (by omega)
    omega
theorem bound_no (c : Cfg) (n : Int) : Ev (fun k => fair_Bound.j0 k n true c.ws c.cs c.workers c.copies c.slots c.batch c.lease c.hedge c.first c.cap c.jitter c.net) 0 := Ev.step (f := fun _ => some 0) (fun k => by simp only [fair_Bound.j0, if_true]) (ev_some rfl)
theorem bound_is (c : Cfg) (hs : Sized c) (n : Int) : Ev (fun k => fair_Bound.f k c.ws c.cs c.workers c.copies c.slots c.batch c.lease c.hedge c.first c.cap c.jitter c.net n) (boundF c n) := by
  unfold fair_Bound.f boundF
  refine ev_bind (may_is c hs) ?_
  cases hm : mayB c with
  | false => exact ev_if_neg (by simp) (ev_eq (bound_no c n) (by simp))
  | true =>
  refine ev_if_pos rfl ?_
  by_cases h1 : n < 1
  · exact ev_if_pos h1 (ev_eq (bound_no c n) (by rw [if_neg (by omega)]))
  refine ev_if_neg h1 ?_
  by_cases h2 : n > 10
  · rw [show decide (n > 10) = true from decide_eq_true h2]
    exact ev_eq (bound_no c n) (by rw [if_neg (by omega)])
  rw [show decide (n > 10) = false from decide_eq_false h2, if_pos (by simp; omega)]
  have hr := each_range hm
  have h5 := clip_range c.jitter
  have h4 := clip_range c.cap
  have h6 : 0 ≤ mostF c ∧ mostF c ≤ 2000 := by unfold mostF; omega
  refine Ev.step (f := fun k => (place_Shards.f k c.ws c.cs c.workers c.copies c.slots c.batch c.lease c.hedge c.first c.cap c.jitter c.net).bind fun t => some (wrap64 (4 + (wrap64 ((wrap64 (n + 1)) * (wrap64 ((wrap64 ((wrap64 (c.copies * (wrap64 (mostF c + 2)))) + (wrap64 (c.slots * t)))) + 6))))))) (fun k => by simp only [fair_Bound.j0, Bool.false_eq_true, if_false, most_is, Option.bind_some]) ?_
  refine ev_bind (shards_is c hs) (ev_some ?_)
  rw [wrap_small (i := mostF c + 2) (by omega) (by omega), wrap_small (i := c.copies * (mostF c + 2)) (by omega) (by omega), wrap_small (i := c.slots * (shards c : Int)) (by omega) (by omega), wrap_small (i := c.copies * (mostF c + 2) + c.slots * (shards c : Int)) (by omega) (by omega), wrap_small (i := c.copies * (mostF c + 2) + c.slots * (shards c : Int) + 6) (by omega) (by omega), wrap_small (i := n + 1) (by omega) (by omega)]
  have he : 0 ≤ c.copies * (mostF c + 2) + c.slots * (shards c : Int) + 6 ∧ c.copies * (mostF c + 2) + c.slots * (shards c : Int) + 6 ≤ 7000 := by omega
  clear hr
  generalize c.copies * (mostF c + 2) + c.slots * (shards c : Int) + 6 = e at he ⊢
  have hm1 := Int.mul_le_mul (a := n + 1) (b := e) (c := 11) (d := 7000) (by omega) (by omega) (by omega) (by omega)
  have hm0 := Int.mul_nonneg (a := n + 1) (b := e) (by omega) (by omega)
  rw [wrap_small (i := (n + 1) * e) (by omega) (by omega), wrap_small (by omega) (by omega)]
end Go.Proofs.Ytiobphijbpdolaa.P
