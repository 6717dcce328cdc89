/- Plain facts for fair: what was sent between two nodes; a map's keys as a list; its look-up where the elements are bools. -/
import Derived.Test.YtiobphijbpdolaaQEv
import Derived.Test.YtiobphijbpdolaaPx29
import Derived.Maps.Own
import Derived.Maps.OwnOps
import Derived.Maps.Views
namespace Go.Proofs.Ytiobphijbpdolaa.P
open Go.RowKit Go.Proofs.YtiobphijbpdolaaW.PrintWords Go.Proofs.YtiobphijbpdolaaW.PrintLast Go.Proofs.YtiobphijbpdolaaW.PrintMore Go.Maps
set_option linter.unusedVariables false
set_option linter.unusedSimpArgs false

def betB (a b : Int) (s : S73) : Bool := decide (s.f1 = a ∧ s.f2 = b) || decide (s.f1 = b ∧ s.f2 = a)
def betS (a b : Int) (S : List S73) : List Int := (S.filter (betB a b)).map fun s => s.f0
def bet (recs : List S71) (a b : Int) : List Int := recs.flatMap fun r => betS a b r.f3
/-- Records within what fair's contracts take. -/
def RecsIn (recs : List S71) : Prop := recs.length ≤ 1000 ∧ ∀ r ∈ recs, r.f3.length ≤ 100 ∧ r.f5.length ≤ 100
theorem betS_cons (a b : Int) (s : S73) (S : List S73) : betS a b (s :: S) = if betB a b s = true then s.f0 :: betS a b S else betS a b S := by
  unfold betS
  rw [List.filter_cons]
  split <;> rfl
theorem betS_length (a b : Int) (S : List S73) : (betS a b S).length ≤ S.length := by
  unfold betS
  rw [List.length_map]
  exact List.length_filter_le _ _
theorem bet_length : ∀ (recs : List S71) (a b : Int), (∀ r ∈ recs, r.f3.length ≤ 100 ∧ r.f5.length ≤ 100) → (bet recs a b).length ≤ 100 * recs.length
  | [], _, _, _ => by simp [bet]
  | r :: recs, a, b, h => by
    have ih := bet_length recs a b (fun x hx => h x (List.mem_cons_of_mem _ hx))
    have h1 := betS_length a b r.f3
    have h2 := (h r (by simp)).1
    unfold bet at ih ⊢
    rw [List.flatMap_cons, List.length_append, List.length_cons]
    omega
theorem bet_l1 (a b : Int) (recs : List S71) (j : Nat) (S : List S73) (tail : List Int) (M : Nat) (hM : M + S.length ≤ 17592186044415) (hj : j ≤ 1000)
    (hk : ∀ acc : List Int, acc.length ≤ M + S.length → Ev (fun k => trace_Between.l0 k a b acc recs (recs.length : Int) ((j + 1 : Nat) : Int)) (acc ++ tail)) (d : Nat) : ∀ (i : Nat) (acc : List Int), i ≤ S.length → S.length - i = d → acc.length ≤ M + i →
    Ev (fun k => trace_Between.l1 k a b acc recs (recs.length : Int) (j : Int) S (S.length : Int) (i : Int)) (acc ++ (betS a b (S.drop i) ++ tail)) := by
  induction d with
  | zero =>
    intro i acc hi hd ha
    have e : i = S.length := by omega
    subst e
    refine Ev.step (f := fun k => trace_Between.l0 k a b acc recs (recs.length : Int) ((j + 1 : Nat) : Int)) (fun k => ?_) (ev_eq (hk acc ha) (by rw [List.drop_length]; rfl))
    simp only [trace_Between.l1]
    rw [if_neg (by omega), wrap_small (by omega) (by omega)]
    rfl
  | succ d ih =>
    intro i acc hi hd ha
    have hlt : i < S.length := by omega
    have hr : rd_T73 S (i : Int) = S[i] := by simp [rd_T73, hlt]
    have hd2 : S.drop i = S[i] :: S.drop (i + 1) := List.drop_eq_getElem_cons hlt
    have hw : wrap64 ((i : Int) + 1) = ((i + 1 : Nat) : Int) := by rw [wrap_small (by omega) (by omega)]; rfl
    by_cases hb : betB a b S[i] = true
    · refine Ev.step (f := fun k => trace_Between.l1 k a b (acc ++ [S[i].f0]) recs (recs.length : Int) (j : Int) S (S.length : Int) ((i + 1 : Nat) : Int)) (fun k => ?_) (ev_eq (ih (i + 1) (acc ++ [S[i].f0]) (by omega) (by omega) (by simp; omega)) (by rw [hd2, betS_cons, if_pos hb]; simp))
      simp only [trace_Between.l1]
      rw [if_pos (by omega), if_pos (by omega), if_pos (by omega), hr, hw]
      simp only [betB, Bool.or_eq_true, decide_eq_true_eq] at hb
      by_cases h1 : S[i].f1 = a
      · by_cases h2 : S[i].f2 = b
        · rw [if_pos h1, if_pos h2, if_pos (by omega)]
        · have h3 := hb.resolve_left (fun h => h2 h.2)
          rw [if_pos h1, if_neg h2, if_pos h3.1, if_pos h3.2, if_pos (by omega)]
      · have h3 := hb.resolve_left (fun h => h1 h.1)
        rw [if_neg h1, if_pos h3.1, if_pos h3.2, if_pos (by omega)]
    · refine Ev.step (f := fun k => trace_Between.l1 k a b acc recs (recs.length : Int) (j : Int) S (S.length : Int) ((i + 1 : Nat) : Int)) (fun k => ?_) (ev_eq (ih (i + 1) acc (by omega) (by omega) (by omega)) (by rw [hd2, betS_cons, if_neg hb]))
      simp only [trace_Between.l1]
      rw [if_pos (by omega), if_pos (by omega), if_pos (by omega), hr, hw]
      simp only [betB, Bool.or_eq_true, decide_eq_true_eq, not_or, not_and] at hb
      by_cases h1 : S[i].f1 = a
      · by_cases h2 : S[i].f2 = b
        · exact absurd h2 (hb.1 h1)
        · rw [if_pos h1, if_neg h2]
          by_cases h3 : S[i].f1 = b
          · rw [if_pos h3, if_neg (hb.2 h3)]
          · rw [if_neg h3]
      · rw [if_neg h1]
        by_cases h3 : S[i].f1 = b
        · rw [if_pos h3, if_neg (hb.2 h3)]
        · rw [if_neg h3]
theorem bet_l0 (a b : Int) (recs : List S71) (hr : RecsIn recs) (d : Nat) : ∀ (j : Nat) (acc : List Int), j ≤ recs.length → recs.length - j = d → acc.length ≤ 100 * j →
    Ev (fun k => trace_Between.l0 k a b acc recs (recs.length : Int) (j : Int)) (acc ++ bet (recs.drop j) a b) := by
  have h1000 := hr.1
  induction d with
  | zero =>
    intro j acc hj hd ha
    have e : j = recs.length := by omega
    subst e
    exact Ev.step (f := fun _ => some acc) (fun k => by simp only [trace_Between.l0]; rw [if_neg (by omega)]) (ev_some (by rw [List.drop_length]; simp [bet]))
  | succ d ih =>
    intro j acc hj hd ha
    have hlt : j < recs.length := by omega
    have hrd : rd_T71 recs (j : Int) = recs[j] := by simp [rd_T71, hlt]
    have hs := (hr.2 recs[j] (List.getElem_mem _)).1
    refine Ev.step (f := fun k => trace_Between.l1 k a b acc recs (recs.length : Int) (j : Int) recs[j].f3 (recs[j].f3.length : Int) ((0 : Nat) : Int)) (fun k => ?_) (ev_eq (bet_l1 a b recs j recs[j].f3 (bet (recs.drop (j + 1)) a b) (100 * j) (by omega) (by omega) (fun acc2 h2 => ih (j + 1) acc2 (by omega) (by omega) (by omega)) recs[j].f3.length 0 acc (by omega) (by omega) (by omega)) ?_)
    · simp only [trace_Between.l0]
      rw [if_pos (by omega), if_pos (by omega), if_pos (by omega), hrd]
      rfl
    · rw [List.drop_zero, List.drop_eq_getElem_cons hlt]
      unfold bet
      rw [List.flatMap_cons]
theorem between_is (recs : List S71) (hr : RecsIn recs) (a b : Int) : Ev (fun k => trace_Between.f k recs a b) (bet recs a b) := by
  unfold trace_Between.f
  exact ev_eq (bet_l0 a b recs hr recs.length 0 [] (by omega) (by omega) (by simp)) (by simp)

/-! a map whose keys are numbers, each element true -/
def idMap (ids : List Int) : DataW Unit := ids.foldl (fun m x => m.put (.int .i64 x) (.lit (.bool true))) (.map [])
theorem idMap_snoc (ids : List Int) (x : Int) : idMap (ids ++ [x]) = (idMap ids).put (.int .i64 x) (.lit (.bool true)) := by simp [idMap, List.foldl_append]
theorem idMap_look_r : ∀ (r : List Int) (x : Int), (idMap r.reverse).atKey (.int .i64 x) (.lit (.bool false)) = .lit (.bool (r.reverse.contains x)) ∧ Maps.IsMap (idMap r.reverse)
  | [], x => ⟨rfl, Maps.isMap_empty⟩
  | y :: r, x => by
    have ih := idMap_look_r r x
    rw [List.reverse_cons, idMap_snoc]
    refine ⟨?_, ih.2.put _ _⟩
    by_cases h : x = y
    · subst h
      rw [Maps.atKey_put_same (k := .int .i64 x) ih.2 True.intro]
      simp
    · rw [Maps.atKey_put_other (by intro e; cases e; exact h rfl), ih.1]
      simp [h]
theorem idMap_look (ids : List Int) (x : Int) : (idMap ids).atKey (.int .i64 x) (.lit (.bool false)) = .lit (.bool (ids.contains x)) := by
  have := (idMap_look_r ids.reverse x).1
  rwa [List.reverse_reverse] at this
theorem plain_bool_inv {P : Program} {e : TypeId} (he : P.underlying e = some .bool) {v : Value} {z : DataW Unit × List MemPlace} (h : plainElem P e v = some z) : ∃ x, v = .bool x ∧ z = (.lit (.bool x), []) := by
  unfold plainElem at h
  rw [he] at h
  cases v <;> simp at h
  exact ⟨_, rfl, h.symm⟩
theorem own_lookup_bool {P : Program} {w : World} {k e t : TypeId} {b n : Nat} {D : DataW Unit} (h : w.ownsMap P k (plainElem P e) b n D) (K : Keyed P k) (ht : P.underlying t = some (.map k e)) (he : P.underlying e = some .bool) (hz : (zeroValue e).run P w = .ok (.bool false) w)
    {key : Value} {kl : Lit} (hkey : Go.keyOf P k key = some kl) : ∃ c, (Instr.lookup t (.map (some b)) key false).run P w = .ok (.bool c) w ∧ D.atKey kl (.lit (.bool false)) = .lit (.bool c) := by
  obtain ⟨v, ps, hrun, hv⟩ := h.lookup K ht hz (plainElem_bool he false) hkey
  obtain ⟨c, rfl, hc⟩ := plain_bool_inv he hv
  simp only [Prod.mk.injEq] at hc
  exact ⟨c, hrun, hc.1⟩
end Go.Proofs.Ytiobphijbpdolaa.P
