/- The node of some rests (package graph), by our machine's rules. -/
import Derived.Test.YtffokmamcempgaaGraph2
namespace Go.Proofs.Ytffokmamcempgaa.P
open Go Go.RowKit Go.Proofs.Ytffokmamcempgaa.AM
set_option linter.unusedVariables false
set_option linter.unusedSimpArgs false
set_option maxRecDepth 100000
section
variable {n : Nat} {C : HC}
theorem look_found {P : Program} {H : Heap} {mb : Nat} {st : St} (hm : H.c.get mb = some (.map (entsF 0 st) st.length)) (hr : ∀ e ∈ st, Rs e.1) {rests : List Str} (h : Rs rests) (k : TypeId) :
    oLookup P H .s k (.int .i64 0) true (.map (some mb)) (sv (key rests)) = some (match findR st rests with | some i => .tuple #[.int .i64 (i : Int), .bool true] | none => .tuple #[.int .i64 0, .bool false], H) := by
  have hm : H.get mb = some (.map (entsF 0 st) st.length) := hm
  have hf := findS_ents rests h st 0 0 hr
  simp only [oLookup, hm, findE, show (bs (key rests)).data.toList = key rests from rfl, hf, Nat.add_zero, Option.map_id']
  cases hq : findR st rests with
  | none => simp only [Option.map_none, giveV]
  | some i =>
    have hi : i < st.length := (List.findIdx?_eq_some_iff_getElem.1 hq).1
    obtain ⟨k, b, hk⟩ := entsF_get st 0 i hi
    simp only [Option.map_some, hk, giveV, Nat.zero_add]
theorem set_new {P : Program} {H : Heap} {mb : Nat} {st : St} (hm : H.c.get mb = some (.map (entsF 0 st) st.length)) (hr : ∀ e ∈ st, Rs e.1) {rests : List Str} (h : Rs rests) (hn : findR st rests = none) (k : TypeId) (nd : Nd) :
    oMapSet P H .s k (.map (some mb)) (sv (key rests)) (.int .i64 (st.length : Int)) = some (undef, H.upd mb (.map (entsF 0 (st ++ [(rests, nd)])) (st ++ [(rests, nd)]).length)) := by
  have hm : H.get mb = some (.map (entsF 0 st) st.length) := hm
  have hf := findS_ents rests h st 0 0 hr
  rw [hn] at hf
  simp only [oMapSet, hm, findE, show (bs (key rests)).data.toList = key rests from rfl, hf, Option.map_none, entsF_append, Nat.zero_add, List.length_append, List.length_cons, List.length_nil]
/-- Of a row of texts, those ahead that begin so. -/
theorem tw_at {p : Str} : ∀ (l : List Str) (k : Nat), k ≤ (l.takeWhile (isP p)).length → ∀ (h : k < l.length), (isP p l[k] = true ↔ k < (l.takeWhile (isP p)).length)
  | [], k, _, h => by simp at h
  | x :: l, 0, _, _ => by
    rw [List.takeWhile_cons]
    cases hx : isP p x <;> simp [hx]
  | x :: l, k + 1, hk, h => by
    rw [List.takeWhile_cons] at hk ⊢
    cases hx : isP p x with
    | false => rw [hx] at hk; simp at hk
    | true =>
      rw [hx] at hk
      simp only [if_true, List.length_cons, List.getElem_cons_succ] at hk ⊢
      rw [tw_at l k (by omega) (by simpa using h)]
      omega
theorem tw_take {p : Str} (l : List Str) : l.takeWhile (isP p) = l.take (l.takeWhile (isP p)).length := (List.prefix_iff_eq_take.1 (List.takeWhile_prefix _))
theorem dw_drop {p : Str} (l : List Str) : l.dropWhile (isP p) = l.drop (l.takeWhile (isP p)).length := by
  have h := List.takeWhile_append_dropWhile (p := isP p) (l := l)
  have h2 := congrArg (List.drop (l.takeWhile (isP p)).length) h
  rw [List.drop_left] at h2
  exact h2
theorem node_found (w0 : C.wf) {n0 bb gb mb : Nat} {nv : Value} {nvs : List (Bool × Value)} {st : St} (hb : BAt n0 C bb gb mb nv nvs st) {v : Value} {rests : List Str} (hr : strRow C v (rests.map bs)) (h : Rs rests) (hl : rests.length < 1000000) (ht : tot rests < 1000000) {i : Nat} (hi : findR st rests = some i) :
    Pu (cf (n + 2)) 84 [.pointer (some ⟨bb, 0, none⟩), v] C (.int .i64 (i : Int)) := by
  have hbb := hb.b
  refine Pu.enter rfl rfl rfl fun H0 hH => ?_
  subst hH
  have hroom : room = 70368744177664 := rfl
  refine XC.then_ops ?_
  refine XO.op (o_move rfl) <| XO.nil <| ?_
  refine XC.then_ops ?_
  refine XO.op (o_move rfl) <| XO.pu (join_pu hr hl ht) rfl <| XO.op (o_move rfl) <| XO.nil <| ?_
  refine XC.assoc ?_
  refine XC.then_ops ?_
  refine XO.op (o_move rfl) <| XO.op (o_nilCheck rfl) <| XO.op (o_fieldAddr rfl) <| XO.op (o_get rfl hbb rfl) <| XO.op (o_move rfl) <| XO.op (o_lookup rfl rfl (look_found hb.m hb.r h _)) <| XO.op (o_move rfl) <| XO.op (o_extract (v := .int .i64 (i : Int)) (by show some (match findR st rests with | some i => Value.tuple #[.int .i64 (i : Int), .bool true] | none => .tuple #[.int .i64 0, .bool false]) = _; rw [hi]) rfl) <| ?_
  refine XO.op (o_extract (v := .bool true) (by show some (match findR st rests with | some i => Value.tuple #[.int .i64 (i : Int), .bool true] | none => .tuple #[.int .i64 0, .bool false]) = _; rw [hi]) rfl) <| XO.op (o_move rfl) <| XO.op (o_move rfl) <| XO.nil <| ?_
  refine XC.assoc ?_
  refine XC.then_ops ?_
  refine XO.op (o_move rfl) <| XO.nil <| ?_
  refine XC.push_t (rfl) ?_
  refine XC.assoc ?_
  refine XC.then_ops ?_
  refine XO.op (o_move rfl) <| XO.op (o_move rfl) <| XO.nil <| ?_
  refine XC.then_ret ?_
  refine ⟨_, rfl, ?_⟩
  exact ⟨rfl, rfl⟩
theorem o_cutB {cf : CallF} {P : Program} {L : Lv} {H : Heap} {x : Arg} {l : Str} {a b : Option Arg} {lo hi : Option Nat} (hx : av L x = some (sv l)) (ha : avN L a = some lo) (hb : avN L b = some hi) (h1 : lo.getD 0 ≤ hi.getD l.length) (h2 : hi.getD l.length ≤ l.length) : AM.Op P cf L H (.cutS x a b) (sv ((l.drop (lo.getD 0)).take (hi.getD l.length - lo.getD 0))) H := by
  have h := o_cutS (P := P) (cf := cf) (H := H) (s := bs l) hx ha hb (by rw [bs_size]; exact h1) (by rw [bs_size]; exact h2)
  rwa [ext_bs, bs_size] at h
theorem Chg.two {S S' : Nat → Prop} {C D E : HC} (h : Chg S C D) (k : Chg S' D E) : Chg (fun b => S b ∨ S' b) C E := (h.wide fun _ q => .inl q).trans (k.wide fun _ q => .inr q)
/-- Behind three writes a builder has a node more. -/
theorem BAt.push {n0 : Nat} {C0 C1 C2 C3 C4 : HC} {bb gb mb : Nat} {nv nv' : Value} {nvs : List (Bool × Value)} {st : St} (hb : BAt n0 C0 bb gb mb nv nvs st) {rests : List Str} (h : Rs rests)
    (c1 : Chg (· = mb) C0 C1) (hm : C1.get mb = some (.map (entsF 0 (st ++ [(rests, nd0)])) (st ++ [(rests, nd0)]).length)) (c2 : Gr C1 C2) (c3 : Chg (fun b => blockOf nv = some b) C2 C3) (hn : Ow C3 121 2 nv' (st.length + 1) ((nvs.map ndCs).flatten ++ ndCs (false, .slice none 0 0))) (hnn : inS (n0 ≤ ·) nv') (hng : inS (fun b => ¬ b = gb) nv')
    (c4 : Chg (· = gb) C3 C4) (hg : C4.get gb = some (.cells true 119 [nv'])) : BAt n0 C4 bb gb mb nv' (nvs ++ [(false, .slice none 0 0)]) (st ++ [(rests, nd0)]) := by
  have hc := hb.b
  have hgb := hb.g
  have hmb := hb.m
  have nbm : bb ≠ mb := fun e => by rw [e, hmb] at hc; cases hc
  have nbg : bb ≠ gb := fun e => by rw [e, hgb] at hc; cases hc
  have ngm : gb ≠ mb := fun e => by rw [e, hmb] at hgb; cases hgb
  have kb := hb.n.rw.ne hb.b (fun own ds e => by cases e)
  have km := hb.n.rw.ne hb.m (fun own ds e => by cases e)
  have kg := hb.n.rw.ne hb.g (fun own ds e => by cases e)
  have x1 := c4.at (c3.at (c2.at (c1.at hb.b nbm)) (fun q => kb _ q rfl)) nbg
  have x2 := c4.at (c3.at (c2.at hm) (fun q => km _ q rfl)) (fun q => ngm q.symm)
  refine ⟨x1, hg, x2, ?_, by simp [hb.l], ?_, ?_, hb.ng, hb.nm, hnn⟩
  · have := hn.chg c4 hng
    rw [List.map_append, List.flatten_append, List.length_append]
    simpa using this
  · intro i a b
    by_cases hi : i < nvs.length
    · have hi2 : i < st.length := by rw [← hb.l]; exact hi
      rw [List.getElem_append_left hi, List.getElem_append_left hi2]
      obtain ⟨e1, e2⟩ := hb.e i hi hi2
      refine ⟨e1, ?_⟩
      have z1 := e2.ne hb.m (fun own ds e => by cases e)
      have z2 := e2.ne hb.g (fun own ds e => by cases e)
      have z3 := e2.apart hb.n.rw (by decide)
      exact (((e2.chg c1 z1).gr c2).chg c3 z3).chg c4 z2
    · have e : nvs.length = st.length := hb.l
      have hi2 : i = nvs.length := by simp at a; omega
      have g1 : (nvs ++ [(false, Value.slice none 0 0)])[i] = (false, Value.slice none 0 0) := by rw [List.getElem_append_right (by omega)]; simp [hi2]
      have g2 : (st ++ [(rests, nd0)])[i] = (rests, nd0) := by rw [List.getElem_append_right (by omega)]; simp [hi2, e]
      rw [g1, g2]
      exact ⟨rfl, Rw.nil⟩
  · intro x hx
    rcases List.mem_append.1 hx with hx | hx
    · exact hb.r x hx
    · rw [List.mem_singleton.1 hx]; exact h
/-- Behind a last write a builder's node is told. -/
theorem BAt.put {n0 : Nat} {C D : HC} {bb gb mb : Nat} {nv : Value} {nvs : List (Bool × Value)} {st : St} (hb : BAt n0 C bb gb mb nv nvs st) {i : Nat} (hi : i < st.length) {rests : List Str} (hr : st[i].1 = rests) (nd : Nd) {ev : Value} (he : edRow C ev nd.es)
    (c : Chg (fun b => blockOf nv = some b) C D) (hn : Ow D 121 2 nv st.length ((nvs.set i (nd.fin, ev)).map ndCs).flatten) : BAt n0 D bb gb mb nv (nvs.set i (nd.fin, ev)) (st.set i (rests, nd)) := by
  have kb := hb.n.rw.ne hb.b (fun own ds e => by cases e)
  have km := hb.n.rw.ne hb.m (fun own ds e => by cases e)
  have kg := hb.n.rw.ne hb.g (fun own ds e => by cases e)
  refine ⟨c.at hb.b (fun q => kb _ q rfl), c.at hb.g (fun q => kg _ q rfl), ?_, by rw [List.length_set]; exact hn, by simp [hb.l], ?_, ?_, hb.ng, hb.nm, hb.nn⟩
  · rw [entsF_set st 0 i (rests, nd) hi hr.symm, List.length_set]
    exact c.at hb.m (fun q => km _ q rfl)
  · intro j a b
    rw [List.length_set] at a b
    by_cases hj : j = i
    · subst hj
      rw [List.getElem_set_self, List.getElem_set_self]
      exact ⟨rfl, he.chg c (he.apart hb.n.rw (by decide))⟩
    · rw [List.getElem_set_ne (fun e => hj e.symm), List.getElem_set_ne (fun e => hj e.symm)]
      obtain ⟨e1, e2⟩ := hb.e j a b
      exact ⟨e1, e2.chg c (e2.apart hb.n.rw (by decide))⟩
  · intro x hx
    rcases List.mem_or_eq_of_mem_set hx with hx | hx
    · exact hb.r x hx
    · rw [hx]; show Rs rests; rw [← hr]; exact hb.r _ (List.getElem_mem hi)
theorem BAt.elt {n0 : Nat} {C : HC} {bb gb mb : Nat} {nv : Value} {nvs : List (Bool × Value)} {st : St} (hb : BAt n0 C bb gb mb nv nvs st) (w : C.wf) : ∀ p ∈ nvs, inS (· < C.next) p.2 := fun p hp => by
  obtain ⟨i, hi, rfl⟩ := List.mem_iff_getElem.1 hp
  exact (hb.e i hi (by rw [← hb.l]; exact hi)).2.lt w
/-- What a builder's own accumulators keep it as it was. -/
theorem BAt.own {n0 : Nat} {C D : HC} {bb gb mb : Nat} {nv u : Value} {nvs : List (Bool × Value)} {st : St} (hb : BAt n0 C bb gb mb nv nvs st) {e sz k : Nat} {cs : List Value} (hu : Rw C e sz u k cs) (he : ¬ (e = 130 ∨ e = 121 ∨ e = 119)) (hap : ∀ p ∈ nvs, inS (fun q => ¬ blockOf u = some q) p.2)
    (c : Chg (fun b => blockOf u = some b) C D) : BAt n0 D bb gb mb nv nvs st := by
  have kb := hu.ne hb.b (fun own ds q => by cases q; exact he (.inl rfl))
  have km := hu.ne hb.m (fun own ds q => by cases q)
  have kg := hu.ne hb.g (fun own ds q => by cases q; exact he (.inr (.inr rfl)))
  exact hb.chg c (fun q => kb _ q rfl) (fun q => kg _ q rfl) (fun q => km _ q rfl) (hb.n.rw.apart hu fun q => he (.inr (.inl q.symm))) hap
end
end Go.Proofs.Ytffokmamcempgaa.P
