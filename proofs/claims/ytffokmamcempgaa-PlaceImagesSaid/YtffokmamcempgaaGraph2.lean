/- The builder's nodes (package graph), by our machine's rules. -/
import Derived.Test.YtffokmamcempgaaGraph
namespace Go.Proofs.Ytffokmamcempgaa.P
open Go Go.RowKit Go.Proofs.Ytffokmamcempgaa.AM
set_option linter.unusedVariables false
set_option linter.unusedSimpArgs false
set_option maxRecDepth 100000
/-! the builder, as it lies -/
def edCs (e : Int × Nat) : List Value := [.int .i32 e.1, .int .i64 (e.2 : Int)]
theorem edCs_len (e : Int × Nat) : (edCs e).length = 2 := rfl
abbrev edRow (C : HC) (v : Value) (es : List (Int × Nat)) : Prop := Rw C 116 2 v es.length (es.map edCs).flatten
abbrev edOw (C : HC) (v : Value) (es : List (Int × Nat)) : Prop := Ow C 116 2 v es.length (es.map edCs).flatten
def ndCs (p : Bool × Value) : List Value := [.bool p.1, p.2]
theorem ndCs_len (p : Bool × Value) : (ndCs p).length = 2 := rfl
def entsF : Nat → St → List MapEntry
  | _, [] => []
  | j, e :: st => ⟨sv (key e.1), .int .i64 (j : Int), j⟩ :: entsF (j + 1) st
theorem entsF_append : ∀ (st : St) (j : Nat) (e : List Str × Nd), entsF j (st ++ [e]) = entsF j st ++ [⟨sv (key e.1), .int .i64 ((j + st.length : Nat) : Int), j + st.length⟩]
  | [], j, e => rfl
  | d :: st, j, e => by
    simp only [List.cons_append, entsF]
    rw [entsF_append st (j + 1) e]
    simp only [List.cons_append, List.length_cons, show j + 1 + st.length = j + (st.length + 1) by omega]
theorem entsF_set : ∀ (st : St) (j i : Nat) (e : List Str × Nd) (h : i < st.length), e.1 = (st[i]).1 → entsF j (st.set i e) = entsF j st
  | d :: st, j, 0, e, h, he => by
    simp only [List.getElem_cons_zero] at he
    simp only [List.set_cons_zero, entsF, he]
  | d :: st, j, i + 1, e, h, he => by
    simp only [List.set_cons_succ, entsF]
    rw [entsF_set st (j + 1) i e (by simpa using h) (by simpa using he)]
theorem eqL_iff : ∀ a b : List UInt8, eqL a b = decide (a = b)
  | [], [] => rfl
  | [], b :: l => by simp [eqL]
  | a :: l, [] => by simp [eqL]
  | a :: x, b :: y => by
    unfold eqL
    cases h : Nat.beq a.toNat b.toNat with
    | true =>
      have : a = b := UInt8.toNat_inj.1 (Nat.eq_of_beq_eq_true h)
      subst this
      simp only [eqL_iff x y, List.cons.injEq, true_and]
    | false =>
      have : a ≠ b := fun e => by subst e; rw [Nat.beq_refl] at h; cases h
      simp [this]
theorem findS_ents (rests : List Str) (hr : Rs rests) : ∀ (st : St) (j i : Nat), (∀ e ∈ st, Rs e.1) → findS (key rests) (entsF j st) i = some ((findR st rests).map (· + i))
  | [], j, i, _ => rfl
  | e :: st, j, i, h => by
    have ih := findS_ents rests hr st (j + 1) (i + 1) fun x hx => h x (List.mem_cons_of_mem _ hx)
    unfold entsF findS
    have hz : (bs (key e.1)).data.toList = key e.1 := rfl
    simp only [eqL_iff, hz]
    unfold findR at ih ⊢
    rw [List.findIdx?_cons]
    by_cases he : e.1 = rests
    · rw [show decide (key rests = key e.1) = true from decide_eq_true (by rw [he]), show decide (e.1 = rests) = true from decide_eq_true he]
      simp
    · rw [show decide (e.1 = rests) = false from decide_eq_false he, show decide (key rests = key e.1) = false from decide_eq_false fun q => he (key_inj (h e List.mem_cons_self) hr q.symm)]
      simp only [ih, Bool.false_eq_true, if_false, Option.map_map]
      congr 2
      funext x
      simp only [Function.comp]
      omega
theorem entsF_get : ∀ (st : St) (j i : Nat), i < st.length → ∃ k b, (entsF j st)[i]? = some ⟨k, .int .i64 ((j + i : Nat) : Int), b⟩
  | e :: st, j, 0, _ => ⟨_, _, rfl⟩
  | e :: st, j, i + 1, h => by
    obtain ⟨k, b, hk⟩ := entsF_get st (j + 1) i (by simpa using h)
    exact ⟨k, b, by rw [entsF, List.getElem?_cons_succ, hk, show j + 1 + i = j + (i + 1) by omega]⟩
/-- Blocks that a builder's calls may change. -/
def nTy : Blk → Prop
  | .cells _ e _ => e = 121 ∨ e = 119
  | .map _ _ => True
  | .iter _ _ => False
abbrev SN (n0 : Nat) (C : HC) (b : Nat) : Prop := n0 ≤ b ∧ ∀ B, C.get b = some B → nTy B
abbrev ChgN (n0 : Nat) (C D : HC) : Prop := Chg (SN n0 C) C D
section
variable {C D E : HC} {n0 : Nat}
theorem ChgN.trans' (h : ChgN n0 C D) (k : ChgN n0 D E) : ChgN n0 C E := ⟨Nat.le_trans h.next k.next, fun b B hb hg => k.get b B (fun q => hb ⟨q.1, fun B' hB' => by
  rw [hg] at hB'
  cases hB'
  exact q.2 B (h.get b B hb hg)⟩) (h.get b B hb hg), fun w => k.wf (h.wf w)⟩
theorem ChgN.ty (g : ChgN n0 C D) {q : Nat} {B' : Blk} (hD : D.get q = some B') (hB : nTy B') : ∀ B, C.get q = some B → nTy B := fun B h => by
  by_cases hs : SN n0 C q
  · exact hs.2 B h
  · have := g.get q B hs h
    rw [hD] at this
    cases this
    exact hB
theorem Rw.chgN {e sz n : Nat} {v : Value} {cs : List Value} (h : Rw C e sz v n cs) (g : ChgN n0 C D) (he : ¬ (e = 121 ∨ e = 119)) : Rw D e sz v n cs := by
  rcases h with h | ⟨b, off, cap, own, all, h1, h0, h2, h3⟩
  · exact .inl h
  · exact .inr ⟨b, off, cap, own, all, h1, h0, g.get _ _ (fun q => he (q.2 _ h2)) h2, h3⟩
theorem Ow.chgN {e sz n : Nat} {v : Value} {cs : List Value} (h : Ow C e sz v n cs) (g : ChgN n0 C D) (he : ¬ (e = 121 ∨ e = 119)) : Ow D e sz v n cs := by
  rcases h with h | ⟨b, c, h1, h0, h2, h3⟩
  · exact .inl h
  · exact .inr ⟨b, c, h1, h0, g.get _ _ (fun q => he (q.2 _ h2)) h2, h3⟩
/-- A builder: what was found, nodes; nvs: the nodes' cells. -/
structure BAt (n0 : Nat) (C : HC) (bb gb mb : Nat) (nv : Value) (nvs : List (Bool × Value)) (st : St) : Prop where
  b : C.get bb = some (.cells true 130 [.pointer (some ⟨gb, 0, none⟩), .map (some mb)])
  g : C.get gb = some (.cells true 119 [nv])
  m : C.get mb = some (.map (entsF 0 st) st.length)
  n : Ow C 121 2 nv st.length (nvs.map ndCs).flatten
  l : nvs.length = st.length
  e : ∀ (i : Nat) (h : i < nvs.length) (h2 : i < st.length), nvs[i].1 = st[i].2.fin ∧ edRow C nvs[i].2 st[i].2.es
  r : ∀ x ∈ st, Rs x.1
  ng : n0 ≤ gb
  nm : n0 ≤ mb
  nn : inS (n0 ≤ ·) nv
theorem BAt.chg {S : Nat → Prop} {bb gb mb : Nat} {nv : Value} {nvs : List (Bool × Value)} {st : St} (h : BAt n0 C bb gb mb nv nvs st) (g : Chg S C D) (h1 : ¬ S bb) (h2 : ¬ S gb) (h3 : ¬ S mb) (h4 : inS (fun q => ¬ S q) nv) (h5 : ∀ p ∈ nvs, inS (fun q => ¬ S q) p.2) : BAt n0 D bb gb mb nv nvs st :=
  ⟨g.at h.b h1, g.at h.g h2, g.at h.m h3, h.n.chg g h4, h.l, fun i a b => ⟨(h.e i a b).1, (h.e i a b).2.chg g (h5 _ (List.getElem_mem a))⟩, h.r, h.ng, h.nm, h.nn⟩
theorem BAt.gr {bb gb mb : Nat} {nv : Value} {nvs : List (Bool × Value)} {st : St} (h : BAt n0 C bb gb mb nv nvs st) (g : Gr C D) : BAt n0 D bb gb mb nv nvs st :=
  h.chg g id id id (fun _ _ => id) fun _ _ _ _ => id
end
section
variable {n : Nat} {C : HC}
theorem strs_map (l : List ByteArray) : strsOf (l.map Value.string) = some l := by
  induction l with
  | nil => rfl
  | cons x l ih => simp only [List.map_cons, strsOf, ih, Option.map_some]
theorem key_len : ∀ (l : List Str), (key l).length ≤ tot l + l.length
  | [] => by simp [key, Lib.join_nil]
  | x :: l => by
    unfold key
    rw [Lib.join_cons]
    have : ∀ m : List Str, (Lib.joinTail [255] m).length = tot m + m.length := by
      intro m
      induction m with
      | nil => simp [Lib.joinTail, tot]
      | cons y m ih => simp only [Lib.joinTail, List.map_cons, List.flatten_cons, List.length_append, List.length_cons, List.length_nil, tot, List.sum_cons] at ih ⊢; omega
    rw [List.length_append, this]
    simp only [tot, List.map_cons, List.sum_cons, List.length_cons]
    omega
theorem joinE (l : List Str) : joinL [255] (l.map bs) = key l := by
  rw [joinL_eq]
  unfold key
  congr 1
  rw [List.map_map]
  exact List.map_id' l
theorem join_pu {v : Value} {l : List Str} (hr : strRow C v (l.map bs)) (hl : l.length < 1000000) (ht : tot l < 1000000) : Pu (cf (n + 1)) 99 [v, .string ⟨#[255]⟩] C (sv (key l)) := fun H hH => by
  subst hH
  have hk := key_len l
  have e : strsOf ((l.map bs).map Value.string) = some (l.map bs) := strs_map _
  show extJoin [v, .string ⟨#[255]⟩] H = _
  rcases hr with ⟨rfl, hn, hc⟩ | ⟨b, off, cap, own, all, rfl, h0, hg, hcut⟩
  · have : l = [] := by simpa using hn
    subst this
    rfl
  · have hg : H.get b = some (.cells own 9 all) := hg
    rw [Nat.mul_one] at hcut
    have h1 : little (l.map bs).length = true := Nat.ble_eq_true_of_le (by rw [List.length_map]; omega)
    have h2 : little (key l).length = true := Nat.ble_eq_true_of_le (by omega)
    simp only [extJoin, hg, hcut, Option.bind_some, e, show (⟨#[255]⟩ : ByteArray).data.toList = [255] from rfl, joinE, h1, h2]
    rfl
end
end Go.Proofs.Ytffokmamcempgaa.P
