/- A machine of our own: arguments that are rows of the caller's. -/
import Derived.Test.YtffokmamcempgaaAMZ
import Derived.Test.YtffokmamcempgaaWWords
namespace Go.Proofs.Ytffokmamcempgaa.AM
open Go Go.RowKit Go.Proofs.YtffokmamcempgaaW.PrintWords
set_option linter.unusedVariables false
set_option linter.unusedSimpArgs false

def inHeapFrom (H : Heap) : List (TypeId × List Value) → Heap
  | [] => H
  | r :: l => inHeapFrom (H.new (.cells false r.1 r.2)) l
def inHeap (rows : List (TypeId × List Value)) : Heap := inHeapFrom noHeap rows
theorem inHeapFrom_get : ∀ (rows : List (TypeId × List Value)) (H : Heap) (b : Nat), WF H → (inHeapFrom H rows).get b = if b < H.next then H.get b else (rows[b - H.next]?).map fun r => .cells false r.1 r.2
  | [], H, b, w => by
    simp only [inHeapFrom, List.getElem?_nil, Option.map_none]
    split
    · rfl
    · exact w b (by omega)
  | r :: l, H, b, w => by
    have hn : (H.new (.cells false r.1 r.2)).next = H.next + 1 := rfl
    rw [inHeapFrom, inHeapFrom_get l _ b w.new, Heap.get_new, hn]
    by_cases h1 : b < H.next
    · rw [if_pos (by omega), if_neg (by omega), if_pos h1]
    · by_cases h2 : b = H.next
      · subst h2
        rw [if_pos (by omega), if_pos rfl, if_neg (by omega), Nat.sub_self]
        rfl
      · rw [if_neg (by omega), if_neg h1, show b - H.next = (b - (H.next + 1)) + 1 by omega, List.getElem?_cons_succ]
theorem inHeapFrom_next : ∀ (rows : List (TypeId × List Value)) (H : Heap), (inHeapFrom H rows).next = H.next + rows.length
  | [], H => rfl
  | r :: l, H => by
    rw [inHeapFrom, inHeapFrom_next l]
    have hn : (H.new (.cells false r.1 r.2)).next = H.next + 1 := rfl
    rw [hn, List.length_cons]
    omega
theorem inHeap_get (rows : List (TypeId × List Value)) (b : Nat) : (inHeap rows).get b = (rows[b]?).map fun r => .cells false r.1 r.2 := by
  rw [inHeap, inHeapFrom_get rows noHeap b noHeap_wf, if_neg (by simp [noHeap])]
  rfl
theorem inHeap_next (rows : List (TypeId × List Value)) : (inHeap rows).next = rows.length := by
  rw [inHeap, inHeapFrom_next]
  simp [noHeap]
theorem inHeap_wf (rows : List (TypeId × List Value)) : WF (inHeap rows) := fun b hb => by
  rw [inHeap_next] at hb
  rw [inHeap_get, List.getElem?_eq_none hb]
  rfl
def renOf (locs : List (Option Loc)) : Ren := fun b => (locs[b]?).join
theorem in_HR {P : Program} {W : World} {rows : List (TypeId × List Value)} {locs : List (Option Loc)} (hl : locs.length = rows.length)
    (h : ∀ (i : Nat) (l : Loc) (r : TypeId × List Value), locs[i]? = some (some l) → rows[i]? = some r → l.own = false ∧ ∃ arr elem' fr, W.heap[l.c]? = some (.cells arr elem' fr) ∧ arr.size = l.n ∧ sizeP P r.1 = some l.e ∧
      ∀ (k : Nat) (v : Value), r.2[k]? = some v → ∃ v', arr[l.s + k]? = some v' ∧ VR (renOf locs) v v') : HR P (renOf locs) (inHeap rows) W W := by
  have key : ∀ b l, renOf locs b = some l → locs[b]? = some (some l) := fun b l e => by
    unfold renOf at e
    cases hb : locs[b]? with
    | none => rw [hb] at e; cases e
    | some o => rw [hb] at e; cases o with
      | none => cases e
      | some l' => simp only [Option.join_some] at e; rw [e]
  have hrow : ∀ b l, renOf locs b = some l → ∃ r, rows[b]? = some r := fun b l e => by
    have := (List.getElem?_eq_some_iff.1 (key b l e)).1
    exact ⟨_, List.getElem?_eq_getElem (by omega)⟩
  have hlt : ∀ b l, renOf locs b = some l → l.c < W.heap.size := fun b l e => by
    obtain ⟨r, hr⟩ := hrow b l e
    obtain ⟨_, arr, e', fr, h1, _⟩ := h b l r (key b l e) hr
    exact (Array.getElem?_eq_some_iff.1 h1).1
  refine ⟨Below.refl _ _, fun b l e => ⟨?_, hlt b l e⟩, fun b l B e hB => ?_, fun b b' l l' B B' e e' hB hB' ho => ?_, fun b hb => inHeap_wf rows b hb⟩
  · rw [inHeap_next]
    obtain ⟨r, hr⟩ := hrow b l e
    exact (List.getElem?_eq_some_iff.1 hr).1
  · obtain ⟨r, hr⟩ := hrow b l e
    rw [inHeap_get, hr] at hB
    cases hB
    obtain ⟨h0, arr, e', fr, h1, h2, h3, h4⟩ := h b l r (key b l e) hr
    exact ⟨arr, e', fr, h1, h0, h2, h3, h4, (fun hf => absurd hf (by decide)), fun _ => hlt b l e⟩
  · rw [inHeap_get] at hB
    cases hr : rows[b]? with
    | none => rw [hr] at hB; cases hB
    | some r => rw [hr] at hB; cases hB; cases ho
/-- Where a caller's row lies: nowhere, or in a block of the memory that was there. -/
def InSl (W : World) (A : Option Addr) (n c : Nat) : Prop := (A = none ∧ n = 0 ∧ c = 0) ∨ ∃ b off arr e fr, A = some ⟨b, off, none⟩ ∧ W.heap[b]? = some (.cells arr e fr) ∧ n ≤ c
theorem okWide_in {P : Program} {W : World} {r : Reach} {base : Nat} {t e : TypeId} {A : Option Addr} {n c : Nat} (ht : P.underlying t = some (.slice e)) (h : Value.okWide P W r base t (.slice A n c)) : InSl W A n c := by
  simp only [Value.okWide, ht, Cell.okWide, Cell.ok] at h
  split at h
  all_goals first
    | exact h.elim
    | (rename_i h1 h2; exact Value.noConfusion h2)
    | skip
  · rename_i h1 h2
    cases h2
    exact .inl ⟨rfl, rfl, rfl⟩
  · rename_i e' a len cap h1 h2
    cases h2
    obtain ⟨h3, h4, _, h5, row, cells, h6, _⟩ := h
    unfold World.shape? at h6
    split at h6
    · rename_i arr elem fr hg
      refine .inr ⟨a.block, a.off, arr, elem, fr, ?_, hg, h3⟩
      cases a
      simp only at h5
      subst h5
      rfl
    · cases h6
/-- A caller's row: where, how many, what room; the elements' type and size; its cells. -/
structure InRow where
  A : Option Addr
  n : Nat
  c : Nat
  e : TypeId
  sz : Nat
  vs : List Value
def absV (r : InRow) (i : Nat) : Value := match r.A with | none => .slice none 0 0 | some _ => .slice (some ⟨i, 0, none⟩) r.n r.c
def absL (W : World) (r : InRow) : Option Loc := match r.A with
  | none => none
  | some ad => match W.heap[ad.block]? with
    | some (.cells arr _ _) => some ⟨ad.block, ad.off, arr.size, r.sz, false⟩
    | _ => none
structure RowOk (P : Program) (W : World) (r : InRow) : Prop where
  sl : InSl W r.A r.n r.c
  len : r.vs.length = r.n * r.sz
  size : sizeP P r.e = some r.sz
  cells : ∀ ad, r.A = some ad → ∀ k v, r.vs[k]? = some v → W.cell? (ad.add k) = some v
  plain : ∀ v ∈ r.vs, plainV 8 v = true
def rowsOf (rs : List InRow) : List (TypeId × List Value) := rs.map fun r => (r.e, r.vs)
def locsOf (W : World) (rs : List InRow) : List (Option Loc) := rs.map (absL W)
section
variable {P : Program} {W : World} {rs : List InRow}
theorem rows_HR (h : ∀ r ∈ rs, RowOk P W r) : HR P (renOf (locsOf W rs)) (inHeap (rowsOf rs)) W W := by
  refine in_HR (by simp [rowsOf, locsOf]) fun i l r hl hr => ?_
  simp only [locsOf, List.getElem?_map, Option.map_eq_some_iff] at hl
  simp only [rowsOf, List.getElem?_map, Option.map_eq_some_iff] at hr
  obtain ⟨q, hq, hl⟩ := hl
  obtain ⟨q', hq', rfl⟩ := hr
  rw [hq] at hq'
  cases hq'
  have ok := h q (List.mem_of_getElem? hq)
  unfold absL at hl
  split at hl <;> (try (cases hl; done))
  rename_i ad hA
  split at hl <;> (try (cases hl; done))
  rename_i arr e' fr hg
  cases hl
  refine ⟨rfl, arr, e', fr, hg, rfl, ok.size, fun k v hv => ⟨v, ?_, plain_refl _ 8 v (ok.plain v (List.mem_of_getElem? hv))⟩⟩
  have hc := ok.cells ad hA k v hv
  rcases ok.sl with ⟨h1, _⟩ | ⟨b, off, arr2, e2, fr2, h1, h2, _⟩
  · rw [h1] at hA; cases hA
  · rw [h1] at hA
    cases hA
    rw [add_none] at hc
    simpa [World.cell?, hg] using hc
theorem row_VR (h : ∀ r ∈ rs, RowOk P W r) {i : Nat} {r : InRow} (hi : rs[i]? = some r) : VR (renOf (locsOf W rs)) (absV r i) (.slice r.A r.n r.c) := by
  have ok := h r (List.mem_of_getElem? hi)
  rcases ok.sl with ⟨h1, h2, h3⟩ | ⟨b, off, arr, e, fr, h1, h2, h3⟩
  · simp only [absV, h1, h2, h3]; exact .sliceNil
  · have hl : renOf (locsOf W rs) i = some ⟨b, off, arr.size, r.sz, false⟩ := by
      simp only [renOf, locsOf, List.getElem?_map, hi, Option.map_some, Option.join_some, absL, h1, h2]
    simp only [absV, h1]
    exact .slice i 0 off r.n r.c r.c ⟨b, off, arr.size, r.sz, false⟩ hl (.inl rfl) h3 (.inl (by simp)) (fun hf => Bool.noConfusion hf)
theorem row_Row (h : ∀ r ∈ rs, RowOk P W r) {i : Nat} {r : InRow} (hi : rs[i]? = some r) : Row (inHeap (rowsOf rs)) r.e r.sz (absV r i) r.n r.vs := by
  have ok := h r (List.mem_of_getElem? hi)
  have hg : (inHeap (rowsOf rs)).get i = some (.cells false r.e r.vs) := by
    rw [inHeap_get]
    simp only [rowsOf, List.getElem?_map, hi, Option.map_some]
  rcases ok.sl with ⟨h1, h2, h3⟩ | ⟨b, off, arr, e, fr, h1, h2, h3⟩
  · refine .inl ⟨by simp only [absV, h1], h2, ?_⟩
    have := ok.len
    rw [h2, Nat.zero_mul] at this
    exact List.length_eq_zero_iff.1 this
  · exact .inr ⟨i, 0, r.c, false, r.vs, by simp only [absV, h1], hg, by rw [← ok.len]; exact lcut_all _⟩
theorem Row.abs {H : Heap} {r : InRow} {i : Nat} (hs : InSl W r.A r.n r.c) (hl : r.vs.length = r.n * r.sz) (hg : H.get i = some (.cells false r.e r.vs)) : Row H r.e r.sz (absV r i) r.n r.vs := by
  rcases hs with ⟨h1, h2, h3⟩ | ⟨b, off, arr, e, fr, h1, h2, h3⟩
  · refine .inl ⟨by simp only [absV, h1], h2, ?_⟩
    rw [h2, Nat.zero_mul] at hl
    exact List.length_eq_zero_iff.1 hl
  · exact .inr ⟨i, 0, r.c, false, r.vs, by simp only [absV, h1], hg, by rw [← hl]; exact lcut_all _⟩
/-- A call with a caller's rows, shown by the rules. -/
theorem Runs.callsIn {E : Env} (hE : EnvOk P E) {n f : Nat} {args args' : List Value} {u : Value} (h : ∀ r ∈ rs, RowOk P W r) (hr : Runs (callN P E n) f args (inHeap (rowsOf rs)) fun v _ => v = u) (hl : LR (renOf (locsOf W rs)) args args') (hv : plainV 9 u = true) :
    Calls P f ⟨args'⟩ W fun e w' => e = .returned u ∧ Below W.heap.size W w' := by
  obtain ⟨v, H', h1, rfl⟩ := hr
  refine ((call_sound_all hE n f args _ v H' h1).2 _ W W args' (rows_HR h) hl).mono fun e w' he => ?_
  obtain ⟨v', ρ', rfl, hpost, hr⟩ := he
  rw [plain_same 9 v v' hv hr]
  exact ⟨rfl, hpost.hr.below⟩
end
/-- A caller's row of elements without rows of their own. -/
theorem rowOk_of {P : Program} {α : Type} {d : Kd α} {W : World} {A : Option Addr} {c : Nat} {xs : List α} {enc : α → List Value} {e : TypeId} (hc : d.C W A xs.length xs) (hs : InSl W A xs.length c) (he : ∀ x cs, d.K W x cs → cs = enc x) (hlen : ∀ x, (enc x).length = d.sz) (h0 : 0 < d.sz) (hp : ∀ x, ∀ v ∈ enc x, plainV 8 v = true) (hsz : sizeP P e = some d.sz) :
    RowOk P W ⟨A, xs.length, c, e, d.sz, (xs.map enc).flatten⟩ := by
  have flat : ∀ (l : List α) (k : Nat) (v : Value), ((l.map enc).flatten)[k]? = some v → ∃ x, l[k / d.sz]? = some x ∧ (enc x)[k % d.sz]? = some v := by
    intro l
    induction l with
    | nil => intro k v hv; simp at hv
    | cons x l ih =>
      intro k v hv
      rw [List.map_cons, List.flatten_cons] at hv
      by_cases hk : k < d.sz
      · rw [List.getElem?_append_left (by rw [hlen]; exact hk)] at hv
        exact ⟨x, by rw [Nat.div_eq_of_lt hk]; rfl, by rw [Nat.mod_eq_of_lt hk]; exact hv⟩
      · rw [List.getElem?_append_right (by rw [hlen]; omega), hlen] at hv
        obtain ⟨y, h1, h2⟩ := ih (k - d.sz) v hv
        refine ⟨y, ?_, ?_⟩
        · rw [show k / d.sz = (k - d.sz) / d.sz + 1 by rw [Nat.div_eq_sub_div h0 (by omega)], List.getElem?_cons_succ]; exact h1
        · rw [Nat.mod_eq_sub_mod (by omega)]; exact h2
  refine ⟨hs, ?_, hsz, fun ad hA k v hv => ?_, fun v hv => ?_⟩
  · induction xs with
    | nil => simp
    | cons x l ih => simp only [List.map_cons, List.flatten_cons, List.length_append, hlen, List.length_cons]; rw [Nat.add_mul]; have : ((l.map enc).flatten).length = l.length * d.sz := by
                       clear ih hc hs
                       induction l with
                       | nil => simp
                       | cons y m ih => simp only [List.map_cons, List.flatten_cons, List.length_append, hlen, List.length_cons, ih]; rw [Nat.add_mul]; omega
                     omega
  · obtain ⟨x, h1, h2⟩ := flat xs k v hv
    have hn : 0 < xs.length := Nat.lt_of_le_of_lt (Nat.zero_le _) (List.getElem?_eq_some_iff.1 h1).1
    have hA : A = some ad := hA
    obtain ⟨ad', hA', hcell⟩ := hc.2.2 hn
    rw [hA] at hA'
    cases hA'
    obtain ⟨cs, hcl, hK, hcc⟩ := hcell _ _ h1
    have := he x cs hK
    subst this
    have hh := hcc _ _ h2
    rwa [Nat.mul_comm, Nat.div_add_mod] at hh
  · rw [List.mem_flatten] at hv
    obtain ⟨l, hl, hv⟩ := hv
    obtain ⟨x, _, rfl⟩ := List.mem_map.1 hl
    exact hp x v hv
end Go.Proofs.Ytffokmamcempgaa.AM
