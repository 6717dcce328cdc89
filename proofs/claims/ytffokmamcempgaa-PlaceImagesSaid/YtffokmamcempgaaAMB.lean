/- A machine of our own: operations that look at memory answer as the given program's. -/
import Derived.Test.YtffokmamcempgaaAMA
import Derived.Laws.BytesString
import Derived.Laws.Append
import Derived.Scope
namespace Go.Proofs.Ytffokmamcempgaa.AM
open Go Go.RowKit
set_option linter.unusedVariables false
set_option linter.unusedSimpArgs false

section
variable {P : Program} {ρ : Ren} {cf : CallF} {T : Tr Value} {H H' : Heap} {a : Act} {w0 w : World}
theorem cell_at {b off : Nat} {l : Loc} {own : Bool} {e : TypeId} {cs : List Value} (h : HR P ρ H w0 w) (hb : ρ b = some l) (hg : H.get b = some (.cells own e cs)) {k : Nat} {v : Value} (hk : cs[k]? = some v) :
    ∃ v', w.cell? ⟨l.c, l.s + k, none⟩ = some v' ∧ VR ρ v v' := by
  obtain ⟨arr, e', fr, h1, h2, h3, h4, h5, h6⟩ := h.blk b l _ hb hg
  obtain ⟨v', h7, h8⟩ := h5 k v hk
  exact ⟨v', by simp [World.cell?, h1, h7], h8⟩
theorem cells_at {b off n : Nat} {l : Loc} {own : Bool} {e : TypeId} {cs r : List Value} (h : HR P ρ H w0 w) (hb : ρ b = some l) (hg : H.get b = some (.cells own e cs)) (hr : lcut off n cs = some r) :
    ∃ r', (loadCells ⟨l.c, l.s + off, none⟩ n).run P w = .ok ⟨r'⟩ w ∧ LR ρ r r' := by
  obtain ⟨rfl, hn⟩ := lcut_some hr
  have hex : ∀ j v, ((cs.drop off).take n)[j]? = some v → ∃ v', w.cell? ((⟨l.c, l.s + off, none⟩ : Addr).add j) = some v' ∧ VR ρ v v' := by
    intro j v hj
    rw [add_rel, Nat.add_assoc]
    refine cell_at (off := 0) h hb hg (k := off + j) ?_
    rw [List.getElem?_take] at hj
    split at hj
    · rw [List.getElem?_drop] at hj; exact hj
    · cases hj
  -- the cells there are
  have hlen : ∀ j, j < n → ∃ v', w.cell? ((⟨l.c, l.s + off, none⟩ : Addr).add j) = some v' ∧ VR ρ (((cs.drop off).take n).getD j undef) v' := by
    intro j hj
    have hj' : j < ((cs.drop off).take n).length := by omega
    obtain ⟨v', h1, h2⟩ := hex j _ (List.getElem?_eq_getElem hj')
    exact ⟨v', h1, by simpa [List.getD, List.getElem?_eq_getElem hj'] using h2⟩
  let f : Nat → Value := fun j => (w.cell? ((⟨l.c, l.s + off, none⟩ : Addr).add j)).getD undef
  refine ⟨(List.range n).map f, run_loadCells w _ n f (fun j hj => ?_), by simp [hn], fun i x y hx hy => ?_⟩
  · obtain ⟨v', h1, _⟩ := hlen j hj
    simp [f, h1]
  · have hi : i < n := by have := (List.getElem?_eq_some_iff.1 hx).1; omega
    obtain ⟨v', h1, h2⟩ := hex i x hx
    rw [List.getElem?_map, List.getElem?_range hi] at hy
    simp only [Option.map_some, Option.some.injEq] at hy
    subst hy
    simp only [f, h1, Option.getD_some]
    exact h2
theorem load_run {t : TypeId} {n : Option Nat} (ht : aggN P t = some n) {x x' v : Value} (hx : VR ρ x x') (h : HR P ρ H w0 w) (hr : oLoad H n x = some (v, H')) :
    H' = H ∧ ∃ v', (Instr.loadAt t x').run P w = .ok v' w ∧ VR ρ v v' := by
  obtain ⟨h1, h2⟩ := aggN_of ht
  cases hx <;> simp only [oLoad] at hr <;> (try (cases hr; done))
  rename_i b off l hb
  split at hr
  · rename_i own e cs hg
    replace hr := up_some hr; obtain ⟨rfl, hr⟩ := hr
    refine ⟨rfl, ?_⟩
    simp only [Instr.loadAt, Instr.sureAddr, Sem.run_bind, Sem.run_pure, Result.andThen_ok, loadVar, h1]
    cases n with
    | none =>
      obtain ⟨v', h3, h4⟩ := cell_at (off := off) h hb hg hr
      exact ⟨v', by simp [h3], h4⟩
    | some n =>
      simp only [partOf, Option.map_eq_some_iff] at hr
      obtain ⟨r, hr, rfl⟩ := hr
      obtain ⟨r', h3, h4⟩ := cells_at h hb hg hr
      exact ⟨.agg ⟨r'⟩, by simp [run_size (h2 n rfl), h3], h4.agg⟩
  · cases hr
theorem bytesOf_some : ∀ {cs : List Value} {l : List UInt8}, bytesOf cs = some l → ∃ ns : List Int, cs = ns.map (Value.int .u8) ∧ l = ns.map fun n => UInt8.ofNat n.toNat
  | [], l, h => by simp only [bytesOf, Option.some.injEq] at h; subst h; exact ⟨[], rfl, rfl⟩
  | v :: cs, l, h => by
    have hi : ∃ n, v = .int .u8 n := by
      cases v with
      | int k n => cases k <;> first | exact ⟨n, rfl⟩ | (simp [bytesOf] at h)
      | _ => simp [bytesOf] at h
    obtain ⟨n, rfl⟩ := hi
    simp only [bytesOf, Option.map_eq_some_iff] at h
    obtain ⟨r, hr, rfl⟩ := h
    obtain ⟨ns, h1, h2⟩ := bytesOf_some hr
    exact ⟨n :: ns, by rw [h1]; rfl, by rw [h2]; rfl⟩
theorem ints_same : ∀ {ns : List Int} {ys : List Value}, LR ρ (ns.map (Value.int .u8)) ys → ys = ns.map (Value.int .u8)
  | [], ys, h => by have := h.1; simpa using this.symm
  | n :: ns, ys, h => by
    obtain ⟨y, ys', rfl, h1, h2⟩ := h.inv
    cases h1
    rw [ints_same h2]
    rfl
theorem push_all : ∀ (ns : List Int) (s : ByteArray), ns.foldl (fun r n => r.push (UInt8.ofNat n.toNat)) s = ⟨⟨s.data.toList ++ ns.map fun n => UInt8.ofNat n.toNat⟩⟩
  | [], s => by simp
  | n :: ns, s => by
    rw [List.foldl_cons, push_all ns]
    simp [ByteArray.push]
theorem str_run {x x' v : Value} (hx : VR ρ x x') (h : HR P ρ H w0 w) (hr : oStr H x = some (v, H')) : H' = H ∧ (Conv.bytesToString x').run P w = .ok v w ∧ VR ρ v v := by
  cases hx <;> simp only [oStr] at hr <;> (try (cases hr; done))
  · simp only [Option.some.injEq, Prod.mk.injEq] at hr
    obtain ⟨rfl, rfl⟩ := hr
    exact ⟨rfl, rfl, .string _⟩
  · rename_i b off off' n cap cap' l hb hc hl ho hroom
    split at hr
    · rename_i own e cs hg
      simp only [Option.map_eq_some_iff, Option.bind_eq_some_iff, Prod.mk.injEq] at hr
      obtain ⟨bs, ⟨r, h1, h2⟩, rfl, rfl⟩ := hr
      refine ⟨rfl, ?_, .string _⟩
      obtain ⟨ns, h3, h4⟩ := bytesOf_some h2
      by_cases hn : n = 0
      · subst hn
        have hr0 : r = [] := List.eq_nil_of_length_eq_zero (lcut_some h1).2
        rw [hr0] at h3
        have hns : ns = [] := by cases ns with | nil => rfl | cons _ _ => simp at h3
        subst hns
        rw [run_bytesToString w _ 0 _ [] (by simp [loadCells, loadCellsFrom]), push_all, h4]
        rfl
      · have hoff : off' = l.s + off := ho.resolve_right fun q => hn q.1
        obtain ⟨r', h5, h6⟩ := cells_at h hb hg h1
        rw [h3] at h6
        rw [ints_same h6] at h5
        rw [hoff, run_bytesToString w _ n _ ns h5, push_all, h4]
        rfl
    · cases hr
theorem len_run {t : TypeId} {k : LenK} (ht : match k with | .str => P.underlying t = some .string | .row => ∃ e, P.underlying t = some (.slice e) | .map => ∃ m e, P.underlying t = some (.map m e)) {x x' v : Value} (hx : VR ρ x x') (h : HR P ρ H w0 w) (hr : oLen H k x = some (v, H'))
    (ts : Array TypeId) (h0 : ts[0]? = some t) (ty : TypeId) (xs : Array Value) (h1 : xs[0]? = some x') : H' = H ∧ (Builtin.len_ ts ty xs).run P w = .ok v w ∧ VR ρ v v := by
  unfold Builtin.len_
  simp only [h0, h1]
  cases k with
  | str =>
    cases hx <;> simp only [oLen] at hr <;> (try (cases hr; done))
    cases hr
    exact ⟨rfl, by simp [run_und ht], .int _ _⟩
  | row =>
    obtain ⟨e, ht⟩ := ht
    cases hx <;> simp only [oLen] at hr <;> (try (cases hr; done)) <;> cases hr
    · exact ⟨rfl, by simp [run_und ht], .int _ _⟩
    · exact ⟨rfl, by simp [run_und ht], .int _ _⟩
  | map =>
    obtain ⟨m, e, ht⟩ := ht
    cases hx <;> simp only [oLen] at hr <;> (try (cases hr; done))
    · cases hr
      exact ⟨rfl, by simp [run_und ht], .int _ _⟩
    · rename_i b l hb
      split at hr
      · rename_i es clock hg
        cases hr
        obtain ⟨es', h2, h3, h4, h5⟩ := h.blk b l _ hb hg
        refine ⟨rfl, ?_, .int _ _⟩
        have hgo : (getObj l.c).run P w = .ok (.map es' clock) w := by simp [getObj, Sem.run, h2]
        simp [run_und ht, hgo, h5.1]
      · cases hr
theorem pr_bind {α β : Type} : ∀ (x : Sem α) (f : α → Sem β), pr P (x >>= f) = (pr P x).bind fun a => pr P (f a) := by
  intro x f
  show pr P (x.bind f) = _
  induction x with
  | pure a => rfl
  | program k ih => simp only [Sem.bind, pr]; exact ih P
  | _ => rfl
/-- Maps with the same keys. -/
def Keys (es es' : List MapEntry) : Prop := es.length = es'.length ∧ ∀ (i : Nat) (e e' : MapEntry), es[i]? = some e → es'[i]? = some e' → e'.key = e.key
theorem Keys.inv {e : MapEntry} {es es' : List MapEntry} (h : Keys (e :: es) es') : ∃ e' es2, es' = e' :: es2 ∧ e'.key = e.key ∧ Keys es es2 := by
  cases es' with
  | nil => have := h.1; simp at this
  | cons e' es2 => exact ⟨e', es2, rfl, h.2 0 e e' rfl rfl, by have := h.1; simpa using this, fun i a b ha hb => h.2 (i + 1) a b (by simpa using ha) (by simpa using hb)⟩
theorem Keys.nil_inv {es' : List MapEntry} (h : Keys [] es') : es' = [] := by have := h.1; simpa using this.symm
/-- What a search finds: where, and what stands there. -/
def Found (es : List MapEntry) (i : Nat) : Option Nat → Option (Nat × Value) → Prop
  | none, r => r = none
  | some j, r => ∃ e, i ≤ j ∧ es[j - i]? = some e ∧ r = some (j, e.val)
theorem Found.cons {e : MapEntry} {es : List MapEntry} {i : Nat} {r : Option Nat} {r' : Option (Nat × Value)} (h : Found es (i + 1) r r') : Found (e :: es) i r r' := by
  cases r with
  | none => exact h
  | some j =>
    obtain ⟨f, h1, h2, h3⟩ := h
    exact ⟨f, by omega, by rw [show j - i = (j - (i + 1)) + 1 by omega, List.getElem?_cons_succ]; exact h2, h3⟩
theorem eqL_iff : ∀ (x y : List UInt8), eqL x y = (x == y)
  | [], [] => rfl
  | [], _ :: _ => rfl
  | _ :: _, [] => rfl
  | a :: x, b :: y => by
    simp only [eqL]
    split
    · rename_i h
      have hab : a = b := UInt8.toNat_inj.1 (Nat.eq_of_beq_eq_true h)
      subst hab
      rw [eqL_iff x y]
      simp
    · rename_i h
      have hab : ¬ a = b := fun e => by rw [e, Nat.beq_refl] at h; cases h
      rw [Bool.eq_iff_iff]
      simp [hab]
theorem eqI_iff (a b : Int) : eqI a b = (a == b) := by
  rw [Bool.eq_iff_iff]
  cases a <;> cases b <;> simp [eqI, Nat.beq_eq] <;> omega
theorem beq_bytes (s u : ByteArray) : (s == u) = (s.data.toList == u.data.toList) := by
  have h : (s == u) = (s.data == u.data) := rfl
  rw [h, Bool.eq_iff_iff]
  simp
theorem findS_run (s : ByteArray) : ∀ (es es' : List MapEntry) (i : Nat) (r : Option Nat), Keys es es' → findS s.data.toList es i = some r → ∃ r', Instr.findNow .string (.string s) es' i = some r' ∧ Found es' i r r'
  | [], es', i, r, hk, h => by
    rw [hk.nil_inv]
    simp only [findS, Option.some.injEq] at h
    subst h
    exact ⟨none, rfl, rfl⟩
  | e :: es, es', i, r, hk, h => by
    obtain ⟨e', es2, rfl, h1, h2⟩ := hk.inv
    simp only [findS] at h
    split at h
    · rename_i u hu
      have hs : Instr.sameNow .string (.string s) e'.key = some (eqL s.data.toList u.data.toList) := by
        rw [h1, hu, eqL_iff]
        simp only [Instr.sameNow]
        rw [beq_bytes]
      split at h
      · rename_i hq
        cases h
        rw [hq] at hs
        exact ⟨some (i, e'.val), by simp only [Instr.findNow, hs], e', Nat.le_refl _, by simp, rfl⟩
      · rename_i hq
        rw [hq] at hs
        obtain ⟨r', h3, h4⟩ := findS_run s es es2 (i + 1) r h2 h
        exact ⟨r', by simp only [Instr.findNow, hs, h3], h4.cons⟩
    · cases h
theorem findI_run (k0 k : IntKind) (n : Int) : ∀ (es es' : List MapEntry) (i : Nat) (r : Option Nat), Keys es es' → findI k n es i = some r → ∃ r', Instr.findNow (.int k0) (.int k n) es' i = some r' ∧ Found es' i r r'
  | [], es', i, r, hk, h => by
    rw [hk.nil_inv]
    simp only [findI, Option.some.injEq] at h
    subst h
    exact ⟨none, rfl, rfl⟩
  | e :: es, es', i, r, hk, h => by
    obtain ⟨e', es2, rfl, h1, h2⟩ := hk.inv
    simp only [findI] at h
    split at h
    · rename_i k' m hu
      split at h
      · rename_i hkk hq
        have := kindB_eq hkk
        subst this
        cases h
        have hs : Instr.sameNow (.int k0) (.int k n) e'.key = some true := by
          rw [h1, hu]
          simp only [Instr.sameNow, if_true]
          rw [← eqI_iff, hq]
        exact ⟨some (i, e'.val), by simp only [Instr.findNow, hs], e', Nat.le_refl _, by simp, rfl⟩
      · rename_i hkk hq
        have := kindB_eq hkk
        subst this
        have hs : Instr.sameNow (.int k0) (.int k n) e'.key = some false := by
          rw [h1, hu]
          simp only [Instr.sameNow, if_true]
          rw [← eqI_iff, hq]
        obtain ⟨r', h3, h4⟩ := findI_run k0 k n es es2 (i + 1) r h2 h
        exact ⟨r', by simp only [Instr.findNow, hs, h3], h4.cons⟩
      · cases h
    · cases h
theorem findNow_keys (kind : TypeDesc) (key : Value) : ∀ (es es' : List MapEntry) (i : Nat), Keys es es' → match Instr.findNow kind key es i with
    | none => Instr.findNow kind key es' i = none
    | some r => ∃ r', Instr.findNow kind key es' i = some r' ∧ Found es' i (r.map (·.1)) r'
  | [], es', i, hk => by rw [hk.nil_inv]; exact ⟨none, rfl, rfl⟩
  | e :: es, es', i, hk => by
    obtain ⟨e', es2, rfl, h1, h2⟩ := hk.inv
    have ih := findNow_keys kind key es es2 (i + 1) h2
    simp only [Instr.findNow, h1]
    cases hs : Instr.sameNow kind key e.key with
    | none => simp
    | some q =>
      cases q with
      | true => exact ⟨some (i, e'.val), rfl, e', Nat.le_refl _, by simp, rfl⟩
      | false =>
        simp only
        split at ih
        · exact ih
        · obtain ⟨r', h3, h4⟩ := ih
          exact ⟨r', h3, h4.cons⟩
theorem findAsking_keys (kt : TypeId) (key : Value) : ∀ (es es' : List MapEntry) (i : Nat) (r : Option (Nat × Value)), Keys es es' → pr P (Instr.findAsking kt key es i) = some r → ∃ r', (∀ w, (Instr.findAsking kt key es' i).run P w = .ok r' w) ∧ Found es' i (r.map (·.1)) r'
  | [], es', i, r, hk, h => by
    rw [hk.nil_inv]
    simp only [Instr.findAsking, pr] at h
    have : r = none := by simpa [Pure.pure, pr] using h.symm
    subst this
    exact ⟨none, fun w => rfl, rfl⟩
  | e :: es, es', i, r, hk, h => by
    obtain ⟨e', es2, rfl, h1, h2⟩ := hk.inv
    simp only [Instr.findAsking, pr_bind, Option.bind_eq_some_iff] at h
    obtain ⟨q, hq, h⟩ := h
    cases q with
    | true =>
      have : r = some (i, e.val) := by simpa [Pure.pure, pr] using h.symm
      subst this
      exact ⟨some (i, e'.val), fun w => by simp only [Instr.findAsking, h1, Sem.run_bind, pr_run hq, Result.andThen_ok]; rfl, e', Nat.le_refl _, by simp, rfl⟩
    | false =>
      simp only [Bool.false_eq_true, if_false] at h
      obtain ⟨r', h3, h4⟩ := findAsking_keys kt key es es2 (i + 1) r h2 h
      exact ⟨r', fun w => by simp only [Instr.findAsking, h1, Sem.run_bind, pr_run hq, Result.andThen_ok, Bool.false_eq_true, if_false, h3], h4.cons⟩
theorem check_str {kt : TypeId} (hu : P.underlying kt = some .string) (b : Bool) (n : Nat) (s : ByteArray) (w : World) : (Instr.checkKey b (n + 1) kt (.string s)).run P w = .ok () w := by
  simp only [Instr.checkKey, Sem.run_bind, run_und hu, Result.andThen_ok, Sem.run_pure]
theorem check_int {kt : TypeId} {k0 : IntKind} (hu : P.underlying kt = some (.int k0)) (b : Bool) (n : Nat) (k : IntKind) (m : Int) (w : World) : (Instr.checkKey b (n + 1) kt (.int k m)).run P w = .ok () w := by
  simp only [Instr.checkKey, Sem.run_bind, run_und hu, Result.andThen_ok, Sem.run_pure]
/-- Where a key stands: the given program's search finds it there. -/
theorem find_run {q : KeyK} {kt : TypeId} (hq : quickKey P kt = some q) {key key' : Value} {es : List MapEntry} {es' : List MapEntry} {r : Option Nat} (hv : VR ρ key key') (hk : Keys es es') (h : findE P q kt key es = some r) (b : Bool) (w : World) :
    key' = key ∧ plainV 8 key = true ∧ (Instr.checkKey b 10000 kt key).run P w = .ok () w ∧ ∃ r', (Instr.findKey kt key es').run P w = .ok r' w ∧ Found es' 0 r r' := by
  unfold quickKey at hq
  cases q with
  | s =>
    split at hq <;> (try (cases hq; done))
    rename_i hu
    cases key <;> simp only [findE] at h <;> (try (cases h; done))
    rename_i s
    cases hv
    obtain ⟨r', h1, h2⟩ := findS_run s es es' 0 r hk h
    exact ⟨rfl, rfl, check_str hu b 9999 s w, r', by simp [Instr.findKey, run_und hu, h1], h2⟩
  | i =>
    split at hq <;> (try (cases hq; done))
    rename_i k0 hu
    cases key <;> simp only [findE] at h <;> (try (cases h; done))
    rename_i k n
    cases hv
    obtain ⟨r', h1, h2⟩ := findI_run k0 k n es es' 0 r hk h
    exact ⟨rfl, rfl, check_int hu b 9999 k n w, r', by simp [Instr.findKey, run_und hu, h1], h2⟩
  | o =>
    simp only [findE] at h
    split at h
    · rename_i hp
      simp only [Option.map_eq_some_iff] at h
      obtain ⟨x, hx, rfl⟩ := h
      simp only [pr_bind, Option.bind_eq_some_iff] at hx
      obtain ⟨u1, hu1, u2, hu2, hx⟩ := hx
      refine ⟨plain_same 8 _ _ hp hv, hp, ?_, ?_⟩
      · cases b
        · exact pr_run hu2 w
        · exact pr_run hu1 w
      · unfold Instr.findKey at hx ⊢
        simp only [pr_bind, Option.bind_eq_some_iff] at hx
        obtain ⟨d, hd, hx⟩ := hx
        have hf := findNow_keys d key es es' 0 hk
        simp only [Sem.run_bind, pr_run hd, Result.andThen_ok]
        split at hx
        · rename_i r0 hr0
          rw [hr0] at hf
          obtain ⟨r', h3, h4⟩ := hf
          have : r0 = x := by simpa [Pure.pure, pr] using hx
          subst this
          exact ⟨r', by rw [h3]; rfl, h4⟩
        · rename_i hr0
          rw [hr0] at hf
          simp only at hf
          obtain ⟨r', h3, h4⟩ := findAsking_keys kt key es es' 0 x hk hx
          exact ⟨r', by rw [hf]; exact h3 w, h4⟩
    · cases h
theorem MR.keys {es : List MapEntry} {es' : Array MapEntry} (h : MR ρ es es') : Keys es es'.toList :=
  ⟨by rw [h.1]; simp, fun i e e' he he' => (h.2 i e e' he (by simpa using he')).1⟩
theorem give_some {ok b : Bool} {u v : Value} (h : giveV H ok u b = some (v, H')) : H' = H ∧ v = if ok then .tuple #[u, .bool b] else u := by
  cases ok <;> simp only [giveV, Option.some.injEq, Prod.mk.injEq] at h <;> obtain ⟨rfl, rfl⟩ := h <;> exact ⟨rfl, rfl⟩
theorem give_rel {ok b : Bool} {u u' : Value} (h : VR ρ u u') : VR ρ (if ok then .tuple #[u, .bool b] else u) (if ok then .tuple #[u', .bool b] else u') := by
  cases ok
  · exact h
  · exact (LR.cons h (LR.cons (.bool b) (LR.nil ρ))).tuple
theorem lookup_run {t k e : TypeId} (ht : mapP P t = some (k, e)) {q : KeyK} (hq : quickKey P k = some q) {z : Value} (hz : zeroP P e = some z) {ok : Bool} {x x' i i' v : Value} (hx : VR ρ x x') (hi : VR ρ i i') (h : HR P ρ H w0 w)
    (hr : oLookup P H q k z ok x i = some (v, H')) : H' = H ∧ ∃ v', (Instr.lookup t x' i' ok).run P w = .ok v' w ∧ VR ρ v v' := by
  have hu : P.underlying t = some (.map k e) := by
    unfold mapP at ht
    split at ht <;> (try (cases ht; done))
    rename_i k0 e0 h0
    cases ht
    exact h0
  have hzr := plain_refl ρ 8 z (zero_of hz).1
  cases hx <;> simp only [oLookup] at hr <;> (try (cases hr; done))
  · -- no map
    split at hr <;> (try (cases hr; done))
    rename_i r hf
    obtain ⟨rfl, rfl⟩ := give_some hr
    obtain ⟨rfl, hp, h1, r', h2, h3⟩ := find_run (es' := []) hq hi ⟨rfl, fun i e e' a => by simp at a⟩ hf true w
    refine ⟨rfl, _, ?_, give_rel hzr⟩
    have hr' : r' = none := by
      cases r with
      | none => exact h3
      | some j => obtain ⟨e, _, h4, _⟩ := h3; simp at h4
    subst hr'
    unfold Instr.lookup
    simp only [Sem.run_bind, run_und hu, Result.andThen_ok, Sem.run_pure, Array.isEmpty_empty, h1, h2, run_zero hz]
    try (cases ok <;> rfl)
  · rename_i b l hb
    split at hr <;> (try (cases hr; done))
    rename_i es clock hg
    obtain ⟨es', h2, h3, h4, h5⟩ := h.blk b l _ hb hg
    have hgo : (getObj l.c).run P w = .ok (.map es' clock) w := by simp [getObj, Sem.run, h2]
    split at hr <;> (try (cases hr; done))
    · rename_i j hf
      split at hr <;> (try (cases hr; done))
      rename_i ej hej
      obtain ⟨rfl, rfl⟩ := give_some hr
      obtain ⟨rfl, hp, h6, r', h7, e', h8, h9, rfl⟩ := find_run hq hi h5.keys hf es'.isEmpty w
      rw [Nat.sub_zero, Array.getElem?_toList] at h9
      refine ⟨rfl, _, ?_, give_rel (h5.2 j ej e' hej h9).2.2⟩
      unfold Instr.lookup
      simp only [Sem.run_bind, run_und hu, Result.andThen_ok, Sem.run_pure, hgo, h6, h7]
      try (cases ok <;> rfl)
    · rename_i hf
      obtain ⟨rfl, rfl⟩ := give_some hr
      obtain ⟨rfl, hp, h6, r', h7, h8⟩ := find_run hq hi h5.keys hf es'.isEmpty w
      have hr' : r' = none := h8
      subst hr'
      refine ⟨rfl, _, ?_, give_rel hzr⟩
      unfold Instr.lookup
      simp only [Sem.run_bind, run_und hu, Result.andThen_ok, Sem.run_pure, hgo, h6, h7, run_zero hz]
      try (cases ok <;> rfl)
theorem look_sound {o : Oper} {ao : AOp} {v : Value} (hc : compOp P o.op = some ao) (hv : ∀ x ∈ o.op.operands.toList, ∀ y, compArg x = some y → VR ρ (y.ev T) (a.eval x)) (hl : looks ao = true) (h : HR P ρ H w0 w)
    (hr : opRun P cf T H ao = some (v, H')) : H' = H ∧ ∃ v', (execOp a.eval o).run P w = .ok (.value v') w ∧ VR ρ v v' := by
  obtain ⟨dst, op, type, pos, after, guard⟩ := o
  simp only at hc hv
  have one : ∀ {x : Operand} {y : Arg}, x ∈ op.operands.toList → compArg x = some y → VR ρ (y.ev T) (a.eval x) := fun h1 h2 => hv _ h1 _ h2
  cases op with
  | load t x =>
    simp only [compOp] at hc
    split at hc <;> (try (cases hc; done))
    rename_i n y hn hy
    cases hc
    obtain ⟨rfl, v', h1, h2⟩ := load_run hn (one (by simp [Op.operands]) hy) h hr
    exact ⟨rfl, v', by simp [execOp, h1], h2⟩
  | lookup t x i ok =>
    simp only [compOp] at hc
    split at hc <;> (try (cases hc; done))
    rename_i k e y j hm hy hj
    split at hc <;> (try (cases hc; done))
    rename_i z q hz hq
    cases hc
    obtain ⟨rfl, v', h1, h2⟩ := lookup_run hm hq hz (one (by simp [Op.operands]) hy) (one (by simp [Op.operands]) hj) h hr
    exact ⟨rfl, v', by simp [execOp, h1], h2⟩
  | convert s d x =>
    simp only [compOp, compConv] at hc
    split at hc <;> (try (cases hc; cases hl; done)) <;> (try (cases hc; done)) <;> (split at hc <;> (try (cases hc; cases hl; done)) <;> (try (cases hc; done)))
    rename_i e y hs hd hy _ he
    cases hc
    have r1 := one (by simp [Op.operands]) hy
    obtain ⟨rfl, h1, h2⟩ := str_run r1 h hr
    refine ⟨rfl, v, ?_, h2⟩
    have hx : ∃ A n c, a.eval x = .slice A n c := by
      simp only [opRun] at hr
      generalize y.ev T = yv at hr r1
      generalize a.eval x = xv at r1
      cases r1 <;> simp only [oStr] at hr <;> (first | (cases hr; done) | exact ⟨_, _, _, rfl⟩)
    obtain ⟨A, n, c, hx⟩ := hx
    rw [hx] at h1
    simp only [execOp, hx, convert, Sem.run_bind, run_und hs, run_und hd, Result.andThen_ok, run_und he, h1]
    rfl
  | slice t x lo hi mx =>
    simp only [compOp] at hc
    split at hc
    · cases hc; cases hl
    · rename_i e y l hh m hu hy hlo hhi hmx
      split at hc
      · cases hc
      · rename_i hnn
        simp only [Option.map_eq_some_iff] at hc
        obtain ⟨n, hn, rfl⟩ := hc
        have r1 := one (by simp [Op.operands]) hy
        simp only [opRun] at hr
        have main : ∀ {r : Option Value} (hsz : ∀ A n' c loc, y.ev T = .slice (some A) n' c → ρ A.block = some loc → loc.e = n), oCut n (y.ev T) (optNat T l) (optNat T hh) (optNat T m) = some v →
            ∃ v', (execOp a.eval { dst := dst, op := .slice t x lo hi mx, type := type, pos := pos, after := after, guard := guard }).run P w = .ok (.value v') w ∧ VR ρ v v' := by
          intro r hsz hcut
          unfold oCut at hcut
          split at hcut <;> (try (cases hcut; done))
          rename_i A len cap l' h' m' e1 e2 e3 e4
          have q1 := optNat_rel (a := a) hlo (fun z hz u hu' => hv z (by subst hz; simp [Op.operands]) u hu') e2
          have q2 := optNat_rel (a := a) hhi (fun z hz u hu' => hv z (by subst hz; simp [Op.operands]) u hu') e3
          have q3 := optNat_rel (a := a) hmx (fun z hz u hu' => hv z (by subst hz; simp [Op.operands]) u hu') e4
          rw [e1] at r1
          obtain ⟨v', h1, h2⟩ := cut_run (P := P) hu hn r1 q1 q2 q3 (fun hm' hh' => by
            subst hh'
            cases m' with
            | none => exact hm' rfl
            | some m'' =>
              obtain ⟨z, k, rfl, hz⟩ := q3
              have hi0 : hi = none := q2
              subst hi0
              simp only [compOpt, Option.some.injEq] at hhi
              simp only [compOpt, Option.map_eq_some_iff] at hmx
              obtain ⟨u, hu1, rfl⟩ := hmx
              exact hnn _ rfl hhi.symm) (fun A' n' c' loc he => hsz A' n' c' loc (by rw [e1]; exact he)) (v := v) (by unfold oCut; exact hcut)
          exact ⟨v', by simp [execOp, Instr.sliceAt, run_und hu, h1], h2⟩
        unfold oCutH at hr
        split at hr
        · rename_i A n' c' e1
          split at hr <;> (try (cases hr; done))
          rename_i own e' cs hg
          split at hr <;> (try (cases hr; done))
          rename_i hb
          replace hr := up_some hr; obtain ⟨rfl, hr⟩ := hr
          refine ⟨rfl, main (r := none) (fun A2 n2 c2 loc e2 hloc => ?_) hr⟩
          rw [e1] at e2
          cases e2
          obtain ⟨arr, e'', fr, g1, g2, g3, g4, g5⟩ := h.blk A.block loc _ hloc hg
          have : e = e' := Nat.eq_of_beq_eq_true hb
          subst this
          rw [hn] at g4
          exact (Option.some.inj g4).symm
        · rename_i hne
          replace hr := up_some hr; obtain ⟨rfl, hr⟩ := hr
          exact ⟨rfl, main (r := none) (fun A2 n2 c2 loc e2 hloc => absurd e2 (hne A2 n2 c2)) hr⟩
    · cases hc
  | call c =>
    simp only [compOp] at hc
    split at hc <;> (try (cases hc; done))
    · split at hc <;> (try (cases hc; done)); cases hc; cases hl
    · rename_i b hb
      unfold compBuiltin at hc
      split at hc
      · split at hc <;> (try (cases hc; done))
        split at hc <;> (try (cases hc; done))
        split at hc <;> (try (cases hc; done)); cases hc; cases hl
      · rename_i t ts x e0 e2
        have hx0 : x ∈ (Op.call c).operands.toList := by
          simp only [Op.operands, Call.operands, hb]
          simp
          have : x ∈ c.args.toList := by rw [e2]; simp
          simpa using this
        have e1 : c.argTypes[0]? = some t := by rw [← Array.getElem?_toList, ‹c.argTypes.toList = _›]; rfl
        have e2' : (c.args.map a.eval)[0]? = some (a.eval x) := by rw [Array.getElem?_map, ← Array.getElem?_toList, e2]; rfl
        split at hc <;> (try (cases hc; done)) <;> cases hc
        · rename_i y hu hy
          obtain ⟨rfl, h1, h2⟩ := len_run (k := .str) hu (one hx0 hy) h hr c.argTypes e1 type _ e2'
          exact ⟨rfl, v, by simp [execOp, resolve, hb, invoke, builtin, h1], h2⟩
        · rename_i e y hu hy
          obtain ⟨rfl, h1, h2⟩ := len_run (k := .row) ⟨_, hu⟩ (one hx0 hy) h hr c.argTypes e1 type _ e2'
          exact ⟨rfl, v, by simp [execOp, resolve, hb, invoke, builtin, h1], h2⟩
        · rename_i k e y hu hy
          obtain ⟨rfl, h1, h2⟩ := len_run (k := .map) ⟨_, _, hu⟩ (one hx0 hy) h hr c.argTypes e1 type _ e2'
          exact ⟨rfl, v, by simp [execOp, resolve, hb, invoke, builtin, h1], h2⟩
      · split at hc <;> (try (cases hc; done)); cases hc; cases hl
      · split at hc <;> (try (cases hc; done))
        simp only [Option.map_eq_some_iff] at hc; obtain ⟨_, _, rfl⟩ := hc; cases hl
      · simp only [Option.map_eq_some_iff] at hc; obtain ⟨_, _, rfl⟩ := hc; cases hl
      · simp only [Option.map_eq_some_iff] at hc; obtain ⟨_, _, rfl⟩ := hc; cases hl
      · cases hc
  | makeMap t r =>
    cases r with
    | none => simp only [compOp, Option.map_eq_some_iff] at hc; obtain ⟨_, _, rfl⟩ := hc; cases hl
    | some r => simp [compOp] at hc
  | next it s =>
    cases s with
    | true => simp only [compOp, Option.map_eq_some_iff] at hc; obtain ⟨_, _, rfl⟩ := hc; cases hl
    | false => simp [compOp] at hc
  | binOp op t x y yt =>
    simp only [compOp, compBin] at hc
    split at hc <;> (try (cases hc; done))
    split at hc
    · cases op <;> simp only at hc <;> (try (cases hc; done)) <;> cases hc <;> cases hl
    · split at hc <;> (try (cases hc; done)); cases hc; cases hl
  | _ =>
    simp only [compOp] at hc
    first
      | (cases hc; done)
      | (repeat' (split at hc)) <;> (try (cases hc; done)) <;> (try (cases hc; cases hl; done)) <;> (try (simp only [Option.map_eq_some_iff] at hc; obtain ⟨_, _, rfl⟩ := hc; cases hl; done))
/-- A look at blocks that stand as they stood finds the same. -/
theorem look_local {ao : AOp} {v : Value} {G : Heap} (hl : looks ao = true) (hr : opRun P cf T H ao = some (v, H')) (hg : ∀ b, lookBlk T ao = some b → (H.get b).isSome = true → G.get b = H.get b) : opRun P cf T G ao = some (v, G) := by
  have gv : ∀ {ok u b}, giveV H ok u b = some (v, H') → giveV G ok u b = some (v, G) := fun e => by obtain ⟨rfl, rfl⟩ := give_some e; rename_i ok u b; cases ok <;> rfl
  have upv : ∀ {x : Option Value}, up H x = some (v, H') → up G x = some (v, G) := fun e => by obtain ⟨_, rfl⟩ := up_some e; rfl
  cases ao <;> (try (cases hl; done)) <;> simp only [opRun] at hr ⊢ <;> simp only [lookBlk] at hg
  case load n x =>
    unfold oLoad at hr ⊢
    split at hr <;> (try (cases hr; done))
    rename_i b off e
    try (rw [e] at hg)
    try (rw [e])
    try (simp only at hr ⊢)
    split at hr <;> (try (cases hr; done))
    rename_i e1
    rw [hg b rfl (by rw [e1]; rfl), e1]
    exact upv hr
  case str x =>
    unfold oStr at hr ⊢
    split at hr <;> (try (cases hr; done))
    · rename_i e
      try (rw [e])
      cases hr
      rfl
    · rename_i b off n c e
      try (rw [e] at hg)
      try (rw [e])
      try (simp only at hr ⊢)
      split at hr <;> (try (cases hr; done))
      rename_i e1
      rw [hg b rfl (by rw [e1]; rfl), e1]
      simp only [Option.map_eq_some_iff, Prod.mk.injEq] at hr ⊢
      obtain ⟨l, h1, h2, h3⟩ := hr
      exact ⟨l, h1, h2, trivial⟩
  case lookup q k z ok x i =>
    unfold oLookup at hr ⊢
    split at hr <;> (try (cases hr; done))
    · rename_i e
      try (rw [e])
      try (simp only)
      split at hr <;> (try (cases hr; done))
      rename_i e1
      try (rw [e1])
      exact gv hr
    · rename_i b e
      try (rw [e] at hg)
      try (rw [e])
      try (simp only at hr ⊢)
      split at hr <;> (try (cases hr; done))
      rename_i e1
      rw [hg b rfl (by rw [e1]; rfl), e1]
      try (simp only)
      split at hr <;> (try (cases hr; done))
      · rename_i e2
        try (rw [e2])
        try (simp only)
        split at hr <;> (try (cases hr; done))
        rename_i e3
        try (rw [e3])
        exact gv hr
      · rename_i e2
        try (rw [e2])
        exact gv hr
  case len k x =>
    unfold oLen at hr ⊢
    split at hr <;> (try (cases hr; done))
    · cases hr; rfl
    · cases hr; rfl
    · cases hr; rfl
    · rename_i b e
      try (rw [e] at hg)
      try (rw [e])
      try (simp only at hr ⊢)
      split at hr <;> (try (cases hr; done))
      rename_i e1
      rw [hg b rfl (by rw [e1]; rfl), e1]
      cases hr
      rfl
  case cut e size x lo hi mx =>
    unfold oCutH at hr ⊢
    split at hr
    · rename_i A n c e0
      try (rw [e0] at hg)
      try (rw [e0])
      try (simp only at hr ⊢)
      split at hr <;> (try (cases hr; done))
      rename_i e1
      rw [hg A.block rfl (by rw [e1]; rfl), e1]
      try (simp only)
      split at hr <;> (try (cases hr; done))
      rename_i e2
      try (rw [e2])
      first | exact upv hr | (rw [e0] at hr; exact upv hr)
    · rename_i hne
      first | exact upv hr | (split; · rename_i A n c e0; exact absurd e0 (hne A n c); · exact upv hr)
end
end Go.Proofs.Ytffokmamcempgaa.AM

/- A machine of our own: operations that make blocks, or write them, do as the given program's. -/
namespace Go.Proofs.Ytffokmamcempgaa.AM
open Go Go.RowKit
set_option linter.unusedVariables false
set_option linter.unusedSimpArgs false

section
variable {P : Program} {ρ : Ren} {cf : CallF} {T : Tr Value} {H H' : Heap} {a : Act} {w0 w : World}
/-- A step of the given program beside a step of the machine. -/
def Does (P : Program) (a : Act) (o : Oper) (ρ : Ren) (H H' : Heap) (w0 w : World) (v : Value) : Prop :=
  ∃ v' w' ρ', ((execOp a.eval o).run P w = .ok (.value v') w' ∨ ((execOp a.eval o).run P w = .ok .skip w' ∧ v' = undef)) ∧ Post P ρ ρ' H H' w0 w w' ∧ VR ρ' v v'
theorem grow_alike (w : World) (o : Obj) : Alike w (w.alloc o) := ⟨rfl, rfl, rfl⟩
theorem size_of_zero {t : TypeId} {z : Value} (h : zeroP P t = some z) : ∃ n, sizeP P t = some n := by
  obtain ⟨_, i, hi, _⟩ := zero_of h
  exact ⟨i.size, by simp [sizeP, hi]⟩
/-- A new row of the call's own. -/
theorem row_new (h : HR P ρ H w0 w) {w' : World} {e e' : TypeId} {n : Nat} (he : sizeP P e = some n) {cs cs' : List Value} {more : List Value} {fr : Nat × Nat} (hl : LR ρ cs cs') (ha : Alike w w')
    (hh : w'.heap = w.heap.push (.cells ⟨cs' ++ more⟩ e' fr)) (hf : fr.1 = fr.2 ∨ (cs' ++ more).length ≤ fr.1) :
    Post P ρ (put ρ H.next ⟨w.heap.size, 0, (cs' ++ more).length, n, true⟩) H (H.new (.cells true e cs)) w0 w w' := by
  refine Post.alloc h ha hh rfl ⟨⟨cs' ++ more⟩, e', fr, rfl, rfl, rfl, he, ?_, fun _ => ⟨h.below.size, hf⟩, fun q => by cases q⟩
  intro k v hk
  obtain ⟨v', h1, h2⟩ := hl.at hk
  refine ⟨v', ?_, h2⟩
  have hlt := (List.getElem?_eq_some_iff.1 h1).1
  simp only [Nat.zero_add, List.getElem?_toArray]
  rw [List.getElem?_append_left hlt]
  exact h1
theorem row_new0 (h : HR P ρ H w0 w) {e e' : TypeId} {n : Nat} (he : sizeP P e = some n) {cs cs' : List Value} (hl : LR ρ cs cs') :
    Post P ρ (put ρ H.next ⟨w.heap.size, 0, cs'.length, n, true⟩) H (H.new (.cells true e cs)) w0 w (w.alloc (.cells ⟨cs'⟩ e')) := by
  have := row_new (w' := w.alloc (.cells ⟨cs'⟩ e')) (more := []) (e' := e') (fr := (0, 0)) h he hl (grow_alike _ _) (by rw [List.append_nil]; rfl) (.inl rfl)
  simpa using this
theorem var_run (e : TypeId) (v : Value) (w : World) : (newVar e v).run P w = .ok ⟨w.heap.size, 0, none⟩ (w.alloc (.cells ⟨cellL v⟩ e)) := by
  have : v.cells = ⟨cellL v⟩ := by apply Array.ext'; rw [cells_toList]
  simp [newVar, newRow, this]
theorem flat_get (zs : List Value) : ∀ (c k : Nat), k < c * zs.length → ((List.replicate c zs).flatten)[k]? = zs[k % zs.length]?
  | 0, k, h => by simp at h
  | c + 1, k, h => by
    rw [List.replicate_succ, List.flatten_cons]
    by_cases hk : k < zs.length
    · rw [List.getElem?_append_left hk, Nat.mod_eq_of_lt hk]
    · rw [List.getElem?_append_right (by omega), flat_get zs c (k - zs.length) (by rw [Nat.add_mul, Nat.one_mul] at h; omega)]
      congr 1
      rw [← Nat.mod_eq_sub_mod (by omega)]
theorem flat_len (zs : List Value) : ∀ c : Nat, ((List.replicate c zs).flatten).length = c * zs.length
  | 0 => by simp
  | c + 1 => by rw [List.replicate_succ, List.flatten_cons, List.length_append, flat_len zs c, Nat.add_mul, Nat.one_mul, Nat.add_comm]
/-- A row of zeros. -/
theorem zeros_row (z : Value) (n c : Nat) (hz : (cellL z).length = n + 1) : (Array.range (c * (n + 1))).map (z.cells[· % z.cells.size]!) = ⟨(List.replicate c (cellL z)).flatten⟩ := by
  have hc : z.cells = ⟨cellL z⟩ := by apply Array.ext'; rw [cells_toList]
  rw [hc]
  apply Array.ext_getElem?
  intro k
  have hs : (⟨cellL z⟩ : Array Value).size = n + 1 := by simpa using hz
  have hr : (⟨(List.replicate c (cellL z)).flatten⟩ : Array Value)[k]? = ((List.replicate c (cellL z)).flatten)[k]? := by simp
  rw [hs, Array.getElem?_map, hr]
  by_cases hk : k < c * (n + 1)
  · rw [Array.getElem?_range, if_pos hk, flat_get _ _ _ (by rw [hz]; exact hk), hz]
    have hm : k % (n + 1) < (cellL z).length := by rw [hz]; exact Nat.mod_lt _ (by omega)
    rw [List.getElem?_eq_getElem hm]
    simp only [Option.map_some, Option.some.injEq]
    rw [getElem!_pos (⟨cellL z⟩ : Array Value) (k % (n + 1)) (by simpa using hm)]
    rfl
  · rw [Array.getElem?_eq_none (by simp; omega), List.getElem?_eq_none (by rw [flat_len, hz]; omega)]
    rfl
theorem flat_plain {z : Value} (hz : plainV 8 z = true) (c : Nat) : LR ρ (List.replicate c (cellL z)).flatten (List.replicate c (cellL z)).flatten := by
  have h1 := cellL_rel (plain_refl ρ 8 z hz)
  induction c with
  | zero => exact LR.nil ρ
  | succ c ih => rw [List.replicate_succ, List.flatten_cons]; exact h1.append ih
/-- Cells stored one behind the other. -/
theorem store_run (c off : Nat) (e : TypeId) (fr : Nat × Nat) : ∀ (vs : List Value) (i : Nat) (arr : Array Value) (w : World), w.heap[c]? = some (.cells arr e fr) → (fr.1 = fr.2 ∨ arr.size ≤ fr.1) → off + i + vs.length ≤ arr.size → vs.all scalar = true →
    ∃ w' arr', (storeCells ⟨c, off, none⟩ vs i).run P w = .ok () w' ∧ w'.heap[c]? = some (.cells arr' e fr) ∧ arr'.size = arr.size ∧ (∀ k, arr'[k]? = if off + i ≤ k ∧ k < off + i + vs.length then vs[k - (off + i)]? else arr[k]?) ∧
      (∀ d, d ≠ c → w'.heap[d]? = w.heap[d]?) ∧ w'.heap.size = w.heap.size ∧ Alike w w'
  | [], i, arr, w, hc, hf, hl, hs => ⟨w, arr, rfl, hc, rfl, fun k => by rw [if_neg (by simp only [List.length_nil]; omega)], fun _ _ => rfl, rfl, Alike.refl w⟩
  | v :: vs, i, arr, w, hc, hf, hl, hs => by
    simp only [List.length_cons] at hl
    simp only [List.all_cons, Bool.and_eq_true] at hs
    have hlt : off + i < arr.size := by omega
    have hclt : c < w.heap.size := (Array.getElem?_eq_some_iff.1 hc).1
    have hcell : w.cell? ⟨c, off + i, none⟩ = some arr[off + i] := by simp [World.cell?, hc, hlt]
    have hfr : w.frozen? ⟨c, off + i, none⟩ = false := by
      simp only [World.frozen?, hc]
      rw [Bool.and_eq_false_iff]
      rcases hf with hf | hf
      · by_cases q : fr.1 ≤ off + i
        · right; simp; omega
        · left; simp; omega
      · left; simp; omega
    have hset : (w.setCell ⟨c, off + i, none⟩ v).heap[c]? = some (.cells (arr.setIfInBounds (off + i) v) e fr) := by
      simp only [World.setCell, Array.getElem?_modify, if_true, hc]
      rfl
    obtain ⟨w', arr', h1, h2, h3, h4, h5, h6, h7⟩ := store_run c off e fr vs (i + 1) (arr.setIfInBounds (off + i) v) (w.setCell ⟨c, off + i, none⟩ v) hset (by simpa using hf) (by simp; omega) hs.2
    refine ⟨w', arr', ?_, h2, by rw [h3]; simp, fun k => ?_, fun d hd => ?_, by rw [h6]; simp [World.setCell], ⟨h7.os, h7.tape, h7.output⟩⟩
    · simp only [storeCells, Sem.run_bind, add_rel]
      rw [run_store P w _ v .plain (by rw [scalar_one]; exact hs.1), hcell]
      simp only [hfr, Bool.false_eq_true, if_false, Result.andThen_ok]
      exact h1
    · rw [h4 k, List.length_cons]
      by_cases q : k = off + i
      · subst q
        rw [if_neg (by omega), if_pos (by omega), Nat.sub_self, List.getElem?_cons_zero, Array.getElem?_setIfInBounds_self_of_lt (by omega)]
      · by_cases b : off + i ≤ k ∧ k < off + i + (vs.length + 1)
        · rw [if_pos (by omega), if_pos b, show k - (off + i) = (k - (off + (i + 1))) + 1 by omega, List.getElem?_cons_succ]
        · rw [if_neg (by omega), if_neg b, Array.getElem?_setIfInBounds_ne (by omega)]
    · rw [h5 d hd]
      simp only [World.setCell, Array.getElem?_modify]
      rw [if_neg (fun e => hd e.symm)]
/-- A block of the call's own after cells have been stored into it. -/
theorem store_post (h : HR P ρ H w0 w) {b off : Nat} {l : Loc} {e : TypeId} {cs cs2 vs vs' : List Value} (hb : ρ b = some l) (hg : H.get b = some (.cells true e cs)) (hv : LR ρ vs vs') (hs : vs.all scalar = true) (hsp : splice cs off vs = some cs2) (hroom : l.s + off + vs.length ≤ l.n) :
    ∃ w', (storeCells ⟨l.c, l.s + off, none⟩ vs' 0).run P w = .ok () w' ∧ Post P ρ ρ H (H.upd b (.cells true e cs2)) w0 w w' := by
  obtain ⟨arr, e', fr, h1, h2, h3, h4, h5, h6, h7⟩ := h.blk b l _ hb hg
  have hs' : vs'.all scalar = true := by
    rw [List.all_eq_true] at hs ⊢
    intro y hy
    obtain ⟨i, hi⟩ := List.mem_iff_getElem?.1 hy
    have hilt := (List.getElem?_eq_some_iff.1 hi).1
    have hx := List.getElem?_eq_getElem (show i < vs.length by rw [hv.1]; exact hilt)
    rw [scalar_rel (hv.2 i _ y hx hi)]
    exact hs _ (List.mem_of_getElem? hx)
  obtain ⟨w', arr', g1, g2, g3, g4, g5, g6, g7⟩ := store_run (P := P) l.c (l.s + off) e' fr vs' 0 arr w h1 (by rw [h3]; exact (h6 rfl).2) (by rw [h3, ← hv.1]; omega) hs'
  refine ⟨w', g1, Post.upd h hb hg rfl rfl g7 g6 g5 ⟨arr', e', fr, g2, h2, by rw [g3, h3], h4, ?_, fun _ => ⟨(h6 rfl).1, (h6 rfl).2⟩, fun q => by cases q⟩⟩
  intro k v hk
  rw [splice_get hsp k] at hk
  rw [g4 (l.s + k)]
  split at hk
  · rename_i hc
    rw [if_pos (by rw [← hv.1]; omega), show l.s + k - (l.s + off + 0) = k - off by omega]
    exact hv.at hk
  · rename_i hc
    rw [if_neg (by rw [← hv.1]; omega)]
    exact h5 k v hk
end
end Go.Proofs.Ytffokmamcempgaa.AM

/- A machine of our own: append. -/
namespace Go.Proofs.Ytffokmamcempgaa.AM
open Go Go.RowKit
set_option linter.unusedVariables false
set_option linter.unusedSimpArgs false

section
variable {P : Program} {ρ : Ren} {cf : CallF} {T : Tr Value} {H H' : Heap} {a : Act} {w0 w : World}
theorem bytes_of {e b : Nat} (h : bytesP P e = some b) : ∃ i, P.info? e = some i ∧ i.bytes = b := by
  unfold bytesP at h
  cases hi : P.info? e with
  | none => rw [hi] at h; cases h
  | some i => rw [hi] at h; exact ⟨i, rfl, Option.some.inj h⟩
/-- What an append puts behind, in the given program. -/
structure Puts (P : Program) (ts : Array TypeId) (e size bytes : Nat) (x : Value) (n : Nat) (new : List Value) (w : World) (zeros : Bool) (z : Value) : Prop where
  u : ∃ t d, ts[1]? = some t ∧ P.underlying t = some d ∧ intD d = zeros
  len : zeros = false → ∀ w, (Builtin.lenOf x).run P w = .ok n w
  cells : zeros = false → ∀ w', w'.heap = w.heap → (Builtin.firstCells size n x).run P w' = .ok ⟨new⟩ w'
  int : zeros = true → ∃ k, x = .int k (.ofNat n) ∧ n ≤ room ∧ n * bytes ≤ 140737488355328 ∧ new = (List.replicate n (cellL z)).flatten
theorem zeros_run {t : TypeId} {d : TypeDesc} (h : P.underlying t = some d) (w : World) : ((underlying t >>= fun __do_lift => pure (match __do_lift with | .int _ => true | _ => false)) : Sem Bool).run P w = .ok (intD d) w := by
  simp only [Sem.run_bind, run_und h, Result.andThen_ok, Sem.run_pure]
  cases d <;> rfl
set_option maxRecDepth 100000 in
/-- Within the capacity. -/
theorem append_in {ts : Array TypeId} {xs : Array Value} {ty t e size bytes n sLen sCap : Nat} {base : Option Addr} {x : Value} {new : List Value} {zeros : Bool} {z : Value} {w w' : World} (h0 : ts[0]? = some t) (hs : xs[0]? = some (.slice base sLen sCap)) (hx : xs[1]? = some x)
    (ht : P.underlying t = some (.slice e)) (hsz : sizeP P e = some size) (hb : bytesP P e = some bytes) (hz : zeroP P e = some z) (hzl : (cellL z).length = size) (hsp : 0 < size) (hp : Puts P ts e size bytes x n new w zeros z) (hroom : sLen + n ≤ sCap)
    (hst : (match base with | some a => storeCells (a.add (sLen * size)) new | none => pure ()).run P w = .ok () w') :
    (Builtin.append_ ts ty xs).run P w = .ok (.slice base (sLen + n) sCap) w' := by
  obtain ⟨u, d, h1, hu, hd⟩ := hp.u
  obtain ⟨i, hi, hib⟩ := bytes_of hb
  unfold Builtin.append_
  simp only [h0, hs, hx, h1, Sem.run_bind, run_und ht, Result.andThen_ok, run_size hsz, Sem.run_pure]
  simp only [run_und hu, Result.andThen_ok]
  cases zeros with
  | false =>
    have hl := hp.len rfl
    have hcs := hp.cells rfl w rfl
    cases d <;> (try (cases hd; done)) <;> simp only [Bool.false_eq_true, if_false, hl, Result.andThen_ok, Bool.not_false, if_true, hroom, Sem.run_bind, hcs] <;> cases base <;> first
      | (cases hst; rfl)
      | (simp only [Sem.run_bind]; rw [hst]; rfl)
  | true =>
    obtain ⟨k, rfl, hn, hnb, rfl⟩ := hp.int rfl
    have hw : IntKind.i64.wrap (Int.ofNat n) = Int.ofNat n := wrap_nat .i64 n (by have h9 : n ≤ 70368744177664 := hn; show n ≤ 9223372036854775807; omega)
    have hc : (if n * size = 0 then (pure #[] : Sem (Array Value)) else do pure (Builtin.zeroCells (← zeroValue e).cells n)).run P w = .ok ⟨(List.replicate n (cellL z)).flatten⟩ w := by
      by_cases hn0 : n * size = 0
      · have : n = 0 := by rcases Nat.mul_eq_zero.1 hn0 with h | h <;> omega
        subst this
        simp
      · rw [if_neg hn0]
        simp only [Sem.run_bind, run_zero hz, Result.andThen_ok, Sem.run_pure]
        obtain ⟨m, rfl⟩ : ∃ m, size = m + 1 := ⟨size - 1, by omega⟩
        have hzc : z.cells.size = m + 1 := by rw [← Array.length_toList, cells_toList, hzl]
        have := zeros_row z m n hzl
        unfold Builtin.zeroCells
        rw [hzc] at this ⊢
        rw [← this]
    have hlt : ¬ (Int.ofNat n < 0) := Int.not_lt.2 (Int.natCast_nonneg n)
    have hgt : ¬ (Int.ofNat n * (i.bytes : Int) > 2 ^ 48) := by
      rw [hib]
      have h1 : ((n * bytes : Nat) : Int) ≤ ((140737488355328 : Nat) : Int) := Int.ofNat_le.2 hnb
      rw [Int.natCast_mul] at h1
      simp only [Int.ofNat_eq_natCast]
      omega
    cases d <;> (try (cases hd; done))
    simp only [if_true, Sem.run_bind, asInt, asIntOf, Sem.run_pure, Result.andThen_ok, hw, Bool.not_true, Bool.false_eq_true, if_false, if_neg hlt, run_info hi, if_neg hgt, show (Int.ofNat n).toNat = n from rfl, hroom, hc]
    cases base with
    | none => cases hst; rfl
    | some A => simp only [Sem.run_bind]; rw [hst]; rfl
set_option maxRecDepth 100000 in
/-- Past the capacity. -/
theorem append_past {ts : Array TypeId} {xs : Array Value} {ty t e size bytes n sLen sCap : Nat} {base : Option Addr} {x : Value} {old new : List Value} {zeros : Bool} {z : Value} {w : World} (h0 : ts[0]? = some t) (hs : xs[0]? = some (.slice base sLen sCap)) (hx : xs[1]? = some x)
    (ht : P.underlying t = some (.slice e)) (hsz : sizeP P e = some size) (hb : bytesP P e = some bytes) (hz : zeroP P e = some z) (hzl : (cellL z).length = size) (hsp : 0 < size) (hp : Puts P ts e size bytes x n new w zeros z) (hroom : sCap < sLen + n)
    (hsm : sLen + n ≤ 9223372036854775807) (hby : (sLen + n) * bytes ≤ 140737488355328) (hold : ∀ w', w'.heap = w.heap → (Builtin.firstCells size sLen (.slice base sLen sCap)).run P w' = .ok ⟨old⟩ w') :
    ∃ c more w', sLen + n ≤ c ∧ (old.length = sLen * size → new.length = n * size → (old ++ new ++ more).length = c * size) ∧ (Builtin.append_ ts ty xs).run P w = .ok (.slice (some ⟨w.heap.size, 0, none⟩) (sLen + n) c) w' ∧ Alike w w' ∧ w'.heap = w.heap.push (.cells ⟨old ++ new ++ more⟩ e) := by
  obtain ⟨u, d, h1, hu, hd⟩ := hp.u
  obtain ⟨i, hi, hib⟩ := bytes_of hb
  let q := Question.appendCap (sLen + n) sCap e
  let c := q.cut (w.tape w.drawn q)
  have hcge : sLen + n ≤ c := by simp only [c, q, Question.cut]; omega
  let w1 : World := { w with drawn := w.drawn + 1 }
  have hw1 : w1.heap = w.heap := rfl
  have hch : (choose (.appendCap (sLen + n) sCap e)).run P w = .ok c w1 := by simp [choose, Sem.run, Question.forced, c, q, w1]
  have hfit : ¬ (Builtin.nextslicecap (sLen + n) sCap * i.bytes > 2 ^ 48) := by
    have := growslice_fits (old := sCap) hroom hby
    rw [hib]
    omega
  have hmax : ¬ (((sLen + n : Nat) : Int) > IntKind.i64.max) := by
    have : IntKind.i64.max = 9223372036854775807 := by decide
    rw [this]
    omega
  have hnr : ¬ (sLen + n ≤ sCap) := by omega
  have hzc : z.cells.size = size := by rw [← Array.length_toList, cells_toList, hzl]
  let more := (Builtin.zeroCells z.cells (c - (sLen + n))).toList
  have hmore : Builtin.zeroCells z.cells (c - (sLen + n)) = ⟨more⟩ := rfl
  refine ⟨c, more, w1.alloc (.cells ⟨old ++ new ++ more⟩ e), hcge, fun l1 l2 => ?_, ?_, ⟨rfl, rfl, rfl⟩, rfl⟩
  · have l3 : more.length = (c - (sLen + n)) * size := by
      simp only [more, Array.length_toList, Builtin.zeroCells, Array.size_map, Array.size_range, hzc]
    rw [List.length_append, List.length_append, l1, l2, l3, ← Nat.add_mul, ← Nat.add_mul]
    congr 1
    omega
  · unfold Builtin.append_
    simp only [h0, hs, hx, h1, Sem.run_bind, run_und ht, Result.andThen_ok, run_size hsz, Sem.run_pure, run_und hu]
    have hold1 := hold w1 hw1
    have fin : (newRow e ((⟨old⟩ : Array Value) ++ (⟨new⟩ : Array Value) ++ Builtin.zeroCells z.cells (c - (sLen + n)))).run P w1 = .ok ⟨w.heap.size, 0, none⟩ (w1.alloc (.cells ⟨old ++ new ++ more⟩ e)) := by
      have harr : (⟨old⟩ : Array Value) ++ ⟨new⟩ ++ ⟨more⟩ = ⟨old ++ new ++ more⟩ := by apply Array.ext'; simp
      rw [hmore, harr]
      rfl
    cases zeros with
    | false =>
      have hl := hp.len rfl
      have hcs := hp.cells rfl w1 hw1
      cases d <;> (try (cases hd; done)) <;> simp only [Bool.false_eq_true, if_false, hl, Result.andThen_ok, Bool.not_false, if_true, if_neg hnr, Sem.run_bind, run_info hi, false_or, Sem.run_ite, if_neg hfit, if_neg (fun (hh : _ ∧ _) => hmax hh.1), hch, run_askRoom, hold1, hcs, run_zero hz, fin, Sem.run_pure]
    | true =>
      obtain ⟨k, rfl, hn, hnb, rfl⟩ := hp.int rfl
      have hw : IntKind.i64.wrap (Int.ofNat n) = Int.ofNat n := wrap_nat .i64 n (by have h9 : n ≤ 70368744177664 := hn; show n ≤ 9223372036854775807; omega)
      have hc : (if n * size = 0 then Result.ok (#[] : Array Value) w1 else Result.ok (Builtin.zeroCells z.cells n) w1) = .ok ⟨(List.replicate n (cellL z)).flatten⟩ w1 := by
        by_cases hn0 : n * size = 0
        · have : n = 0 := by rcases Nat.mul_eq_zero.1 hn0 with h | h <;> omega
          subst this
          simp
        · rw [if_neg hn0]
          obtain ⟨m, hm⟩ : ∃ m, size = m + 1 := ⟨size - 1, by omega⟩
          have := zeros_row z m n (by rw [hzl, hm])
          unfold Builtin.zeroCells
          rw [hzc] at this ⊢
          rw [← hm] at this
          rw [← this]
      have hlt : ¬ (Int.ofNat n < 0) := Int.not_lt.2 (Int.natCast_nonneg n)
      have hgt : ¬ (Int.ofNat n * (i.bytes : Int) > 2 ^ 48) := by
        rw [hib]
        have h1 : ((n * bytes : Nat) : Int) ≤ ((140737488355328 : Nat) : Int) := Int.ofNat_le.2 hnb
        rw [Int.natCast_mul] at h1
        simp only [Int.ofNat_eq_natCast]
        omega
      cases d <;> (try (cases hd; done))
      simp only [if_true, Sem.run_bind, asInt, asIntOf, Sem.run_pure, Result.andThen_ok, hw, Bool.not_true, Bool.false_eq_true, if_false, if_neg hlt, run_info hi, if_neg hgt, show (Int.ofNat n).toNat = n from rfl, if_neg hnr, true_or, Sem.run_ite, if_neg hfit, if_neg (fun (hh : _ ∧ _) => hmax hh.1), hch, run_askRoom, hold1, run_zero hz]
      rw [hc]
      simp only [Result.andThen_ok, fin]
end
end Go.Proofs.Ytffokmamcempgaa.AM

/- A machine of our own: append does as the given program's. -/
namespace Go.Proofs.Ytffokmamcempgaa.AM
open Go Go.RowKit
set_option linter.unusedVariables false
set_option linter.unusedSimpArgs false

section
variable {P : Program} {ρ : Ren} {cf : CallF} {T : Tr Value} {H H' : Heap} {a : Act} {w0 w : World}
theorem cells_at2 {b off n : Nat} {l : Loc} {own : Bool} {e : TypeId} {cs r : List Value} (h : HR P ρ H w0 w) (hb : ρ b = some l) (hg : H.get b = some (.cells own e cs)) (hr : lcut off n cs = some r) :
    ∃ r', (∀ w', w'.heap = w.heap → (loadCells ⟨l.c, l.s + off, none⟩ n).run P w' = .ok ⟨r'⟩ w') ∧ LR ρ r r' := by
  obtain ⟨r', h1, h2⟩ := cells_at (P := P) (off := off) h hb hg hr
  refine ⟨r', fun w' hw => ?_, h2⟩
  have hc : ∀ p, w'.cell? p = w.cell? p := fun p => by simp only [World.cell?, hw]
  -- the same cells, read one by one
  obtain ⟨rfl, hn⟩ := lcut_some hr
  have hlen : r'.length = n := by rw [← h2.1, hn]
  have hcell : ∀ j v, r'[j]? = some v → w.cell? ((⟨l.c, l.s + off, none⟩ : Addr).add j) = some v := by
    intro j v hj
    have hjlt : j < n := by have := (List.getElem?_eq_some_iff.1 hj).1; omega
    have hx := List.getElem?_eq_getElem (show j < ((cs.drop off).take n).length by omega)
    have hcs : cs[off + j]? = some (((cs.drop off).take n)[j]'(by omega)) := by
      rw [List.getElem?_take, if_pos hjlt, List.getElem?_drop] at hx
      exact hx
    obtain ⟨v', h3, h4⟩ := cell_at (off := 0) h hb hg hcs
    rw [add_rel, Nat.add_assoc, h3]
    -- what the first run read there
    have hall := run_loadCells (P := P) w ⟨l.c, l.s + off, none⟩ n (fun j => (w.cell? ((⟨l.c, l.s + off, none⟩ : Addr).add j)).getD undef) (fun k hk => by
      have hk' := List.getElem?_eq_getElem (show k < ((cs.drop off).take n).length by omega)
      have hck : cs[off + k]? = some (((cs.drop off).take n)[k]'(by omega)) := by
        rw [List.getElem?_take, if_pos hk, List.getElem?_drop] at hk'
        exact hk'
      obtain ⟨u, h5, _⟩ := cell_at (off := 0) h hb hg hck
      rw [add_rel, Nat.add_assoc, h5]
      rfl)
    rw [h1] at hall
    simp only [Result.ok.injEq, and_true] at hall
    have hr' : r' = (List.range n).map (fun j => (w.cell? ((⟨l.c, l.s + off, none⟩ : Addr).add j)).getD undef) := by
      have := congrArg Array.toList hall
      simpa using this
    rw [hr', List.getElem?_map, List.getElem?_range hjlt] at hj
    simp only [Option.map_some, Option.some.injEq] at hj
    rw [add_rel, Nat.add_assoc, h3] at hj
    simpa using hj
  have := run_loadCells_list (P := P) w' ⟨l.c, l.s + off, none⟩ r' (fun j v hj => by rw [hc]; exact hcell j v hj)
  rw [hlen] at this
  exact this
theorem puts_of {ts : Array TypeId} {e size bytes n : Nat} {zeros : Bool} {x x' z : Value} {new : List Value} (hu : ∃ t d, ts[1]? = some t ∧ P.underlying t = some d ∧ intD d = zeros) (hx : VR ρ x x') (h : HR P ρ H w0 w)
    (hz : zeroP P e = some z) (hzl : (cellL z).length = size) (hn : newCells T H size (cellL z) zeros x = some (n, new)) (hnb : n * bytes ≤ 140737488355328) :
    new.length = n * size ∧ ∃ new', Puts P ts e size bytes x' n new' w zeros z ∧ LR ρ new new' := by
  unfold newCells at hn
  split at hn <;> (try (cases hn; done))
  · rename_i k m
    split at hn <;> (try (cases hn; done))
    rename_i hm
    cases hn
    cases hx
    exact ⟨by rw [flat_len, hzl], _, ⟨hu, fun q => (by cases q), fun q => (by cases q), fun _ => ⟨k, rfl, Nat.le_of_ble_eq_true hm, hnb, rfl⟩⟩, flat_plain (zero_of hz).1 n⟩
  · rename_i s
    split at hn <;> (try (cases hn; done))
    rename_i hs
    have hs1 : size = 1 := Nat.eq_of_beq_eq_true hs
    cases hn
    cases hx
    refine ⟨by simp [byteCells, hs1], byteCells s.data.toList, ⟨hu, fun _ w => rfl, fun _ w' _ => ?_, fun q => by cases q⟩, LR.map _ _ _ fun b _ => .int _ _⟩
    simp only [Builtin.firstCells, Sem.run_pure]
    congr 1
    apply Array.ext'
    simp [byteCells]
  · cases hn
    cases hx
    refine ⟨by simp, [], ⟨hu, fun _ w => rfl, fun _ w' _ => rfl, fun q => by cases q⟩, LR.nil ρ⟩
  · rename_i b off m cap
    split at hn <;> (try (cases hn; done))
    rename_i own e' cs hg
    simp only [Option.map_eq_some_iff, Prod.mk.injEq] at hn
    obtain ⟨r, hr, rfl, rfl⟩ := hn
    cases hx with
    | slice b off off' len cap cap' l hb hc hl ho hroom =>
      refine ⟨(lcut_some hr).2, ?_⟩
      by_cases h0 : m = 0
      · subst h0
        have hr0 : r = [] := List.eq_nil_of_length_eq_zero (by rw [(lcut_some hr).2, Nat.zero_mul])
        subst hr0
        exact ⟨[], ⟨hu, fun _ w => rfl, fun _ w' _ => by simp [Builtin.firstCells, loadCells, loadCellsFrom], fun q => by cases q⟩, LR.nil ρ⟩
      · have hoff : off' = l.s + off := ho.resolve_right fun q => h0 q.1
        obtain ⟨r', h1, h2⟩ := cells_at2 (P := P) h hb hg hr
        exact ⟨r', ⟨hu, fun _ w => rfl, fun _ w' hw => by rw [hoff]; exact h1 w' hw, fun q => by cases q⟩, h2⟩
theorem fits_of {n bytes : Nat} (h : fits n bytes = true) : n * bytes ≤ 70368744177664 ∧ n ≤ 70368744177664 := by
  unfold fits at h
  split at h
  · rename_i h1; exact ⟨Nat.le_of_ble_eq_true h1, Nat.le_of_ble_eq_true h⟩
  · cases h
theorem append_sound {ts : Array TypeId} {xs : Array Value} {ty t e size bytes : Nat} {zeros : Bool} {s s' x x' z v : Value} (h : HR P ρ H w0 w) (h0 : ts[0]? = some t) (h1 : xs[0]? = some s') (h2 : xs[1]? = some x')
    (hu : ∃ t d, ts[1]? = some t ∧ P.underlying t = some d ∧ intD d = zeros) (ht : P.underlying t = some (.slice e)) (hsz : sizeP P e = some size) (hb : bytesP P e = some bytes) (hz : zeroP P e = some z) (hzl : (cellL z).length = size) (hsp : 0 < size)
    (hs : VR ρ s s') (hx : VR ρ x x') (hr : oAppend T H e size bytes (cellL z) zeros s x = some (v, H')) :
    ∃ v' w' ρ', (Builtin.append_ ts ty xs).run P w = .ok v' w' ∧ Post P ρ ρ' H H' w0 w w' ∧ VR ρ' v v' := by
  unfold oAppend at hr
  simp only [Option.bind_eq_some_iff] at hr
  obtain ⟨⟨n, new⟩, hn, hr⟩ := hr
  simp only at hr
  split at hr <;> (try (cases hr; done))
  rename_i hsc
  unfold appendTo at hr
  split at hr <;> (try (cases hr; done))
  · -- nil
    cases hs
    split at hr
    · cases hr
      obtain ⟨hln, new', hp, hl⟩ := puts_of (bytes := bytes) hu hx h hz hzl hn (by simp)
      exact ⟨.slice none 0 0, w, ρ, append_in h0 h1 h2 ht hsz hb hz hzl hsp hp (Nat.le_refl _) rfl, Post.refl h, .sliceNil⟩
    · rename_i m
      split at hr <;> (try (cases hr; done))
      rename_i hf
      have hf' := fits_of hf
      cases hr
      obtain ⟨hln, new', hp, hl⟩ := puts_of (bytes := bytes) hu hx h hz hzl hn (by omega)
      obtain ⟨c, more, w', g1, g2, g3, g4, g5⟩ := append_past (ty := ty) h0 h1 h2 ht hsz hb hz hzl hsp hp (by omega) (by omega) (by rw [Nat.zero_add]; omega) (old := []) (fun w' _ => by simp [Builtin.firstCells])
      rw [List.nil_append] at g5
      have hlen := g2 (by simp) (by rw [← hl.1, hln])
      rw [List.nil_append] at hlen
      refine ⟨_, w', _, g3, row_new h hsz hl g4 g5 (.inl rfl), ?_⟩
      rw [Nat.zero_add]
      refine .slice H.next 0 0 _ _ _ _ (put_same _ _ _) (.inr rfl) (by omega) (.inl rfl) (fun _ => ?_)
      simp only
      rw [hlen]
      omega
  · rename_i b off len cap
    split at hr <;> (try (cases hr; done))
    rename_i own e' cs hg
    split at hr <;> (try (cases hr; done))
    rename_i hee hf
    have hee' : e = e' := Nat.eq_of_beq_eq_true hee
    subst hee'
    have hf' := fits_of hf
    have hnb : n * bytes ≤ 140737488355328 := by
      have : n * bytes ≤ (len + n) * bytes := Nat.mul_le_mul_right _ (by omega)
      omega
    obtain ⟨hln, new', hp, hl⟩ := puts_of (bytes := bytes) hu hx h hz hzl hn hnb
    cases hs with
    | slice b off off' len cap cap' l hb' hc hlc ho hroom =>
    obtain ⟨arr, e'', fr, q1, q2, q3, q4, q5, q6, q7⟩ := h.blk b l _ hb' hg
    have hes : l.e = size := by rw [hsz] at q4; exact (Option.some.inj q4).symm
    -- nothing is put behind
    have idle : n = 0 → ∃ v' w' ρ', (Builtin.append_ ts ty xs).run P w = .ok v' w' ∧ Post P ρ ρ' H H w0 w w' ∧ VR ρ' (.slice (some ⟨b, off, none⟩) len cap) v' := by
      intro hn0
      subst hn0
      have hnew : new' = [] := List.eq_nil_of_length_eq_zero (by rw [← hl.1, hln, Nat.zero_mul])
      subst hnew
      exact ⟨_, w, ρ, append_in h0 h1 h2 ht hsz hb hz hzl hsp hp (by omega) rfl, Post.refl h, .slice b off off' len cap cap' l hb' hc hlc ho hroom⟩
    -- past the capacity
    have past : ∀ (K : Heap) (old : List Value), K.next = H.next → HR P ρ K w0 w → lcut off (len * size) cs = some old → cap' < len + n →
        ∃ v' w' ρ', (Builtin.append_ ts ty xs).run P w = .ok v' w' ∧ Post P ρ ρ' K (K.new (.cells true e (old ++ new))) w0 w w' ∧ VR ρ' (.slice (some ⟨K.next, 0, none⟩) (len + n) U) v' := by
      intro K old hK hKr hold hlt
      have hold' : ∃ old', LR ρ old old' ∧ ∀ w', w'.heap = w.heap → (Builtin.firstCells size len (.slice (some ⟨l.c, off', none⟩) len cap')).run P w' = .ok ⟨old'⟩ w' := by
        by_cases hl0 : len = 0
        · subst hl0
          have hr0 : old = [] := List.eq_nil_of_length_eq_zero (by rw [(lcut_some hold).2, Nat.zero_mul])
          subst hr0
          exact ⟨[], LR.nil ρ, fun (w' : World) _ => by simp [Builtin.firstCells, loadCells, loadCellsFrom]⟩
        · have hoff : off' = l.s + off := ho.resolve_right fun q => hl0 q.1
          obtain ⟨r', g1, g2⟩ := cells_at2 (P := P) h hb' hg hold
          exact ⟨r', g2, fun (w' : World) hw => by rw [hoff]; exact g1 w' hw⟩
      obtain ⟨old', hol, hrun⟩ := hold'
      obtain ⟨c, more, w', g1, g2, g3, g4, g5⟩ := append_past (ty := ty) h0 h1 h2 ht hsz hb hz hzl hsp hp hlt (by omega) (by omega) hrun
      have hlen := g2 (by rw [← hol.1, (lcut_some hold).2]) (by rw [← hl.1, hln])
      refine ⟨_, w', _, g3, row_new hKr hsz (hol.append hl) g4 g5 (.inl rfl), ?_⟩
      refine .slice K.next 0 0 _ _ _ _ (put_same _ _ _) (.inr rfl) (by omega) (.inl rfl) (fun _ => ?_)
      simp only
      rw [hlen]
      omega
    split at hr
    · -- the capacity is not known
      rename_i hcu
      have hcu' := Nat.eq_of_beq_eq_true hcu
      subst hcu'
      unfold appU at hr
      split at hr
      · cases hr
        exact idle rfl
      · rename_i m
        split at hr <;> (try (cases hr; done))
        rename_i old hold
        cases hr
        by_cases hfit : len + (m + 1) ≤ cap'
        · replace hln : new.length = (m + 1) * size := hln
          have hoff : off' = l.s + off := ho.resolve_right fun q => by omega
          have hrm := hroom q2
          rw [hes] at hrm
          have hbnd : len * size + (m + 1) * size ≤ cap' * size := by rw [← Nat.add_mul]; exact Nat.mul_le_mul_right _ hfit
          have hnl : new'.length = (m + 1) * size := by rw [← hl.1, hln]
          have hs' : new'.all scalar = true := by
            rw [List.all_eq_true] at hsc ⊢
            intro y hy
            obtain ⟨i, hi⟩ := List.mem_iff_getElem?.1 hy
            have hilt := (List.getElem?_eq_some_iff.1 hi).1
            have hxx := List.getElem?_eq_getElem (show i < new.length by rw [hl.1]; exact hilt)
            rw [scalar_rel (hl.2 i _ y hxx hi)]
            exact hsc _ (List.mem_of_getElem? hxx)
          obtain ⟨w', arr', g1, g2, g3, g4, g5, g6, g7⟩ := store_run (P := P) l.c (off' + len * size) e'' fr new' 0 arr w q1 (by rw [q3]; exact (q6 rfl).2) (by rw [q3, hnl]; omega) hs'
          refine ⟨.slice (some ⟨l.c, off', none⟩) (len + (m + 1)) cap', w', put ρ H.next ⟨l.c, off', l.n, l.e, true⟩, ?_, ?_, ?_⟩
          · exact append_in h0 h1 h2 ht hsz hb hz hzl hsp hp hfit (by simp only [add_rel]; exact g1)
          · refine Post.take h hb' hg rfl g7 g6 g5 rfl ⟨arr', e'', fr, g2, rfl, by rw [g3, q3], by rw [hsz, hes], ?_, fun _ => ⟨(q6 rfl).1, (q6 rfl).2⟩, fun q => by cases q⟩
            intro k u hk
            rw [g4 (off' + k)]
            obtain ⟨holdr, hol⟩ := lcut_some hold
            by_cases hko : k < len * size
            · rw [if_neg (by omega)]
              rw [List.getElem?_append_left (by omega), holdr, List.getElem?_take, if_pos hko, List.getElem?_drop] at hk
              rw [hoff, Nat.add_assoc]
              obtain ⟨u', r1, r2⟩ := q5 _ u hk
              exact ⟨u', r1, r2⟩
            · rw [List.getElem?_append_right (by omega), hol] at hk
              have hklt := (List.getElem?_eq_some_iff.1 hk).1
              rw [if_pos (by omega), show off' + k - (off' + len * size + 0) = k - len * size by omega]
              exact hl.at hk
          · exact .slice H.next 0 off' _ _ _ ⟨l.c, off', l.n, l.e, true⟩ (put_same _ _ _) (.inr rfl) hfit (.inl rfl) (fun _ => by rw [hes]; exact hrm)
        · -- a new row
          have hkill := Post.kill h b
          obtain ⟨v', w', ρ', g1, g2, g3⟩ := past (H.kill b) old rfl hkill.hr hold (by omega)
          exact ⟨v', w', ρ', g1, hkill.trans h g2, g3⟩
    · -- it is known
      rename_i hcu
      have hcc : cap = cap' := hc.resolve_right fun q => by rw [q, Nat.beq_refl] at hcu; cases hcu
      subst hcc
      unfold appX at hr
      split at hr
      · rename_i hfit
        have hfit' := Nat.le_of_ble_eq_true hfit
        split at hr
        · cases hr
          exact idle rfl
        · rename_i m
          split at hr <;> (try (cases hr; done))
          rename_i cs2 hsp2
          cases hr
          have hoff : off' = l.s + off := ho.resolve_right fun q => by omega
          have hrm := hroom q2
          rw [hes] at hrm
          have hbnd : len * size + (m + 1) * size ≤ cap * size := by rw [← Nat.add_mul]; exact Nat.mul_le_mul_right _ hfit'
          replace hln : new.length = (m + 1) * size := hln
          obtain ⟨w', g1, g2⟩ := store_post (P := P) (off := off + len * size) h hb' hg hl hsc hsp2 (by rw [hln]; omega)
          refine ⟨.slice (some ⟨l.c, off', none⟩) (len + (m + 1)) cap, w', ρ, ?_, g2, ?_⟩
          · exact append_in h0 h1 h2 ht hsz hb hz hzl hsp hp hfit' (by simp only [add_rel]; rw [hoff, Nat.add_assoc]; exact g1)
          · exact .slice b off off' _ _ _ l hb' (.inl rfl) hfit' (.inl hoff) hroom
      · rename_i hfit
        have hlt : cap < len + n := by
          refine Nat.lt_of_not_le fun q => ?_
          rw [Nat.ble_eq_true_of_le q] at hfit
          cases hfit
        split at hr <;> (try (cases hr; done))
        rename_i old hold
        cases hr
        obtain ⟨v', w', ρ', g1, g2, g3⟩ := past H old rfl h hold hlt
        exact ⟨v', w', ρ', g1, g2, g3⟩
end
end Go.Proofs.Ytffokmamcempgaa.AM

/- A machine of our own: each operation that makes blocks, or writes them, does as the given program's. -/
namespace Go.Proofs.Ytffokmamcempgaa.AM
open Go Go.RowKit
set_option linter.unusedVariables false
set_option linter.unusedSimpArgs false

section
variable {P : Program} {ρ : Ren} {cf : CallF} {T : Tr Value} {H H' : Heap} {a : Act} {w0 w : World}
theorem obj_at {b : Nat} {l : Loc} {es : List MapEntry} {clock : Nat} (h : HR P ρ H w0 w) (hb : ρ b = some l) (hg : H.get b = some (.map es clock)) : ∃ es', w.heap[l.c]? = some (.map es' clock) ∧ l.s = 0 ∧ w0.heap.size ≤ l.c ∧ MR ρ es es' :=
  h.blk b l _ hb hg
theorem setObj_run {c : Nat} {o o' : Obj} (h : w.heap[c]? = some o) (ho : ∀ x y z, o ≠ .cells x y z) : (setObj c o').run P w = .ok () { w with heap := w.heap.setIfInBounds c o' } := by
  cases o <;> first | exact absurd rfl (ho _ _ _) | simp only [setObj, Sem.run, h]
theorem setObj_post (h : HR P ρ H w0 w) {b : Nat} {l : Loc} {B B' : Blk} {o' : Obj} (hb : ρ b = some l) (hg : H.get b = some B) (ho : ownB B = true) (ho' : ownB B' = true) (hB : BR P ρ w0.heap.size l B' (some o')) :
    Post P ρ ρ H (H.upd b B') w0 w { w with heap := w.heap.setIfInBounds l.c o' } := by
  have hlt := (h.dom b l hb).2
  refine Post.upd h hb hg ho ho' ⟨rfl, rfl, rfl⟩ (by simp) (fun k hk => ?_) ?_
  · simp only
    rw [Array.getElem?_setIfInBounds_ne (fun e => hk e.symm)]
  · simp only
    rw [Array.getElem?_setIfInBounds_self_of_lt hlt]
    exact hB
theorem MR.set {es : List MapEntry} {es' : Array MapEntry} (h : MR ρ es es') {j : Nat} {e : MapEntry} (he : es[j]? = some e) {k v v' : Value} (hv : VR ρ v v') :
    MR ρ (es.set j { e with key := k, val := v }) (es'.modify j fun e => { e with key := k, val := v' }) := by
  refine ⟨by simp [h.1], fun i a b ha hb => ?_⟩
  have hjlt := (List.getElem?_eq_some_iff.1 he).1
  by_cases hij : j = i
  · subst hij
    rw [List.getElem?_set_self hjlt] at ha
    cases ha
    rw [Array.getElem?_modify, if_pos rfl] at hb
    simp only [Option.map_eq_some_iff] at hb
    obtain ⟨f, hf, rfl⟩ := hb
    exact ⟨rfl, (h.2 j e f he hf).2.1, hv⟩
  · rw [List.getElem?_set_ne hij] at ha
    rw [Array.getElem?_modify, if_neg hij] at hb
    exact h.2 i a b ha hb
theorem MR.push {es : List MapEntry} {es' : Array MapEntry} (h : MR ρ es es') {k v v' : Value} {n : Nat} (hv : VR ρ v v') : MR ρ (es ++ [{ key := k, val := v, born := n }]) (es'.push { key := k, val := v', born := n }) := by
  refine ⟨by simp [h.1], fun i a b ha hb => ?_⟩
  by_cases hi : i < es.length
  · rw [List.getElem?_append_left hi] at ha
    rw [Array.getElem?_push, if_neg (by rw [← h.1]; omega)] at hb
    exact h.2 i a b ha hb
  · rw [List.getElem?_append_right (by omega)] at ha
    have hi2 : i = es.length := by
      have := (List.getElem?_eq_some_iff.1 ha).1
      simp at this
      omega
    subst hi2
    simp at ha
    rw [Array.getElem?_push, if_pos h.1] at hb
    cases hb
    subst ha
    exact ⟨rfl, rfl, hv⟩
theorem MR.erase {es : List MapEntry} {es' : Array MapEntry} (h : MR ρ es es') (j : Nat) : MR ρ (es.eraseIdx j) (es'.eraseIdxIfInBounds j) := by
  have ht : (es'.eraseIdxIfInBounds j).toList = es'.toList.eraseIdx j := by simp
  have hl : es.length = es'.toList.length := by simp [h.1]
  refine ⟨by rw [← Array.length_toList, ht, List.length_eraseIdx, List.length_eraseIdx, hl], fun i a b ha hb => ?_⟩
  rw [← Array.getElem?_toList, ht] at hb
  rw [List.getElem?_eraseIdx] at ha hb
  split at ha
  · rename_i hij; rw [if_pos hij] at hb; exact h.2 i a b ha (by simpa using hb)
  · rename_i hij; rw [if_neg hij] at hb; exact h.2 (i + 1) a b ha (by simpa using hb)
theorem mapSet_run {t k e : TypeId} (ht : mapP P t = some (k, e)) {q : KeyK} (hq : quickKey P k = some q) {m m' i i' u u' v : Value} (hm : VR ρ m m') (hi : VR ρ i i') (hu : VR ρ u u') (h : HR P ρ H w0 w)
    (hr : oMapSet P H q k m i u = some (v, H')) : ∃ w', (Instr.mapUpdate t m' i' u').run P w = .ok () w' ∧ Post P ρ ρ H H' w0 w w' ∧ v = undef := by
  have hun : P.underlying t = some (.map k e) := by
    unfold mapP at ht
    split at ht <;> (try (cases ht; done))
    rename_i k0 e0 h0
    cases ht
    exact h0
  unfold oMapSet at hr
  split at hr <;> (try (cases hr; done))
  rename_i b
  cases hm with
  | map b l hb =>
  split at hr <;> (try (cases hr; done))
  rename_i es clock hg
  obtain ⟨es', h2, h3, h4, h5⟩ := obj_at h hb hg
  have hgo : (getObj l.c).run P w = .ok (.map es' clock) w := by simp [getObj, Sem.run, h2]
  split at hr <;> (try (cases hr; done))
  · rename_i j hf
    split at hr <;> (try (cases hr; done))
    rename_i ej hej
    split at hr <;> (try (cases hr; done))
    rename_i hsb
    cases hr
    obtain ⟨rfl, hp, h6, r', h7, e', h8, h9, rfl⟩ := find_run hq hi h5.keys hf false w
    rw [Nat.sub_zero, Array.getElem?_toList] at h9
    refine ⟨_, ?_, setObj_post (o' := .map (es'.modify j fun e => { e with key := i', val := u' }) clock) h hb hg rfl rfl ⟨_, rfl, h3, h4, h5.set hej hu⟩, rfl⟩
    have hk : e'.key = ej.key := (h5.2 j ej e' hej h9).1
    unfold Instr.mapUpdate
    simp only [Sem.run_bind, run_und hun, Result.andThen_ok, hgo, h6, h7, h9, Option.map_some, Option.getD_some]
    have hks : (Instr.keyThatStays e'.key i').run P w = .ok i' w := by
      unfold Instr.keyThatStays
      rw [hk, if_pos hsb]
      rfl
    simp only [hks, Result.andThen_ok]
    exact setObj_run h2 (fun x y z => by simp)
  · rename_i hf
    cases hr
    obtain ⟨rfl, hp, h6, r', h7, h8⟩ := find_run hq hi h5.keys hf false w
    have hr' : r' = none := h8
    subst hr'
    refine ⟨_, ?_, setObj_post (o' := .map (es'.push { key := i', val := u', born := clock }) (clock + 1)) h hb hg rfl rfl ⟨_, rfl, h3, h4, h5.push hu⟩, rfl⟩
    unfold Instr.mapUpdate
    simp only [Sem.run_bind, run_und hun, Result.andThen_ok, hgo, h6, h7]
    exact setObj_run h2 (fun x y z => by simp)
theorem delete_run {t k e : TypeId} (ht : mapP P t = some (k, e)) {q : KeyK} (hq : quickKey P k = some q) {m m' i i' v : Value} (hm : VR ρ m m') (hi : VR ρ i i') (h : HR P ρ H w0 w) (hr : oDelete P H q k m i = some (v, H'))
    {ts : Array TypeId} {xs : Array Value} {ty : TypeId} (h0 : ts[0]? = some t) (h1 : xs[0]? = some m') (h2 : xs[1]? = some i') : ∃ w', (Builtin.delete_ ts ty xs).run P w = .ok (.tuple #[]) w' ∧ Post P ρ ρ H H' w0 w w' ∧ v = .tuple #[] := by
  have hun : P.underlying t = some (.map k e) := by
    unfold mapP at ht
    split at ht <;> (try (cases ht; done))
    rename_i k0 e0 h0
    cases ht
    exact h0
  unfold oDelete at hr
  split at hr <;> (try (cases hr; done))
  · cases hm
    split at hr <;> (try (cases hr; done))
    rename_i r hf
    cases hr
    obtain ⟨rfl, hp, h6, _⟩ := find_run (es' := []) hq hi ⟨rfl, fun i e e' a => by simp at a⟩ hf true w
    refine ⟨w, ?_, Post.refl h, rfl⟩
    unfold Builtin.delete_
    simp only [h0, h1, h2, Sem.run_bind, run_und hun, Result.andThen_ok, h6, Sem.run_pure]
  · rename_i b
    cases hm with
    | map b l hb =>
    split at hr <;> (try (cases hr; done))
    rename_i es clock hg
    obtain ⟨es', g2, g3, g4, g5⟩ := obj_at h hb hg
    have hgo : (getObj l.c).run P w = .ok (.map es' clock) w := by simp [getObj, Sem.run, g2]
    split at hr <;> (try (cases hr; done))
    · rename_i j hf
      cases hr
      obtain ⟨rfl, hp, h6, r', h7, e', h8, h9, rfl⟩ := find_run hq hi g5.keys hf es'.isEmpty w
      refine ⟨_, ?_, setObj_post (o' := .map (es'.eraseIdxIfInBounds j) clock) h hb hg rfl rfl ⟨_, rfl, g3, g4, g5.erase j⟩, rfl⟩
      unfold Builtin.delete_
      simp only [h0, h1, h2, Sem.run_bind, run_und hun, Result.andThen_ok, hgo, h6, h7, setObj_run g2 (fun x y z => by simp), Sem.run_pure]
    · rename_i hf
      cases hr
      obtain ⟨rfl, hp, h6, r', h7, h8⟩ := find_run hq hi g5.keys hf es'.isEmpty w
      have hr' : r' = none := h8
      subst hr'
      have hsame : ({ w with heap := w.heap.setIfInBounds l.c (.map es' clock) } : World) = w := by
        have : w.heap.setIfInBounds l.c (.map es' clock) = w.heap := by
          apply Array.ext_getElem?
          intro k
          by_cases hk : l.c = k
          · subst hk
            rw [Array.getElem?_setIfInBounds_self_of_lt (h.dom b l hb).2, g2]
          · rw [Array.getElem?_setIfInBounds_ne hk]
        rw [this]
      refine ⟨w, ?_, Post.refl h, rfl⟩
      unfold Builtin.delete_
      simp only [h0, h1, h2, Sem.run_bind, run_und hun, Result.andThen_ok, hgo, h6, h7, setObj_run g2 (fun x y z => by simp), Sem.run_pure, hsame]
theorem next_run {x x' v : Value} (hx : VR ρ x x') (h : HR P ρ H w0 w) (hr : oNext H x = some (v, H')) (ty : TypeId) : ∃ w', (Instr.next x' true ty).run P w = .ok v w' ∧ Post P ρ ρ H H' w0 w w' ∧ VR ρ v v := by
  unfold oNext at hr
  split at hr <;> (try (cases hr; done))
  rename_i b
  cases hx with
  | ptr b off l hb =>
  split at hr <;> (try (cases hr; done))
  rename_i s pos hg
  obtain ⟨h1, h2, h3⟩ := h.blk b l _ hb hg
  have hgo : (getObj l.c).run P w = .ok (.stringIter s pos) w := by simp [getObj, Sem.run, h1]
  split at hr
  · rename_i hlt
    have hlt' : pos < s.size := by simp only [Nat.blt] at hlt; exact Nat.le_of_ble_eq_true hlt
    cases hr
    refine ⟨_, ?_, setObj_post (o' := .stringIter s (pos + (Utf8.decode s pos).2)) h hb hg rfl rfl ⟨rfl, h2, h3⟩, plain_refl ρ 1 _ rfl⟩
    unfold Instr.next
    simp only [h2, Nat.add_zero, Sem.run_bind, hgo, Result.andThen_ok, hlt', if_true, setObj_run h1 (fun x y z => by simp), Sem.run_pure]
  · rename_i hlt
    have hlt' : ¬ pos < s.size := fun q => by
      have : Nat.blt pos s.size = true := by simp only [Nat.blt]; exact Nat.ble_eq_true_of_le q
      rw [this] at hlt; cases hlt
    cases hr
    refine ⟨w, ?_, Post.refl h, plain_refl ρ 1 _ rfl⟩
    unfold Instr.next
    simp only [h2, Nat.add_zero, Sem.run_bind, hgo, Result.andThen_ok, hlt', if_false, Sem.run_pure]
theorem mark_run {x x' v : Value} (hx : VR ρ x x') (h : HR P ρ H w0 w) (hr : oMark H x = some (v, H')) : v = x ∧ ∃ A n c w', x' = .slice (some A) n c ∧ (markStringish A).run P w = .ok () w' ∧ Post P ρ ρ H H' w0 w w' := by
  unfold oMark at hr
  split at hr <;> (try (cases hr; done))
  rename_i b off n c
  cases hx with
  | slice b off off' len cap cap' l hb hc hl ho hroom =>
  split at hr <;> (try (cases hr; done))
  rename_i e cs hg
  cases hr
  obtain ⟨arr, e'', fr, q1, q2, q3, q4, q5, q6, q7⟩ := h.blk b l _ hb hg
  have hsh : w.shape? l.c = some (e'', arr.size) := by simp [World.shape?, q1]
  refine ⟨rfl, _, _, _, w.freeze { block := l.c, off := arr.size } 1, rfl, ?_, ?_⟩
  · simp [markStringish, hsh]
  · have hheap : (w.freeze { block := l.c, off := arr.size } 1).heap = w.heap.modify l.c fun
        | .cells c elem (lo, hi) => .cells c elem (if lo == hi then (arr.size, arr.size + 1) else (min lo arr.size, max hi (arr.size + 1)))
        | o => o := by simp [World.freeze]; rfl
    have ha : Alike w (w.freeze { block := l.c, off := arr.size } 1) := by simp only [World.freeze]; exact ⟨rfl, rfl, rfl⟩
    have hnew : (w.freeze { block := l.c, off := arr.size } 1).heap[l.c]? = some (.cells arr e'' (if fr.1 == fr.2 then (arr.size, arr.size + 1) else (min fr.1 arr.size, max fr.2 (arr.size + 1)))) := by
      rw [hheap, Array.getElem?_modify, if_pos rfl, q1]
      rfl
    refine Post.upd h hb hg rfl rfl ha (by rw [hheap]; simp) (fun k hk => ?_) ⟨arr, e'', _, hnew, q2, q3, q4, q5, fun _ => ⟨(q6 rfl).1, ?_⟩, q7⟩
    · rw [hheap, Array.getElem?_modify, if_neg (fun e => hk e.symm)]
    · right
      split
      · simp only; omega
      · rename_i hne
        have := (q6 rfl).2.resolve_left (by simpa using hne)
        simp only
        omega
theorem bytes_run {e : TypeId} (he : P.underlying e = some (.int .u8)) (hs : sizeP P e = some 1) {s : ByteArray} {v : Value} (h : HR P ρ H w0 w) (hr : oBytes H e (.string s) = some (v, H')) :
    ∃ v' w' ρ', (Conv.stringToBytes e s).run P w = .ok v' w' ∧ Post P ρ ρ' H H' w0 w w' ∧ VR ρ' v v' := by
  simp only [oBytes] at hr
  split at hr <;> (try (cases hr; done))
  rename_i hroom
  cases hr
  let q := Question.appendCap s.size 0 e
  let c := q.cut (w.tape w.drawn q)
  have hc : s.size ≤ c := by simp only [c, q, Question.cut]; omega
  let w1 : World := { w with drawn := w.drawn + 1 }
  have hch : (choose (.appendCap s.size 0 e)).run P w = .ok c w1 := by simp [choose, Sem.run, Question.forced, c, q, w1]
  let more : List Value := List.replicate (c - s.size) (.int .u8 0)
  let arr : Array Value := ⟨byteCells s.data.toList ++ more⟩
  have harr : (s.data.map fun b => Value.int .u8 b.toNat) ++ Array.replicate (c - s.size) (.int .u8 0) = arr := by
    apply Array.ext'
    simp [arr, more, byteCells]
  have hsz : arr.size = c := by
    simp only [arr, more, byteCells, List.size_toArray, List.length_append, List.length_map, List.length_replicate, Array.length_toList]
    have : s.data.size = s.size := rfl
    omega
  let w2 : World := w1.alloc (.cells arr e)
  let w3 := w2.freeze { block := w.heap.size, off := arr.size } 1
  have hw2 : w2.heap = w.heap.push (.cells arr e) := rfl
  have hsh : w2.shape? w.heap.size = some (e, arr.size) := by simp [World.shape?, hw2]
  have hw3 : w3.heap = w.heap.push (.cells arr e (arr.size, arr.size + 1)) := by
    have hm : w3.heap = w2.heap.modify w.heap.size fun
        | .cells c elem (lo, hi) => .cells c elem (if lo == hi then (arr.size, arr.size + 1) else (min lo arr.size, max hi (arr.size + 1)))
        | o => o := by simp [w3, World.freeze]; rfl
    rw [hm, hw2]
    apply Array.ext_getElem?
    intro k
    rw [Array.getElem?_modify, Array.getElem?_push, Array.getElem?_push]
    by_cases hk : k = w.heap.size
    · subst hk; simp
    · rw [if_neg (fun e => hk e.symm), if_neg hk, if_neg hk]
  refine ⟨.slice (some ⟨w.heap.size, 0, none⟩) s.size c, w3, put ρ H.next ⟨w.heap.size, 0, (byteCells s.data.toList ++ more).length, 1, true⟩, ?_, ?_, ?_⟩
  · unfold Conv.stringToBytes
    simp only [Sem.run_bind, hch, Result.andThen_ok, harr]
    have hrow : (newRow e arr).run P w1 = .ok ⟨w.heap.size, 0, none⟩ w2 := by simp [newRow, w1, w2]; rfl
    have hmk : (markStringish ⟨w.heap.size, 0, none⟩).run P w2 = .ok () w3 := by simp [markStringish, hsh, w3]
    simp only [hrow, Result.andThen_ok, hmk, Sem.run_pure]
  · refine row_new h hs (LR.map _ _ _ fun b _ => .int _ _) ⟨by simp only [w3, World.freeze]; rfl, by simp only [w3, World.freeze]; rfl, by simp only [w3, World.freeze]; rfl⟩ hw3 (.inr (Nat.le_of_eq (by simp [arr])))
  · refine .slice H.next 0 0 _ _ _ ⟨w.heap.size, 0, (byteCells s.data.toList ++ more).length, 1, true⟩ (put_same _ _ _) (.inr rfl) hc (.inl rfl) (fun _ => ?_)
    have : (byteCells s.data.toList ++ more).length = c := by have := hsz; simpa [arr] using this
    simp only [this]
    omega
end
end Go.Proofs.Ytffokmamcempgaa.AM

/- A machine of our own: operations that make blocks, or write them, do as the given program's. (Put together.) -/
namespace Go.Proofs.Ytffokmamcempgaa.AM
open Go Go.RowKit
set_option linter.unusedVariables false
set_option linter.unusedSimpArgs false

section
variable {P : Program} {ρ : Ren} {cf : CallF} {T : Tr Value} {H H' : Heap} {a : Act} {w0 w : World}
theorem does_value {o : Oper} {v v' : Value} {w' : World} {ρ' : Ren} (h1 : (execOp a.eval o).run P w = .ok (.value v') w') (h2 : Post P ρ ρ' H H' w0 w w') (h3 : VR ρ' v v') : Does P a o ρ H H' w0 w v := ⟨v', w', ρ', .inl h1, h2, h3⟩
def isCall : AOp → Bool
  | .call .. => true
  | _ => false
theorem act_sound {o : Oper} {ao : AOp} {v : Value} (hc : compOp P o.op = some ao) (hv : ∀ x ∈ o.op.operands.toList, ∀ y, compArg x = some y → VR ρ (y.ev T) (a.eval x)) (ha : acts ao = true) (hnc : isCall ao = false) (h : HR P ρ H w0 w)
    (hr : opRun P cf T H ao = some (v, H')) : Does P a o ρ H H' w0 w v := by
  obtain ⟨dst, op, type, pos, after, guard⟩ := o
  simp only at hc hv
  have one : ∀ {x : Operand} {y : Arg}, x ∈ op.operands.toList → compArg x = some y → VR ρ (y.ev T) (a.eval x) := fun h1 h2 => hv _ h1 _ h2
  cases op with
  | alloc e =>
    simp only [compOp, Option.map_eq_some_iff] at hc
    obtain ⟨z, hz, rfl⟩ := hc
    simp only [opRun, fresh, Option.some.injEq, Prod.mk.injEq] at hr
    obtain ⟨rfl, rfl⟩ := hr
    obtain ⟨n, hn⟩ := size_of_zero hz
    have hl := cellL_rel (plain_refl ρ 8 z (zero_of hz).1)
    refine does_value (v' := .pointer (some ⟨w.heap.size, 0, none⟩)) (w' := w.alloc (.cells ⟨cellL z⟩ e)) ?_ (row_new0 h hn hl) (.ptr _ 0 ⟨w.heap.size, 0, (cellL z).length, n, true⟩ (put_same _ _ _))
    simp only [execOp, Instr.alloc, Sem.run_bind, run_zero hz, Result.andThen_ok, var_run, Sem.run_pure]
  | box e x =>
    simp only [compOp] at hc
    split at hc <;> (try (cases hc; done))
    rename_i n y hn hy
    cases hc
    simp only [opRun, fresh, Option.some.injEq, Prod.mk.injEq] at hr
    obtain ⟨rfl, rfl⟩ := hr
    have hl := cellL_rel (one (by simp [Op.operands]) hy)
    refine does_value (v' := .pointer (some ⟨w.heap.size, 0, none⟩)) (w' := w.alloc (.cells ⟨cellL (a.eval x)⟩ e)) ?_ (row_new0 h hn hl) (.ptr _ 0 ⟨w.heap.size, 0, (cellL (a.eval x)).length, n, true⟩ (put_same _ _ _))
    simp only [execOp, Instr.box, Sem.run_bind, var_run, Result.andThen_ok, Sem.run_pure]
  | buildSlice t len ps =>
    simp only [compOp] at hc
    split at hc <;> (try (cases hc; done))
    rename_i e he
    split at hc <;> (try (cases hc; done))
    rename_i n z hn hz
    split at hc <;> (try (cases hc; done))
    rename_i hb1 hb2
    simp only [Option.map_eq_some_iff] at hc
    obtain ⟨parts, hp, rfl⟩ := hc
    simp only [opRun, oBuildSlice, Option.bind_eq_some_iff] at hr
    obtain ⟨cs, hcs, hr⟩ := hr
    simp only [freshRow, Option.some.injEq, Prod.mk.injEq] at hr
    obtain ⟨rfl, rfl⟩ := hr
    have hzl : (cellL z).length = n + 1 := Nat.eq_of_beq_eq_true hb2
    have hu : P.underlying t = some (.slice e) := by
      unfold sliceP at he
      split at he <;> (try (cases he; done))
      rename_i h0
      cases he
      exact h0
    have hps : ∀ p ∈ ps.toList, ∀ y, compArg p.2 = some y → VR ρ (y.ev T) (a.eval p.2) := fun p hp y hy => one (by simp [Op.operands]; exact ⟨p.1, by simpa using hp⟩) hy
    obtain ⟨cs', h1, h2⟩ := fill_rel ps.toList parts _ _ cs hp hps (flat_plain (ρ := ρ) (zero_of hz).1 len) hcs
    have hlen : cs'.length = len * (n + 1) := by
      have hfl : ∀ (l : List (Nat × Nat × Arg)) (zs cs : List Value), fillL T zs l = some cs → cs.length = zs.length := by
        intro l
        induction l with
        | nil => intro zs cs h; simp only [fillL, Option.some.injEq] at h; rw [h]
        | cons p l ih =>
          intro zs cs h
          obtain ⟨o1, o2, o3⟩ := p
          simp only [fillL] at h
          split at h <;> (try (cases h; done))
          simp only [Option.bind_eq_some_iff] at h
          obtain ⟨m, hm, h⟩ := h
          rw [ih m cs h]
          obtain ⟨q1, rfl⟩ := splice_some hm
          simp
          omega
      rw [← h2.1, hfl _ _ _ hcs, flat_len, hzl]
    have hmap : (ps.map fun x => match x with | (i, x) => (i, a.eval x)).toList = ps.toList.map (fun p => (p.1, a.eval p.2)) := by simp
    refine does_value (v' := .slice (some ⟨w.heap.size, 0, none⟩) len len) (w' := w.alloc (.cells ⟨cs'⟩ e)) ?_ (row_new0 h hn h2) ?_
    · have hzr := zeros_row z n len hzl
      replace hn : sizeP P e = some (n + 1) := hn
      have hmap2 : (ps.map fun x => (x.1, a.eval x.2)).toList = ps.toList.map (fun p => (p.1, a.eval p.2)) := by simp
      simp only [execOp, Instr.buildSlice, Sem.run_bind, run_und hu, Result.andThen_ok, run_size hn, Sem.run_ite]
      rw [if_neg (by have := Nat.le_of_ble_eq_true hb1; omega)]
      by_cases h0 : len * (n + 1) = 0
      · have hl0 : len = 0 := by rcases Nat.mul_eq_zero.1 h0 with q | q <;> omega
        subst hl0
        simp only [List.replicate_zero, List.flatten_nil] at h1
        rw [if_pos h0]
        have hr0 : Array.map (fun x => (#[] : Array Value)[x % (#[] : Array Value).size]!) (Array.range 0) = ⟨[]⟩ := by simp
        simp only [Sem.run_pure, Result.andThen_ok, Nat.zero_mul, hmap2]
        rw [hr0, h1]
        simp [newRow]
      · rw [if_neg h0]
        simp only [run_zero hz, Result.andThen_ok, Sem.run_pure, hzr, hmap2]
        rw [h1]
        simp [newRow]
    · refine .slice H.next 0 0 _ _ _ ⟨w.heap.size, 0, cs'.length, n + 1, true⟩ (put_same _ _ _) (.inl rfl) (Nat.le_refl _) (.inl rfl) (fun _ => ?_)
      simp only [hlen]
      omega
  | store t x u =>
    simp only [compOp] at hc
    split at hc <;> (try (cases hc; done))
    rename_i n y z hn hy hz
    cases hc
    simp only [opRun] at hr
    have r1 := one (by simp [Op.operands]) hy
    have r2 := one (by simp [Op.operands]) hz
    generalize y.ev T = yv at hr r1
    generalize hx : a.eval x = xv at r1
    unfold oStore at hr
    split at hr <;> (try (cases hr; done))
    rename_i b off
    cases r1 with
    | ptr b off l hb =>
    split at hr <;> (try (cases hr; done))
    rename_i e cs hg
    split at hr <;> (try (cases hr; done))
    rename_i hbl hsc
    simp only [Option.map_eq_some_iff, Prod.mk.injEq] at hr
    obtain ⟨cs2, hsp, rfl, rfl⟩ := hr
    have hlv := cellL_rel r2
    obtain ⟨arr, e'', fr, q1, q2, q3, q4, q5, q6, q7⟩ := h.blk b l _ hb hg
    have hle := (splice_some hsp).1
    have hroom : l.s + off + (cellL (z.ev T)).length ≤ l.n := by
      have hlen := Nat.eq_of_beq_eq_true hbl
      obtain ⟨v', r3, _⟩ := q5 (cs.length - 1) _ (List.getElem?_eq_getElem (show cs.length - 1 < cs.length by omega))
      have := (Array.getElem?_eq_some_iff.1 r3).1
      omega
    obtain ⟨w', g1, g2⟩ := store_post (P := P) h hb hg hlv hsc hsp hroom
    refine ⟨undef, w', ρ, .inr ⟨?_, rfl⟩, g2, VR.undef ρ⟩
    replace hn : sizeP P t = some (n + 1) := hn
    have hsz : (a.eval u).cells.size = n + 1 := by
      rw [← Array.length_toList, cells_toList, ← hlv.1]
      exact Nat.eq_of_beq_eq_true hbl
    simp only [execOp, hx, Instr.storeAt, Instr.sureAddr, Sem.run_bind, Sem.run_pure, Result.andThen_ok, storeVar, run_size hn, hsz, ne_eq, not_true_eq_false, if_false, cells_toList, g1]
  | convert s d x =>
    simp only [compOp, compConv] at hc
    split at hc <;> (try (cases hc; cases ha; done)) <;> (try (cases hc; done)) <;> (split at hc <;> (try (cases hc; cases ha; done)) <;> (try (cases hc; done)))
    · rename_i e y hs hd hy _ _ he hsz
      cases hc
      have r1 := one (by simp [Op.operands]) hy
      simp only [opRun] at hr
      generalize y.ev T = yv at hr r1
      generalize hx : a.eval x = xv at r1
      cases r1 <;> simp only [oBytes] at hr <;> (try (cases hr; done))
      obtain ⟨v', w', ρ', g1, g2, g3⟩ := bytes_run he hsz h (by simp only [oBytes]; exact hr)
      refine does_value ?_ g2 g3
      simp only [execOp, hx, convert, Sem.run_bind, run_und hs, run_und hd, Result.andThen_ok, run_und he, g1, Sem.run_pure]
    · rename_i e1 e y hs hd hy _ _ hsd he
      cases hc
      have r1 := one (by simp [Op.operands]) hy
      simp only [opRun] at hr
      obtain ⟨rfl, A, n, c, w', hx, g1, g2⟩ := mark_run r1 h hr
      refine does_value (v' := a.eval x) (w' := w') ?_ g2 r1
      have hsd' : s = d := Nat.eq_of_beq_eq_true hsd
      subst hsd'
      have he1 : e1 = e := by rw [hs] at hd; cases hd; rfl
      subst he1
      simp only [execOp, hx, convert, Sem.run_bind, run_und hs, run_und hd, Result.andThen_ok, run_und he, beq_self_eq_true, g1, Sem.run_pure]
  | makeMap t r =>
    cases r with
    | some r => simp [compOp] at hc
    | none =>
      simp only [compOp, Option.map_eq_some_iff] at hc
      obtain ⟨ke, hke, rfl⟩ := hc
      simp only [opRun, Option.some.injEq, Prod.mk.injEq] at hr
      obtain ⟨rfl, rfl⟩ := hr
      refine does_value (v' := .map (some w.heap.size)) (w' := w.alloc (.map #[] 0)) ?_ (Post.alloc (l := ⟨w.heap.size, 0, 0, 0, true⟩) h ⟨rfl, rfl, rfl⟩ rfl rfl ⟨#[], rfl, rfl, h.below.size, ⟨rfl, fun i e e' q => by simp at q⟩⟩) (.map _ ⟨w.heap.size, 0, 0, 0, true⟩ (put_same _ _ _))
      simp [execOp, Instr.makeMap]
  | makeSlice t l c =>
    simp only [compOp] at hc
    split at hc <;> (try (cases hc; done))
    rename_i e y j he hy hj
    split at hc <;> (try (cases hc; done))
    rename_i n b z hn hb hz
    split at hc <;> (try (cases hc; done))
    rename_i hbl
    cases hc
    have hzl : (cellL z).length = n + 1 := Nat.eq_of_beq_eq_true hbl
    have hu : P.underlying t = some (.slice e) := by
      unfold sliceP at he
      split at he <;> (try (cases he; done))
      rename_i h0
      cases he
      exact h0
    have r1 := one (by simp [Op.operands]) hy
    have r2 := one (by simp [Op.operands]) hj
    simp only [opRun] at hr
    unfold oMakeSlice at hr
    split at hr <;> (try (cases hr; done))
    rename_i ln cp e1 e2
    split at hr <;> (try (cases hr; done))
    rename_i b1 b2 b3
    simp only [freshRow, Option.some.injEq, Prod.mk.injEq] at hr
    obtain ⟨rfl, rfl⟩ := hr
    have l1 := Nat.le_of_ble_eq_true b1
    have l2 : cp * b ≤ 70368744177664 := Nat.le_of_ble_eq_true b2
    have l3 : cp ≤ 70368744177664 := Nat.le_of_ble_eq_true b3
    obtain ⟨k1, hk1⟩ := natOf_some e1
    obtain ⟨k2, hk2⟩ := natOf_some e2
    rw [hk1] at r1
    rw [hk2] at r2
    generalize hxl : a.eval l = xl at r1
    generalize hxc : a.eval c = xc at r2
    cases r1
    cases r2
    obtain ⟨i, hi, hib⟩ := bytes_of hb
    have w1 : IntKind.i64.wrap (Int.ofNat ln) = Int.ofNat ln := wrap_nat .i64 ln (show ln ≤ 9223372036854775807 by omega)
    have w2 : IntKind.i64.wrap (Int.ofNat cp) = Int.ofNat cp := wrap_nat .i64 cp (show cp ≤ 9223372036854775807 by omega)
    refine does_value (v' := .slice (some ⟨w.heap.size, 0, none⟩) ln cp) (w' := w.alloc (.cells ⟨(List.replicate cp (cellL z)).flatten⟩ e)) ?_ (row_new0 h hn (flat_plain (zero_of hz).1 cp)) ?_
    · have hzr := zeros_row z n cp hzl
      have hlarge : ¬ ((decide (Int.ofNat cp < 0) || decide ((i.bytes : Int) * Int.ofNat cp > 2 ^ 48)) || decide (Int.ofNat ln < 0) || decide (Int.ofNat ln > Int.ofNat cp)) = true := by
        have hm : (i.bytes : Int) * Int.ofNat cp ≤ 70368744177664 := by
          rw [hib]
          have h1 : ((cp * b : Nat) : Int) ≤ ((70368744177664 : Nat) : Int) := Int.ofNat_le.2 l2
          rw [Int.natCast_mul, Int.mul_comm] at h1
          exact h1
        simp only [Bool.or_eq_true, decide_eq_true_eq, not_or, Int.ofNat_eq_natCast] at hm ⊢
        omega
      replace hn : sizeP P e = some (n + 1) := hn
      simp only [execOp, hxl, hxc, Instr.makeSlice, Sem.run_bind, run_und hu, Result.andThen_ok, asInt, asIntOf, Sem.run_pure, run_info hi, w1, w2, Sem.run_ite, if_neg hlarge, run_askRoom, run_size hn, run_zero hz]
      simp only [show (Int.ofNat cp).toNat = cp from rfl, show (Int.ofNat ln).toNat = ln from rfl]
      by_cases h0 : cp * (n + 1) = 0
      · have hl0 : cp = 0 := by rcases Nat.mul_eq_zero.1 h0 with q | q <;> omega
        subst hl0
        have hr0 : Array.map (fun x => (#[] : Array Value)[x % (#[] : Array Value).size]!) (Array.range 0) = ⟨[]⟩ := by simp
        rw [if_pos h0]
        simp only [Nat.zero_mul]
        rw [hr0]
        simp [newRow]
      · rw [if_neg h0, hzr]
        simp [newRow]
    · refine .slice H.next 0 0 _ _ _ ⟨w.heap.size, 0, ((List.replicate cp (cellL z)).flatten).length, n + 1, true⟩ (put_same _ _ _) (.inl rfl) l1 (.inl rfl) (fun _ => ?_)
      simp only [flat_len, hzl]
      omega
  | mapUpdate t m i u =>
    simp only [compOp] at hc
    split at hc <;> (try (cases hc; done))
    rename_i k e m' i' u' hm hm' hi' hu'
    simp only [Option.map_eq_some_iff] at hc
    obtain ⟨q, hq, rfl⟩ := hc
    obtain ⟨w', g1, g2, rfl⟩ := mapSet_run hm hq (one (by simp [Op.operands]) hm') (one (by simp [Op.operands]) hi') (one (by simp [Op.operands]) hu') h hr
    exact ⟨undef, w', ρ, .inr ⟨by simp [execOp, g1], rfl⟩, g2, VR.undef ρ⟩
  | insert t m i u =>
    simp only [compOp] at hc
    split at hc <;> (try (cases hc; done))
    rename_i k e m' i' u' hm hm' hi' hu'
    simp only [Option.map_eq_some_iff] at hc
    obtain ⟨q, hq, rfl⟩ := hc
    obtain ⟨w', g1, g2, rfl⟩ := mapSet_run hm hq (one (by simp [Op.operands]) hm') (one (by simp [Op.operands]) hi') (one (by simp [Op.operands]) hu') h hr
    exact ⟨undef, w', ρ, .inr ⟨by simp [execOp, g1], rfl⟩, g2, VR.undef ρ⟩
  | range t x =>
    simp only [compOp] at hc
    split at hc <;> (try (cases hc; done))
    rename_i y hu hy
    cases hc
    have r1 := one (by simp [Op.operands]) hy
    simp only [opRun] at hr
    generalize y.ev T = yv at hr r1
    generalize hx : a.eval x = xv at r1
    cases r1 <;> simp only [oRangeS] at hr <;> (try (cases hr; done))
    rename_i s
    cases hr
    refine does_value (v' := .pointer (some ⟨w.heap.size, 0, none⟩)) (w' := w.alloc (.stringIter s 0)) ?_ (Post.alloc (l := ⟨w.heap.size, 0, 0, 0, true⟩) h ⟨rfl, rfl, rfl⟩ rfl rfl ⟨rfl, rfl, h.below.size⟩) (.ptr _ 0 ⟨w.heap.size, 0, 0, 0, true⟩ (put_same _ _ _))
    simp [execOp, hx, Instr.range, run_und hu]
  | next it s =>
    cases s with
    | false => simp [compOp] at hc
    | true =>
      simp only [compOp, Option.map_eq_some_iff] at hc
      obtain ⟨y, hy, rfl⟩ := hc
      obtain ⟨w', g1, g2, g3⟩ := next_run (one (by simp [Op.operands]) hy) h hr type
      exact does_value (by simp [execOp, g1]) g2 g3
  | call c =>
    simp only [compOp] at hc
    split at hc <;> (try (cases hc; done))
    · split at hc <;> (try (cases hc; done)); cases hc; cases hnc
    · rename_i b hb
      have mem : ∀ x, x ∈ c.args.toList → x ∈ (Op.call c).operands.toList := fun x hx => by
        simp only [Op.operands, Call.operands, hb]
        simp
        simpa using hx
      unfold compBuiltin at hc
      split at hc
      · rename_i t u ts s x e0 e2
        split at hc <;> (try (cases hc; done))
        rename_i e s' x' he hs' hx'
        split at hc <;> (try (cases hc; done))
        rename_i n by' z d hn hby hz hd
        split at hc <;> (try (cases hc; done))
        rename_i hbl
        cases hc
        have hu : P.underlying t = some (.slice e) := by
          unfold sliceP at he
          split at he <;> (try (cases he; done))
          rename_i h0
          cases he
          exact h0
        have t0 : c.argTypes[0]? = some t := by rw [← Array.getElem?_toList, e0]; rfl
        have t1 : c.argTypes[1]? = some u := by rw [← Array.getElem?_toList, e0]; rfl
        have x0 : (c.args.map a.eval)[0]? = some (a.eval s) := by rw [Array.getElem?_map, ← Array.getElem?_toList, e2]; rfl
        have x1 : (c.args.map a.eval)[1]? = some (a.eval x) := by rw [Array.getElem?_map, ← Array.getElem?_toList, e2]; rfl
        obtain ⟨v', w', ρ', g1, g2, g3⟩ := append_sound (ty := type) h t0 x0 x1 ⟨u, d, t1, hd, rfl⟩ hu hn hby hz (Nat.eq_of_beq_eq_true hbl) (by omega) (one (mem s (by rw [e2]; simp)) hs') (one (mem x (by rw [e2]; simp)) hx') hr
        exact does_value (by simp [execOp, resolve, hb, invoke, builtin, g1]) g2 g3
      · split at hc <;> (try (cases hc; done)) <;> cases hc <;> cases ha
      · split at hc <;> (try (cases hc; done)); cases hc; cases ha
      · rename_i t ts m i e0 e2
        split at hc <;> (try (cases hc; done))
        rename_i k e m' i' hm hm' hi'
        simp only [Option.map_eq_some_iff] at hc
        obtain ⟨q, hq, rfl⟩ := hc
        have t0 : c.argTypes[0]? = some t := by rw [← Array.getElem?_toList, e0]; rfl
        have x0 : (c.args.map a.eval)[0]? = some (a.eval m) := by rw [Array.getElem?_map, ← Array.getElem?_toList, e2]; rfl
        have x1 : (c.args.map a.eval)[1]? = some (a.eval i) := by rw [Array.getElem?_map, ← Array.getElem?_toList, e2]; rfl
        obtain ⟨w', g1, g2, rfl⟩ := delete_run (ty := type) hm hq (one (mem m (by rw [e2]; simp)) hm') (one (mem i (by rw [e2]; simp)) hi') h hr t0 x0 x1
        exact does_value (by simp [execOp, resolve, hb, invoke, builtin, g1]) g2 (plain_refl ρ 1 _ rfl)
      · simp only [Option.map_eq_some_iff] at hc; obtain ⟨_, _, rfl⟩ := hc; cases ha
      · simp only [Option.map_eq_some_iff] at hc; obtain ⟨_, _, rfl⟩ := hc; cases ha
      · cases hc
  | binOp op t x y yt =>
    simp only [compOp, compBin] at hc
    split at hc <;> (try (cases hc; done))
    split at hc
    · cases op <;> simp only at hc <;> (try (cases hc; done)) <;> cases hc <;> cases ha
    · split at hc <;> (try (cases hc; done)); cases hc; cases ha
  | _ =>
    simp only [compOp] at hc
    first
      | (cases hc; done)
      | (repeat' (split at hc)) <;> (try (cases hc; done)) <;> (try (cases hc; cases ha; done)) <;> (try (simp only [Option.map_eq_some_iff] at hc; obtain ⟨_, _, rfl⟩ := hc; cases ha; done))
end
end Go.Proofs.Ytffokmamcempgaa.AM

/- A machine of our own: what a step leaves alone of its blocks; one operation of any kind. -/
namespace Go.Proofs.Ytffokmamcempgaa.AM
open Go Go.RowKit
set_option linter.unusedVariables false
set_option linter.unusedSimpArgs false

/-- No block stands where none has been made. -/
def WF (H : Heap) : Prop := ∀ b, H.next ≤ b → H.get b = none
structure Keeps (H H' : Heap) : Prop where
  wf : WF H → WF H'
  next : H.next ≤ H'.next
  wl : ∀ b, b ∈ H.wl → b ∈ H'.wl
  keep : ∀ b, b < H.next → b ∉ H'.wl → H'.get b = H.get b
section
variable {P : Program} {ρ : Ren} {cf : CallF} {T : Tr Value} {H H' H'' : Heap} {a : Act} {w0 w : World}
theorem Keeps.refl (H : Heap) : Keeps H H := ⟨fun h => h, Nat.le_refl _, fun _ h => h, fun _ _ _ => rfl⟩
theorem Keeps.trans (h : Keeps H H') (k : Keeps H' H'') : Keeps H H'' :=
  ⟨fun q => k.wf (h.wf q), Nat.le_trans h.next k.next, fun b q => k.wl b (h.wl b q), fun b hb hn => by rw [k.keep b (Nat.lt_of_lt_of_le hb h.next) hn, h.keep b hb (fun q => hn (k.wl b q))]⟩
theorem Keeps.new (H : Heap) (B : Blk) : Keeps H (H.new B) := by
  refine ⟨fun h b hb => ?_, Nat.le_succ _, fun _ h => h, fun b hb _ => by rw [Heap.get_new, if_neg (by omega)]⟩
  have hb' : H.next + 1 ≤ b := hb
  rw [Heap.get_new, if_neg (by omega)]
  exact h b (by omega)
theorem Keeps.upd {b : Nat} {B : Blk} (B' : Blk) (hg : H.get b = some B) : Keeps H (H.upd b B') := by
  refine ⟨fun h c hc => ?_, Nat.le_refl _, fun _ h => List.mem_cons_of_mem _ h, fun c _ hn => by rw [Heap.get_upd, if_neg (fun e => hn (by subst e; exact List.mem_cons_self ..))]⟩
  have hc' : H.next ≤ c := hc
  rw [Heap.get_upd, if_neg (fun e => by subst e; rw [h c hc'] at hg; cases hg)]
  exact h c hc'
theorem Keeps.kill (b : Nat) : Keeps H (H.kill b) := by
  refine ⟨fun h c hc => ?_, Nat.le_refl _, fun _ h => List.mem_cons_of_mem _ h, fun c _ hn => by rw [Heap.get_kill, if_neg (fun e => hn (by subst e; exact List.mem_cons_self ..))]⟩
  have hc' : H.next ≤ c := hc
  rw [Heap.get_kill]
  split
  · rfl
  · exact h c hc'
def CallKeeps (cf : CallF) : Prop := ∀ f args H v H', cf f args H = some (v, H') → Keeps H H'
theorem give_same {ok b : Bool} {u v : Value} (h : giveV H ok u b = some (v, H')) : Keeps H H' := by obtain ⟨rfl, _⟩ := give_some h; exact Keeps.refl _
theorem up_same {x : Option Value} {v : Value} (h : up H x = some (v, H')) : Keeps H H' := by obtain ⟨rfl, _⟩ := up_some h; exact Keeps.refl _
theorem look_same {ao : AOp} {v : Value} (hl : looks ao = true) (hr : opRun P cf T H ao = some (v, H')) : H' = H := by
  have := look_local (G := H) hl hr (fun _ _ _ => rfl)
  rw [hr] at this
  simp only [Option.some.injEq, Prod.mk.injEq, true_and] at this
  exact this
theorem pure_same {ao : AOp} {v : Value} (hna : acts ao = false) (hnl : looks ao = false) (hr : opRun P cf T H ao = some (v, H')) : H' = H := by
  cases ao <;> (try (cases hna; done)) <;> (try (cases hnl; done)) <;> simp only [opRun] at hr <;> first
    | exact (up_some hr).1
    | (simp only [Option.some.injEq, Prod.mk.injEq] at hr; exact hr.2.symm)
theorem op_keeps (hcf : CallKeeps cf) {ao : AOp} {v : Value} (hr : opRun P cf T H ao = some (v, H')) : Keeps H H' := by
  cases hl : looks ao with
  | true => rw [look_same hl hr]; exact Keeps.refl _
  | false =>
  cases ha : acts ao with
  | false => rw [pure_same ha hl hr]; exact Keeps.refl _
  | true =>
  cases ao <;> (try (cases ha; done)) <;> simp only [opRun] at hr
  case new e zs => cases hr; exact Keeps.new _ _
  case box e x => cases hr; exact Keeps.new _ _
  case buildSlice e len zs parts =>
    simp only [oBuildSlice, Option.bind_eq_some_iff] at hr
    obtain ⟨cs, _, hr⟩ := hr
    cases hr; exact Keeps.new _ _
  case store n x u =>
    unfold oStore at hr
    split at hr <;> (try (cases hr; done))
    split at hr <;> (try (cases hr; done))
    rename_i hg
    split at hr <;> (try (cases hr; done))
    simp only [Option.map_eq_some_iff, Prod.mk.injEq] at hr
    obtain ⟨cs2, _, _, rfl⟩ := hr
    exact Keeps.upd _ hg
  case bytes e x =>
    unfold oBytes at hr
    split at hr <;> (try (cases hr; done))
    split at hr <;> (try (cases hr; done))
    cases hr; exact Keeps.new _ _
  case mark x =>
    unfold oMark at hr
    split at hr <;> (try (cases hr; done))
    split at hr <;> (try (cases hr; done))
    rename_i hg
    cases hr; exact Keeps.upd _ hg
  case makeMap => cases hr; exact Keeps.new _ _
  case makeSlice e s b zs l c =>
    unfold oMakeSlice at hr
    split at hr <;> (try (cases hr; done))
    split at hr <;> (try (cases hr; done))
    cases hr; exact Keeps.new _ _
  case mapSet q k m i u =>
    unfold oMapSet at hr
    split at hr <;> (try (cases hr; done))
    split at hr <;> (try (cases hr; done))
    rename_i hg
    split at hr <;> (try (cases hr; done))
    · split at hr <;> (try (cases hr; done))
      split at hr <;> (try (cases hr; done))
      cases hr; exact Keeps.upd _ hg
    · cases hr; exact Keeps.upd _ hg
  case rangeS x =>
    unfold oRangeS at hr
    split at hr <;> (try (cases hr; done))
    cases hr; exact Keeps.new _ _
  case next x =>
    unfold oNext at hr
    split at hr <;> (try (cases hr; done))
    split at hr <;> (try (cases hr; done))
    rename_i hg
    split at hr
    · cases hr; exact Keeps.upd _ hg
    · cases hr; exact Keeps.refl _
  case append e size b zs zeros s x =>
    simp only [oAppend, Option.bind_eq_some_iff] at hr
    obtain ⟨⟨n, new⟩, _, hr⟩ := hr
    simp only at hr
    split at hr <;> (try (cases hr; done))
    unfold appendTo at hr
    split at hr <;> (try (cases hr; done))
    · split at hr
      · cases hr; exact Keeps.refl _
      · split at hr <;> (try (cases hr; done))
        cases hr; exact Keeps.new _ _
    · split at hr <;> (try (cases hr; done))
      rename_i hg
      split at hr <;> (try (cases hr; done))
      split at hr
      · unfold appU at hr
        split at hr
        · cases hr; exact Keeps.refl _
        · split at hr <;> (try (cases hr; done))
          cases hr; exact (Keeps.kill _).trans (Keeps.new _ _)
      · unfold appX at hr
        split at hr
        · split at hr
          · cases hr; exact Keeps.refl _
          · split at hr <;> (try (cases hr; done))
            cases hr; exact Keeps.upd _ hg
        · split at hr <;> (try (cases hr; done))
          cases hr; exact Keeps.new _ _
  case copy => cases hr
  case delete q k m i =>
    unfold oDelete at hr
    split at hr <;> (try (cases hr; done))
    · split at hr <;> (try (cases hr; done))
      cases hr; exact Keeps.refl _
    · split at hr <;> (try (cases hr; done))
      rename_i hg
      split at hr <;> (try (cases hr; done))
      · cases hr; exact Keeps.upd _ hg
      · cases hr; exact Keeps.refl _
  case call f args =>
    unfold oCall at hr
    split at hr <;> (try (cases hr; done))
    exact hcf _ _ _ _ _ hr

/-! one operation of any kind -/
/-- A way to call that answers as the given program. -/
def CallOk (P : Program) (cf : CallF) : Prop := ∀ f args H v H', cf f args H = some (v, H') →
  (∃ fn, P.funcs[f]? = some fn ∧ (fn.name == "runtime.NumGoroutine") = false ∧ fn.body.isNone = false) ∧
  ∀ ρ w0 w args', HR P ρ H w0 w → LR ρ args args' → Calls P f ⟨args'⟩ w fun e w' => ∃ v' ρ', e = .returned v' ∧ Post P ρ ρ' H H' w0 w w' ∧ VR ρ' v v'
theorem call_sound (hcf : CallOk P cf) {o : Oper} {f : Arg} {args : List Arg} {v : Value} {K : Act → World → Prop} {Q : Exit → Act → World → Prop} (hc : compOp P o.op = some (.call f args)) (hv : ∀ x ∈ o.op.operands.toList, ∀ y, compArg x = some y → VR ρ (y.ev T) (a.eval x)) (h : HR P ρ H w0 w)
    (hr : opRun P cf T H (.call f args) = some (v, H')) (hK : ∀ v' w' ρ', Post P ρ ρ' H H' w0 w w' → VR ρ' v v' → K (a.put o.dst v') w') : o.wp P a w K Q := by
  obtain ⟨dst, op, type, pos, after, guard⟩ := o
  simp only at hc hv hK
  have hop : ∃ c fo, op = .call c ∧ c.callee = .value fo ∧ compArg fo = some f ∧ compArgs c.args.toList = some args := by
    cases op with
    | call c =>
      simp only [compOp] at hc
      split at hc
      · rename_i fo hfo
        split at hc <;> (try (cases hc; done))
        rename_i h1 h2
        cases hc
        exact ⟨c, fo, rfl, hfo, h1, h2⟩
      · exfalso
        unfold compBuiltin at hc
        split at hc
        · split at hc <;> (try (cases hc; done))
          split at hc <;> (try (cases hc; done))
          split at hc <;> cases hc
        · split at hc <;> cases hc
        · split at hc <;> cases hc
        · split at hc <;> (try (cases hc; done))
          simp only [Option.map_eq_some_iff] at hc; obtain ⟨_, _, hc⟩ := hc; cases hc
        · simp only [Option.map_eq_some_iff] at hc; obtain ⟨_, _, hc⟩ := hc; cases hc
        · simp only [Option.map_eq_some_iff] at hc; obtain ⟨_, _, hc⟩ := hc; cases hc
        · cases hc
      · cases hc
    | binOp op t x y yt =>
      exfalso
      simp only [compOp, compBin] at hc
      split at hc <;> (try (cases hc; done))
      split at hc
      · cases op <;> simp only at hc <;> cases hc
      · split at hc <;> cases hc
    | convert s d x =>
      exfalso
      simp only [compOp, compConv] at hc
      repeat' (split at hc)
      all_goals cases hc
    | makeMap t r => exfalso; cases r <;> simp [compOp] at hc
    | next it s => exfalso; cases s <;> simp [compOp] at hc
    | _ =>
      exfalso
      simp only [compOp] at hc
      first
        | (cases hc; done)
        | (repeat' (split at hc)) <;> (try (cases hc; done)) <;> (try (simp only [Option.map_eq_some_iff] at hc; obtain ⟨_, _, hc⟩ := hc; cases hc; done))
  obtain ⟨c, fo, rfl, hfo, hf, hargs⟩ := hop
  have rf := hv fo (by simp [Op.operands, Call.operands, hfo]) f hf
  have ra := args_rel (T := T) (a := a) c.args.toList args hargs fun x hx => hv x (by simp [Op.operands, Call.operands, hfo]; exact .inr (by simpa using hx))
  simp only [opRun] at hr
  unfold oCall at hr
  split at hr <;> (try (cases hr; done))
  rename_i g first cap hfe
  rw [hfe] at rf
  generalize hfv : a.eval fo = fv at rf
  cases rf with
  | func fn xs ys us vs l1 l2 l3 l4 =>
  obtain ⟨⟨fn, hfn, hname, hbody⟩, hcalls⟩ := hcf _ _ _ _ _ hr
  have hc2 := hcalls ρ w0 w (ys ++ c.args.toList.map a.eval ++ vs) h (((show LR ρ xs ys from ⟨l1, l2⟩).append ra).append (show LR ρ us vs from ⟨l3, l4⟩))
  have hrun : (execOp a.eval { dst := dst, op := .call c, type := type, pos := pos, after := after, guard := guard }).run P w = .ok (.enter g ⟨ys ++ c.args.toList.map a.eval ++ vs⟩) w := by
    have harr : (⟨ys⟩ : Array Value) ++ c.args.map a.eval ++ ⟨vs⟩ = ⟨ys ++ c.args.toList.map a.eval ++ vs⟩ := by apply Array.ext'; simp
    simp only [execOp, resolve, hfo, hfv, Deferred.ofValue, Sem.run_bind, Sem.run_pure, Result.andThen_ok, invoke, callFunc, run_program, hfn, hname, Bool.false_eq_true, if_false, hbody]
    rw [harr]
  unfold Oper.wp
  rw [hrun]
  refine hc2.mono ?_
  rintro e w' ⟨v', ρ', rfl, hp, hvr⟩
  exact hK v' w' ρ' hp hvr
theorem op_sound (hcf : CallOk P cf) {o : Oper} {ao : AOp} {v : Value} {K : Act → World → Prop} {Q : Exit → Act → World → Prop} (hc : compOp P o.op = some ao) (hv : ∀ x ∈ o.op.operands.toList, ∀ y, compArg x = some y → VR ρ (y.ev T) (a.eval x)) (h : HR P ρ H w0 w)
    (hr : opRun P cf T H ao = some (v, H')) (hK : ∀ v' w' ρ', Post P ρ ρ' H H' w0 w w' → VR ρ' v v' → K (a.put o.dst v') w') : o.wp P a w K Q := by
  cases hl : looks ao with
  | true =>
    obtain ⟨rfl, v', h1, h2⟩ := look_sound hc hv hl h hr
    unfold Oper.wp
    rw [h1]
    exact hK v' w ρ (Post.refl h) h2
  | false =>
  cases ha : acts ao with
  | false =>
    obtain ⟨rfl, v', h1, h2⟩ := pure_sound hc hv ha hl hr
    unfold Oper.wp
    rw [h1 w]
    exact hK v' w ρ (Post.refl h) h2
  | true =>
  cases hcl : isCall ao with
  | true =>
    cases ao <;> (try (cases hcl; done))
    exact call_sound hcf hc hv h hr hK
  | false =>
    obtain ⟨v', w', ρ', h1, h2, h3⟩ := act_sound hc hv ha hcl h hr
    unfold Oper.wp
    rcases h1 with h1 | ⟨h1, rfl⟩
    · rw [h1]; exact hK v' w' ρ' h2 h3
    · rw [h1]; exact hK undef w' ρ' h2 h3
end
end Go.Proofs.Ytffokmamcempgaa.AM

/- A machine of our own: operations one behind the other. -/
namespace Go.Proofs.Ytffokmamcempgaa.AM
open Go Go.RowKit
set_option linter.unusedVariables false
set_option linter.unusedSimpArgs false

/-- The temporaries of a frame of n. -/
structure TR (n : Nat) (ρ : Ren) (T : Tr Value) (a : Act) : Prop where
  size : a.tmps.size = n
  rel : ∀ d, d < n → VR ρ ((T.get d).getD undef) (a.tmps.getD d undef)
  out : ∀ d, n ≤ d → T.get d = none
section
variable {P : Program} {ρ ρ' : Ren} {cf : CallF} {T : Tr Value} {H H' : Heap} {a : Act} {w0 w : World} {n : Nat}
theorem TR.mono (hs : Sub ρ ρ') (h : TR n ρ T a) : TR n ρ' T a := ⟨h.size, fun d hd => (h.rel d hd).mono hs, h.out⟩
theorem TR.all (h : TR n ρ T a) (d : Nat) : VR ρ ((T.get d).getD undef) (a.tmps.getD d undef) := by
  by_cases hd : d < n
  · exact h.rel d hd
  · rw [h.out d (by omega), Array.getD_eq_getD_getElem?, Array.getElem?_eq_none (by rw [h.size]; omega)]
    exact VR.undef ρ
theorem put_getD (a : Act) (dst : Option Nat) (v : Value) (d : Nat) (hd : d < a.tmps.size) : (a.put dst v).tmps.getD d undef = if dst = some d then v else a.tmps.getD d undef := by
  cases dst with
  | none => simp [Act.put]
  | some e =>
    simp only [Act.put, Option.some.injEq]
    rw [Array.getD_eq_getD_getElem?, Array.getD_eq_getD_getElem?]
    by_cases he : e = d
    · subst he; rw [Array.getElem?_setIfInBounds_self_of_lt hd, if_pos rfl]; rfl
    · rw [Array.getElem?_setIfInBounds_ne he, if_neg he]
theorem put_size (a : Act) (dst : Option Nat) (v : Value) : (a.put dst v).tmps.size = a.tmps.size := by cases dst <;> simp [Act.put]
theorem put_defers (a : Act) (dst : Option Nat) (v : Value) : (a.put dst v).defers = a.defers := by cases dst <;> rfl
theorem putT_get (T : Tr Value) (dst : Option Nat) (v : Value) (d : Nat) : (putT T dst v).get d = if dst = some d then some v else T.get d := by
  cases dst with
  | none => simp [putT]
  | some e =>
    simp only [putT, Tr.get_set, Option.some.injEq]
    by_cases he : d = e
    · subst he; simp
    · rw [if_neg he, if_neg (fun q => he q.symm)]
theorem dst_lt {dst : Option Nat} (h : dstOk n dst = true) : ∀ d, dst = some d → d < n := by
  rintro d rfl
  simp only [dstOk, Nat.blt] at h
  exact Nat.le_of_ble_eq_true h
theorem TR.put (h : TR n ρ T a) {dst : Option Nat} (hd : dstOk n dst = true) {v v' : Value} (hv : VR ρ v v') : TR n ρ (putT T dst v) (a.put dst v') := by
  refine ⟨by rw [put_size, h.size], fun d hdn => ?_, fun d hdn => ?_⟩
  · rw [putT_get, put_getD a dst v' d (by rw [h.size]; exact hdn)]
    by_cases e : dst = some d
    · rw [if_pos e, if_pos e]; exact hv
    · rw [if_neg e, if_neg e]; exact h.rel d hdn
  · rw [putT_get, if_neg (fun e => by have := dst_lt hd d e; omega)]
    exact h.out d hdn
theorem TR.args (h : TR n ρ T a) (x : Operand) (y : Arg) (hc : compArg x = some y) : VR ρ (y.ev T) (a.eval x) := arg_rel hc fun t _ => h.all t
/-- What a compiled operation is. -/
structure CO (P : Program) (n : Nat) (all : List Oper) (o : Oper) (x : AOper) : Prop where
  op : compOp P o.op = some x.op
  dst : x.dst = o.dst
  lt : dstOk n o.dst = true
  guard : guardOk n all o.guard = some x.guard
theorem comp_at {all : List Oper} : ∀ {l : List Oper} {al : List AOper}, compOps P n all l = some al → l.length = al.length ∧ ∀ (i : Nat) (o : Oper), l[i]? = some o → ∃ x, al[i]? = some x ∧ CO P n all o x
  | [], al, h => by simp only [compOps, Option.some.injEq] at h; subst h; exact ⟨rfl, fun i o h => by simp at h⟩
  | o :: l, al, h => by
    simp only [compOps] at h
    split at h <;> (try (cases h; done))
    rename_i x g r h1 h2 h3 h4
    cases h
    obtain ⟨e1, e2⟩ := comp_at h4
    refine ⟨by simp [e1], fun i p hp => ?_⟩
    cases i with
    | zero => simp at hp; subst hp; exact ⟨_, rfl, ⟨h1, rfl, h3, h2⟩⟩
    | succ i => exact e2 i p (by simpa using hp)
/-- A guard asks the same. (t: what the guard's temporary is.) -/
theorem wanted_rel {ops : Array Oper} {o : Oper} {g : Option (Nat × Bool)} (hg : guardOk n ops.toList o.guard = some g) (hsz : a.tmps.size = n) (hdst : ∀ (j : Nat) (p : Oper), ops.toList[j]? = some p → dstOk n p.dst = true)
    (hr : ∀ d b, g = some (d, b) → VR ρ ((T.get d).getD undef) (a.tmps.getD d undef)) : Region.wanted o (yielded ops a.tmps) = wantedA T g := by
  unfold guardOk at hg
  split at hg
  · cases hg
    rename_i he
    simp [Region.wanted, he, wantedA]
  · rename_i j b he
    split at hg <;> (try (cases hg; done))
    rename_i p hp
    simp only [Option.map_eq_some_iff] at hg
    obtain ⟨d, hd, rfl⟩ := hg
    have hlt : d < a.tmps.size := by rw [hsz]; exact dst_lt (hdst j p hp) d hd
    have hrel := hr d b rfl
    have hy : yielded ops a.tmps j = match a.tmps.getD d undef with | .bool b => some b | _ => none := by
      unfold yielded
      have hpo : ops[j]? = some p := by rw [← Array.getElem?_toList]; exact hp
      rw [hpo]
      simp only [Option.bind_some, hd]
      rw [Array.getD_eq_getD_getElem?, Array.getElem?_eq_getElem hlt, Option.getD_some]
      cases a.tmps[d] <;> rfl
    simp only [Region.wanted, he, wantedA, hy]
    generalize a.tmps.getD d undef = u at hrel
    cases ht : T.get d with
    | none =>
      rw [ht] at hrel
      cases hrel
      simp
    | some v =>
      rw [ht] at hrel
      simp only [Option.getD_some] at hrel
      cases hrel <;> simp
theorem seq_sound (hcf : CallOk P cf) {ops : Array Oper} {Q : Exit → Act → World → Prop} (hall : ∃ al, compOps P n ops.toList ops.toList = some al) : ∀ (l : List Oper) (al : List AOper) (k : Nat) (T : Tr Value) (H : Heap) (ρ : Ren) (a : Act) (w : World) (T' : Tr Value) (H' : Heap),
    compOps P n ops.toList l = some al → (∀ i, l[i]? = ops[k + i]?) → opsRun P cf al T H = some (T', H') → HR P ρ H w0 w → TR n ρ T a →
    (∀ a' w' ρ', Post P ρ ρ' H H' w0 w w' → TR n ρ' T' a' → a'.defers = a.defers → Q .normal a' w') → wpOps P ops Q (List.range' k l.length) a w
  | [], al, k, T, H, ρ, a, w, T', H', hc, _, hr, h, ht, hQ => by
    simp only [compOps, Option.some.injEq] at hc
    subst hc
    simp only [opsRun, Option.some.injEq, Prod.mk.injEq] at hr
    obtain ⟨rfl, rfl⟩ := hr
    exact hQ a w ρ (Post.refl h) ht rfl
  | o :: l, al, k, T, H, ρ, a, w, T', H', hc, hl, hr, h, ht, hQ => by
    obtain ⟨all, hall'⟩ := hall
    have hdst : ∀ (j : Nat) (p : Oper), ops.toList[j]? = some p → dstOk n p.dst = true := fun j p hp => by
      obtain ⟨x, _, hx⟩ := (comp_at hall').2 j p hp
      exact hx.lt
    simp only [compOps] at hc
    split at hc <;> (try (cases hc; done))
    rename_i x g r h1 h2 h3 h4
    cases hc
    have ho : ops[k]? = some o := by have := hl 0; simpa using this.symm
    have hl' : ∀ i, l[i]? = ops[k + 1 + i]? := fun i => by have := hl (i + 1); simpa [Nat.add_assoc, Nat.add_comm 1 i] using this
    have hw := wanted_rel (ρ := ρ) (T := T) (a := a) h2 ht.size hdst (fun d b _ => ht.all d)
    simp only [List.length_cons, List.range'_succ, wpOps, ho, hw]
    simp only [opsRun] at hr
    split at hr
    · rename_i hwt
      rw [hwt]
      simp only [if_true]
      split at hr <;> (try (cases hr; done))
      rename_i v H1 hop
      refine .inl (op_sound hcf h1 (fun x _ y hy => ht.args x y hy) h hop fun v' w' ρ' hp hv => ?_)
      refine seq_sound hcf ⟨all, hall'⟩ l r (k + 1) _ H1 ρ' _ w' T' H' h4 hl' hr hp.hr ((ht.mono (hp.sub h)).put h3 hv) fun a' w'' ρ'' hp' ht' hd' => ?_
      exact hQ a' w'' ρ'' (hp.trans h hp') ht' (by rw [hd', put_defers])
    · rename_i hwt
      rw [hwt]
      simp only [Bool.false_eq_true, if_false]
      refine seq_sound hcf ⟨all, hall'⟩ l r (k + 1) _ H ρ _ w T' H' h4 hl' hr h (ht.put h3 (VR.undef ρ)) fun a' w'' ρ'' hp' ht' hd' => ?_
      exact hQ a' w'' ρ'' hp' ht' (by rw [hd', put_defers])
theorem region_sound (hcf : CallOk P cf) {id : Nat} {ops : Array Oper} {Q : Exit → Act → World → Prop} {al : List AOper} {T' : Tr Value} (hc : compOps P n ops.toList ops.toList = some al) (hr : opsRun P cf al T H = some (T', H')) (h : HR P ρ H w0 w) (ht : TR n ρ T a)
    (hQ : ∀ a' w' ρ', Post P ρ ρ' H H' w0 w w' → TR n ρ' T' a' → a'.defers = a.defers → Q .normal a' w') : (Code.region id ops false).wp P Q a w := by
  refine wp_region ?_
  have := seq_sound (Q := Q) hcf ⟨al, hc⟩ ops.toList al 0 T H ρ a w T' H' hc (fun i => by simp) hr h ht hQ
  rw [List.range_eq_range']
  simpa using this
end
end Go.Proofs.Ytffokmamcempgaa.AM

/- A machine of our own: a region that draws its order does as its text. (What the run of the text tells.) -/
namespace Go.Proofs.Ytffokmamcempgaa.AM
open Go Go.RowKit
set_option linter.unusedVariables false
set_option linter.unusedSimpArgs false

theorem has_iff (b : Nat) : ∀ l : List Nat, has b l = true ↔ b ∈ l
  | [] => by simp [has]
  | c :: l => by
    simp only [has]
    split
    · rename_i h; have := Nat.eq_of_beq_eq_true h; subst this; simp
    · rename_i h
      have hne : ¬ b = c := fun e => by rw [e, Nat.beq_refl] at h; cases h
      rw [has_iff b l]
      simp [hne]
theorem apart_iff (a : List Nat) : ∀ l : List Nat, apart a l = true ↔ ∀ c ∈ l, c ∉ a
  | [] => by simp [apart]
  | c :: l => by
    simp only [apart]
    split
    · rename_i h; simp [(has_iff c a).1 h]
    · rename_i h
      have hne : c ∉ a := fun q => by rw [(has_iff c a).2 q] at h; cases h
      rw [apart_iff a l]
      simp [hne]
def consF {α : Type} (x : α) (f : Nat → α) : Nat → α
  | 0 => x
  | i + 1 => f i
section
variable {P : Program} {cf : CallF}
/-- The states of the run of a text: S; what each operation yields: V; the blocks behind each: G. -/
structure Trace (P : Program) (cf : CallF) (al : List AOper) (S : Nat → Tr Value × Heap) (V : Nat → Value) (G : Nat → Heap) : Prop where
  step : ∀ (i : Nat) (o : AOper), al[i]? = some o →
    (wantedA (S i).1 o.guard = true ∧ opRun P cf (S i).1 ⟨(S i).2.t, (S i).2.next, []⟩ o.op = some (V i, G i) ∧ S (i + 1) = (putT (S i).1 o.dst (V i), ⟨(G i).t, (G i).next, (G i).wl ++ (S i).2.wl⟩)) ∨
    (wantedA (S i).1 o.guard = false ∧ V i = undef ∧ S (i + 1) = (putT (S i).1 o.dst undef, (S i).2))
  apart : ∀ (i j : Nat) (o p : AOper) (b : Nat), al[i]? = some o → al[j]? = some p → o.fp = true → p.fp = true → acts o.op = false → acts p.op = true → wantedA (S i).1 o.guard = true → wantedA (S j).1 p.guard = true →
    lookBlk (S i).1 o.op = some b → b ∉ (G j).wl
theorem trace_of : ∀ (al : List AOper) (R W : List Nat) (T : Tr Value) (H : Heap) (T' : Tr Value) (H' : Heap), drawRun P cf al R W T H = some (T', H') →
    ∃ (S : Nat → Tr Value × Heap) (V : Nat → Value) (G : Nat → Heap), S 0 = (T, H) ∧ S al.length = (T', H') ∧ Trace P cf al S V G ∧
      (∀ (j : Nat) (p : AOper) (b : Nat), al[j]? = some p → p.fp = true → acts p.op = true → wantedA (S j).1 p.guard = true → b ∈ R → b ∉ (G j).wl) ∧
      (∀ (i : Nat) (o : AOper) (b : Nat), al[i]? = some o → o.fp = true → acts o.op = false → wantedA (S i).1 o.guard = true → lookBlk (S i).1 o.op = some b → b ∉ W)
  | [], R, W, T, H, T', H', h => by
    simp only [drawRun, Option.some.injEq, Prod.mk.injEq] at h
    obtain ⟨rfl, rfl⟩ := h
    exact ⟨fun _ => (T, H), fun _ => undef, fun _ => H, rfl, rfl, ⟨fun i o h => by simp at h, fun i j o p b h => by simp at h⟩, fun j p b h => by simp at h, fun i o b h => by simp at h⟩
  | o :: l, R, W, T, H, T', H', h => by
    simp only [drawRun] at h
    split at h
    · rename_i hw
      split at h <;> (try (cases h; done))
      rename_i v G0 hop
      split at h
      · -- in order with all
        rename_i hfp
        obtain ⟨S, V, G, h0, h1, ht, hR, hW⟩ := trace_of l R W _ _ _ _ h
        refine ⟨consF (T, H) S, consF v V, consF G0 G, rfl, h1, ⟨fun i p hp => ?_, fun i j p q b hp hq f1 f2 a1 a2 w1 w2 hb => ?_⟩, fun j p b hp f1 a1 w1 hb => ?_, fun i p b hp f1 a1 w1 hb => ?_⟩
        · cases i with
          | zero => simp at hp; subst hp; exact .inl ⟨hw, hop, by simp only [consF, h0]⟩
          | succ i => exact ht.step i p (by simpa using hp)
        · cases i with
          | zero => simp at hp; subst hp; rw [hfp] at f1; cases f1
          | succ i =>
            cases j with
            | zero => simp at hq; subst hq; rw [hfp] at f2; cases f2
            | succ j => exact ht.apart i j p q b (by simpa using hp) (by simpa using hq) f1 f2 a1 a2 w1 w2 hb
        · cases j with
          | zero => simp at hp; subst hp; rw [hfp] at f1; cases f1
          | succ j => exact hR j p b (by simpa using hp) f1 a1 w1 hb
        · cases i with
          | zero => simp at hp; subst hp; rw [hfp] at f1; cases f1
          | succ i => exact hW i p b (by simpa using hp) f1 a1 w1 hb
      · rename_i hfp
        split at h <;> (try (cases h; done))
        rename_i R2 W2 hm
        obtain ⟨S, V, G, h0, h1, ht, hR, hW⟩ := trace_of l R2 W2 _ _ _ _ h
        unfold mayMove at hm
        split at hm
        · -- it acts
          rename_i ha
          split at hm <;> (try (cases hm; done))
          rename_i hap
          rw [apart_iff] at hap
          cases hm
          refine ⟨consF (T, H) S, consF v V, consF G0 G, rfl, h1, ⟨fun i p hp => ?_, fun i j p q b hp hq f1 f2 a1 a2 w1 w2 hb => ?_⟩, fun j p b hp f1 a1 w1 hb => ?_, fun i p b hp f1 a1 w1 hb => ?_⟩
          · cases i with
            | zero => simp at hp; subst hp; exact .inl ⟨hw, hop, by simp only [consF, h0]⟩
            | succ i => exact ht.step i p (by simpa using hp)
          · cases i with
            | zero => simp at hp; subst hp; rw [ha] at a1; cases a1
            | succ i =>
              cases j with
              | zero => exact fun hin => hW i p b (by simpa using hp) f1 a1 w1 hb (List.mem_append.2 (.inl hin))
              | succ j => exact ht.apart i j p q b (by simpa using hp) (by simpa using hq) f1 f2 a1 a2 w1 w2 hb
          · cases j with
            | zero => exact fun hin => hap b hin hb
            | succ j => exact hR j p b (by simpa using hp) f1 a1 w1 hb
          · cases i with
            | zero => simp at hp; subst hp; rw [ha] at a1; cases a1
            | succ i => exact fun hin => hW i p b (by simpa using hp) f1 a1 w1 hb (List.mem_append.2 (.inr hin))
        · rename_i ha
          split at hm
          · -- it looks at no block
            rename_i hb0
            cases hm
            refine ⟨consF (T, H) S, consF v V, consF G0 G, rfl, h1, ⟨fun i p hp => ?_, fun i j p q b hp hq f1 f2 a1 a2 w1 w2 hb => ?_⟩, fun j p b hp f1 a1 w1 hb => ?_, fun i p b hp f1 a1 w1 hb => ?_⟩
            · cases i with
              | zero => simp at hp; subst hp; exact .inl ⟨hw, hop, by simp only [consF, h0]⟩
              | succ i => exact ht.step i p (by simpa using hp)
            · cases i with
              | zero => simp at hp; subst hp; simp only [consF] at hb; rw [hb0] at hb; cases hb
              | succ i =>
                cases j with
                | zero => simp at hq; subst hq; rw [ha] at a2; cases a2
                | succ j => exact ht.apart i j p q b (by simpa using hp) (by simpa using hq) f1 f2 a1 a2 w1 w2 hb
            · cases j with
              | zero => simp at hp; subst hp; rw [ha] at a1; cases a1
              | succ j => exact hR j p b (by simpa using hp) f1 a1 w1 hb
            · cases i with
              | zero => simp at hp; subst hp; simp only [consF] at hb; rw [hb0] at hb; cases hb
              | succ i => exact hW i p b (by simpa using hp) f1 a1 w1 hb
          · rename_i b0 hb0
            split at hm <;> (try (cases hm; done))
            rename_i hnw
            cases hm
            have hnw' : b0 ∉ W := fun q => by rw [(has_iff b0 W).2 q] at hnw; cases hnw
            refine ⟨consF (T, H) S, consF v V, consF G0 G, rfl, h1, ⟨fun i p hp => ?_, fun i j p q b hp hq f1 f2 a1 a2 w1 w2 hb => ?_⟩, fun j p b hp f1 a1 w1 hb => ?_, fun i p b hp f1 a1 w1 hb => ?_⟩
            · cases i with
              | zero => simp at hp; subst hp; exact .inl ⟨hw, hop, by simp only [consF, h0]⟩
              | succ i => exact ht.step i p (by simpa using hp)
            · cases i with
              | zero =>
                simp at hp; subst hp; simp only [consF] at hb; rw [hb0] at hb; cases hb
                cases j with
                | zero => simp at hq; subst hq; rw [ha] at a2; cases a2
                | succ j => exact hR j q b0 (by simpa using hq) f2 a2 w2 (List.mem_cons_self ..)
              | succ i =>
                cases j with
                | zero => simp at hq; subst hq; rw [ha] at a2; cases a2
                | succ j => exact ht.apart i j p q b (by simpa using hp) (by simpa using hq) f1 f2 a1 a2 w1 w2 hb
            · cases j with
              | zero => simp at hp; subst hp; rw [ha] at a1; cases a1
              | succ j => exact hR j p b (by simpa using hp) f1 a1 w1 (List.mem_cons_of_mem _ hb)
            · cases i with
              | zero => simp at hp; subst hp; simp only [consF] at hb; rw [hb0] at hb; cases hb; exact hnw'
              | succ i => exact hW i p b (by simpa using hp) f1 a1 w1 hb
    · rename_i hw
      obtain ⟨S, V, G, h0, h1, ht, hR, hW⟩ := trace_of l R W _ _ _ _ h
      refine ⟨consF (T, H) S, consF undef V, consF H G, rfl, h1, ⟨fun i p hp => ?_, fun i j p q b hp hq f1 f2 a1 a2 w1 w2 hb => ?_⟩, fun j p b hp f1 a1 w1 hb => ?_, fun i p b hp f1 a1 w1 hb => ?_⟩
      · cases i with
        | zero => simp at hp; subst hp; exact .inr ⟨hw, rfl, by simp only [consF, h0]⟩
        | succ i => exact ht.step i p (by simpa using hp)
      · cases i with
        | zero => simp at hp; subst hp; simp only [consF] at w1; rw [hw] at w1; cases w1
        | succ i =>
          cases j with
          | zero => simp at hq; subst hq; simp only [consF] at w2; rw [hw] at w2; cases w2
          | succ j => exact ht.apart i j p q b (by simpa using hp) (by simpa using hq) f1 f2 a1 a2 w1 w2 hb
      · cases j with
        | zero => simp at hp; subst hp; simp only [consF] at w1; rw [hw] at w1; cases w1
        | succ j => exact hR j p b (by simpa using hp) f1 a1 w1 hb
      · cases i with
        | zero => simp at hp; subst hp; simp only [consF] at w1; rw [hw] at w1; cases w1
        | succ i => exact hW i p b (by simpa using hp) f1 a1 w1 hb
variable {al : List AOper} {S : Nat → Tr Value × Heap} {V : Nat → Value} {G : Nat → Heap}
/-- A temporary that nobody writes stands. -/
theorem Trace.tmp (ht : Trace P cf al S V G) {d i : Nat} : ∀ k, i + k ≤ al.length → (∀ (j : Nat) (x : AOper), i ≤ j → j < i + k → al[j]? = some x → x.dst ≠ some d) → (S (i + k)).1.get d = (S i).1.get d
  | 0, _, _ => rfl
  | k + 1, hl, hn => by
    have ih := Trace.tmp ht k (by omega) (fun j x h1 h2 hx => hn j x h1 (by omega) hx)
    have hx := List.getElem?_eq_getElem (show i + k < al.length by omega)
    have hne := hn (i + k) _ (by omega) (by omega) hx
    rcases ht.step (i + k) _ hx with ⟨_, _, h3⟩ | ⟨_, _, h3⟩
    · rw [show i + (k + 1) = i + k + 1 by omega, h3]
      simp only
      rw [putT_get, if_neg hne, ih]
    · rw [show i + (k + 1) = i + k + 1 by omega, h3]
      simp only
      rw [putT_get, if_neg hne, ih]
theorem Trace.tmp_eq (ht : Trace P cf al S V G) {d i j : Nat} (hi : i ≤ al.length) (hj : j ≤ al.length) (hn : ∀ (k : Nat) (x : AOper), al[k]? = some x → x.dst = some d → (k < i ↔ k < j)) : (S i).1.get d = (S j).1.get d := by
  rcases Nat.le_total i j with h | h
  · obtain ⟨k, rfl⟩ := Nat.exists_eq_add_of_le h
    exact (ht.tmp k hj fun l x h1 h2 hx e => by have := hn l x hx e; omega).symm
  · obtain ⟨k, rfl⟩ := Nat.exists_eq_add_of_le h
    exact ht.tmp k hi fun l x h1 h2 hx e => by have := hn l x hx e; omega
/-- Where nobody acts the blocks stand. -/
theorem Trace.heap (ht : Trace P cf al S V G) {i : Nat} : ∀ k, i + k ≤ al.length → (∀ (j : Nat) (x : AOper), i ≤ j → j < i + k → al[j]? = some x → acts x.op = false) → (S (i + k)).2 = (S i).2
  | 0, _, _ => rfl
  | k + 1, hl, hn => by
    have ih := Trace.heap ht k (by omega) (fun j x h1 h2 hx => hn j x h1 (by omega) hx)
    have hx := List.getElem?_eq_getElem (show i + k < al.length by omega)
    have hna := hn (i + k) _ (by omega) (by omega) hx
    rcases ht.step (i + k) _ hx with ⟨_, h2, h3⟩ | ⟨_, _, h3⟩
    · rw [show i + (k + 1) = i + k + 1 by omega, h3, ← ih]
      simp only
      have hg : G (i + k) = ⟨(S (i + k)).2.t, (S (i + k)).2.next, []⟩ := by
        cases hl : looks (al[i + k]'(by omega)).op with
        | true => exact look_same hl h2
        | false => exact pure_same hna hl h2
      rw [hg]
      rfl
    · rw [show i + (k + 1) = i + k + 1 by omega, h3, ← ih]
theorem Trace.heap_eq (ht : Trace P cf al S V G) {i j : Nat} (hi : i ≤ al.length) (hj : j ≤ al.length) (hn : ∀ (k : Nat) (x : AOper), al[k]? = some x → acts x.op = true → (k < i ↔ k < j)) : (S i).2 = (S j).2 := by
  have na : ∀ (k : Nat) (x : AOper), al[k]? = some x → ¬ (k < i ↔ k < j) → acts x.op = false := fun k x hx h => by
    cases ha : acts x.op with
    | false => rfl
    | true => exact absurd (hn k x hx ha) h
  rcases Nat.le_total i j with h | h
  · obtain ⟨k, rfl⟩ := Nat.exists_eq_add_of_le h
    exact (ht.heap k hj fun l x h1 h2 hx => na l x hx (by omega)).symm
  · obtain ⟨k, rfl⟩ := Nat.exists_eq_add_of_le h
    exact ht.heap k hi fun l x h1 h2 hx => na l x hx (by omega)
theorem Trace.keeps (hck : CallKeeps cf) (ht : Trace P cf al S V G) {i : Nat} : ∀ k, i + k ≤ al.length → Keeps (S i).2 (S (i + k)).2
  | 0, _ => Keeps.refl _
  | k + 1, hl => by
    have ih := Trace.keeps hck ht k (i := i) (by omega)
    have hx := List.getElem?_eq_getElem (show i + k < al.length by omega)
    refine ih.trans ?_
    rcases ht.step (i + k) _ hx with ⟨_, h2, h3⟩ | ⟨_, _, h3⟩
    · rw [show i + (k + 1) = i + k + 1 by omega, h3]
      have := op_keeps hck h2
      exact ⟨fun q => this.wf q, this.next, fun b hb => List.mem_append.2 (.inr hb), fun b hb hn => this.keep b hb fun q => hn (List.mem_append.2 (.inl q))⟩
    · rw [show i + (k + 1) = i + k + 1 by omega, h3]
      exact Keeps.refl _
/-- A block that those who act between leave alone. -/
theorem Trace.blk (hck : CallKeeps cf) (ht : Trace P cf al S V G) {i b : Nat} (hb : b < (S i).2.next) : ∀ k, i + k ≤ al.length → (∀ (j : Nat) (x : AOper), i ≤ j → j < i + k → al[j]? = some x → acts x.op = true → wantedA (S j).1 x.guard = true → b ∉ (G j).wl) → (S (i + k)).2.get b = (S i).2.get b
  | 0, _, _ => rfl
  | k + 1, hl, hn => by
    have ih := Trace.blk hck ht hb k (by omega) (fun j x h1 h2 hx => hn j x h1 (by omega) hx)
    have hx := List.getElem?_eq_getElem (show i + k < al.length by omega)
    have hnx := (ht.keeps hck k (i := i) (by omega)).next
    rcases ht.step (i + k) _ hx with ⟨h1, h2, h3⟩ | ⟨_, _, h3⟩
    · rw [show i + (k + 1) = i + k + 1 by omega, h3, ← ih]
      have hk := op_keeps hck h2
      refine hk.keep b (Nat.lt_of_lt_of_le hb hnx) ?_
      cases ha : acts (al[i + k]'(by omega)).op with
      | true => exact hn (i + k) _ (by omega) (by omega) hx ha h1
      | false =>
        have hg : G (i + k) = ⟨(S (i + k)).2.t, (S (i + k)).2.next, []⟩ := by
          cases hl : looks (al[i + k]'(by omega)).op with
          | true => exact look_same hl h2
          | false => exact pure_same ha hl h2
        rw [hg]
        simp
    · rw [show i + (k + 1) = i + k + 1 by omega, h3, ← ih]
end
end Go.Proofs.Ytffokmamcempgaa.AM

/- A machine of our own: a region that draws its order does as its text. -/
namespace Go.Proofs.Ytffokmamcempgaa.AM
open Go Go.RowKit
set_option linter.unusedVariables false
set_option linter.unusedSimpArgs false

/-! who waits for whom -/
def edgeBits (acc : List Nat) (es : List Edge) (s : Nat) : Nat := es.foldl (fun s e => match Region.binds .any e with | true => s ||| 2 ^ e.on ||| acc.getD e.on 0 | false => s) s
theorem edge_bits (acc : List Nat) (i : Nat) : ∀ (es : List Edge) (s : Nat), (edgeBits acc es s).testBit i = true → s.testBit i = true ∨ ∃ e ∈ es, Region.binds .any e = true ∧ (i = e.on ∨ (acc.getD e.on 0).testBit i = true)
  | [], s, h => .inl h
  | e :: es, s, h => by
    have h' : (edgeBits acc es (match Region.binds .any e with | true => s ||| 2 ^ e.on ||| acc.getD e.on 0 | false => s)).testBit i = true := h
    rcases edge_bits acc i es _ h' with h1 | ⟨f, hf, hb, hi⟩
    · cases hb : Region.binds .any e with
      | false => rw [hb] at h1; exact .inl h1
      | true =>
        rw [hb] at h1
        simp only [Nat.testBit_or, Bool.or_eq_true, Nat.testBit_two_pow] at h1
        rcases h1 with (h1 | h1) | h1
        · exact .inl h1
        · exact .inr ⟨e, List.mem_cons_self .., hb, .inl (by simpa using h1 : e.on = i).symm⟩
        · exact .inr ⟨e, List.mem_cons_self .., hb, .inr h1⟩
    · exact .inr ⟨f, List.mem_cons_of_mem _ hf, hb, hi⟩
theorem waits_cons (o : Oper) (l : List Oper) (acc : List Nat) : waits (o :: l) acc = waits l (acc ++ [edgeBits acc o.after.toList 0]) := rfl
theorem waits_pre : ∀ (l : List Oper) (acc : List Nat) (k : Nat), k < acc.length → (waits l acc)[k]? = acc[k]?
  | [], acc, k, _ => rfl
  | o :: l, acc, k, h => by
    rw [waits_cons, waits_pre l _ k (by simp; omega), List.getElem?_append_left h]
theorem waits_at : ∀ (l : List Oper) (acc : List Nat) (t : Nat) (o : Oper), l[t]? = some o → ∃ pre : List Nat, pre.length = acc.length + t ∧ (∀ k, k < pre.length → (waits l acc)[k]? = pre[k]?) ∧ (waits l acc)[acc.length + t]? = some (edgeBits pre o.after.toList 0)
  | [], acc, t, o, h => by simp at h
  | p :: l, acc, 0, o, h => by
    simp at h
    subst h
    refine ⟨acc, by simp, fun k hk => by rw [waits_cons, waits_pre _ _ k (by simp; omega), List.getElem?_append_left hk], ?_⟩
    rw [waits_cons, waits_pre _ _ _ (by simp)]
    simp
  | p :: l, acc, t + 1, o, h => by
    obtain ⟨pre, h1, h2, h3⟩ := waits_at l (acc ++ [edgeBits acc p.after.toList 0]) t o (by simpa using h)
    refine ⟨pre, by rw [h1]; simp; omega, fun k hk => by rw [waits_cons]; exact h2 k hk, ?_⟩
    rw [waits_cons]
    rw [show acc.length + (t + 1) = (acc ++ [edgeBits acc p.after.toList 0]).length + t by simp; omega]
    exact h3
/-- Whoever waits for another one, directly or not, waits for one that is that one or waits for it. -/
theorem bit_edge {ops : List Oper} {j i : Nat} (h : bitAt (waits ops []) j i = true) : ∃ o, ops[j]? = some o ∧ ∃ e ∈ o.after, Region.binds .any e = true ∧ (i = e.on ∨ (e.on < j ∧ bitAt (waits ops []) e.on i = true)) := by
  cases ho : ops[j]? with
  | none =>
    exfalso
    have hlen : ∀ (l : List Oper) (acc : List Nat), (waits l acc).length = acc.length + l.length := by
      intro l
      induction l with
      | nil => intro acc; simp [waits]
      | cons o l ih => intro acc; rw [waits_cons, ih]; simp; omega
    have hj : ops.length ≤ j := by simpa using ho
    unfold bitAt at h
    rw [List.getD_eq_getElem?_getD, List.getElem?_eq_none (by rw [hlen]; simpa using hj)] at h
    simp at h
  | some o =>
    refine ⟨o, rfl, ?_⟩
    obtain ⟨pre, h1, h2, h3⟩ := waits_at ops [] j o ho
    simp only [List.length_nil, Nat.zero_add] at h1 h3
    unfold bitAt at h
    rw [List.getD_eq_getElem?_getD, h3] at h
    simp only [Option.getD_some] at h
    rcases edge_bits pre i _ 0 h with h4 | ⟨e, he, hb, hi⟩
    · simp at h4
    · refine ⟨e, by simpa using he, hb, hi.imp id fun hi => ?_⟩
      rw [List.getD_eq_getElem?_getD] at hi
      by_cases hlt : e.on < pre.length
      · refine ⟨by omega, ?_⟩
        unfold bitAt
        rw [List.getD_eq_getElem?_getD, h2 _ hlt]
        exact hi
      · rw [List.getElem?_eq_none (by omega)] at hi
        simp at hi
/-- What has been done has all that it waits for done. -/
def Down (ops : Array Oper) (D : Array Bool) : Prop := ∀ (j : Nat) (o : Oper), D.getD j false = true → ops[j]? = some o → ∀ e ∈ o.after, Region.binds .any e = true → D.getD e.on false = true
theorem down_bit {ops : Array Oper} {D : Array Bool} (hd : Down ops D) {i : Nat} : ∀ (j : Nat), D.getD j false = true → bitAt (waits ops.toList []) j i = true → D.getD i false = true := by
  intro j
  induction j using Nat.strongRecOn with
  | _ j ih =>
    intro hj hb
    obtain ⟨o, ho, e, he, hbind, hi⟩ := bit_edge hb
    have hon := hd j o hj (by rw [← Array.getElem?_toList]; exact ho) e he hbind
    rcases hi with rfl | ⟨hlt, hb'⟩
    · exact hon
    · exact ih e.on hlt hon hb'
theorem ready_bit {ops : Array Oper} {D : Array Bool} (hd : Down ops D) {j i : Nat} (hr : j ∈ Region.ready .any ops D) (hb : bitAt (waits ops.toList []) j i = true) : D.getD i false = true := by
  obtain ⟨_, o, ho, hall⟩ := mem_ready.1 hr
  obtain ⟨o', ho', e, he, hbind, hi⟩ := bit_edge hb
  rw [Array.getElem?_toList, ho] at ho'
  cases ho'
  have hon := hall e he hbind
  rcases hi with rfl | ⟨_, hb'⟩
  · exact hon
  · exact down_bit hd e.on hon hb'
theorem mark_at (W : List Nat) (as ls : List Bool) : ∀ (l : List AOper) (k i : Nat), (markFree W as ls k l)[i]? = (l[i]?).map fun o => ⟨o.dst, o.guard, fpOf W as ls (k + i) o.op, o.op⟩
  | [], k, i => by simp [markFree]
  | o :: l, k, 0 => rfl
  | o :: l, k, i + 1 => by
    simp only [markFree, List.getElem?_cons_succ]
    rw [mark_at W as ls l (k + 1) i]
    simp only [show k + 1 + i = k + (i + 1) by omega]
theorem mark_len (W : List Nat) (as ls : List Bool) : ∀ (l : List AOper) (k : Nat), (markFree W as ls k l).length = l.length
  | [], k => rfl
  | o :: l, k => by simp [markFree, mark_len W as ls l (k + 1)]
theorem waitEach_symm (W : List Nat) {i j : Nat} (h : i ≠ j) : waitEach W i j = waitEach W j i := by
  unfold waitEach
  rcases Nat.lt_or_gt_of_ne h with q | q
  · rw [show Nat.blt i j = true from Nat.ble_eq_true_of_le q, show Nat.blt j i = false from by rw [← Bool.not_eq_true]; intro e; have := Nat.le_of_ble_eq_true e; omega]
  · rw [show Nat.blt j i = true from Nat.ble_eq_true_of_le q, show Nat.blt i j = false from by rw [← Bool.not_eq_true]; intro e; have := Nat.le_of_ble_eq_true e; omega]
theorem waitEach_lt (W : List Nat) {i j : Nat} (h : i < j) : waitEach W i j = bitAt W j i := by
  unfold waitEach
  rw [show Nat.blt i j = true from Nat.ble_eq_true_of_le h]
theorem Post.rewl {P : Program} {ρ ρ' : Ren} {H G : Heap} {w0 w w' : World} (h : Post P ρ ρ' ⟨H.t, H.next, []⟩ G w0 w w') : Post P ρ ρ' H ⟨G.t, G.next, G.wl ++ H.wl⟩ w0 w w' := {
  hr := ⟨h.hr.below, h.hr.dom, h.hr.blk, h.hr.inj, h.hr.nxt⟩
  ext := h.ext
  next := h.next
  wl := fun b hb => List.mem_append.2 (.inr hb)
  frame := fun c hc hf => h.frame c hc fun b l e1 e2 hb => hf b l e1 e2 (List.mem_append.2 (.inl hb))
  size := h.size
  new := fun b l hb e hc => let ⟨a, k, h1, h2, h3⟩ := h.new b l hb e hc; ⟨a, k, h1, h2, List.mem_append.2 (.inl h3)⟩
  keep := fun b hb hn => h.keep b hb fun q => hn (List.mem_append.2 (.inl q)) }
theorem HR.wl {P : Program} {ρ : Ren} {H : Heap} {w0 w : World} (h : HR P ρ H w0 w) (l : List Nat) : HR P ρ ⟨H.t, H.next, l⟩ w0 w := ⟨h.below, h.dom, h.blk, h.inj, h.nxt⟩
theorem block_rel {ρ : Ren} {v v' : Value} (h : VR ρ v v') {b : Nat} (hb : blockOf v = some b) : ∃ l, ρ b = some l := by
  cases h <;> simp only [blockOf] at hb <;> (try (cases hb; done)) <;> cases hb <;> exact ⟨_, by assumption⟩
theorem look_operand {P : Program} {T : Tr Value} {op : Op} {ao : AOp} {b : Nat} (hco' : compOp P op = some ao) (hl : looks ao = true) (hb : lookBlk T ao = some b) : ∃ y z, y ∈ op.operands.toList ∧ compArg y = some z ∧ blockOf (z.ev T) = some b := by
  cases op with
  | load t y =>
    simp only [compOp] at hco'
    split at hco' <;> (try (cases hco'; done))
    rename_i nn z hn hz
    cases hco'
    simp only [lookBlk] at hb
    exact ⟨y, z, by simp [Op.operands], hz, hb⟩
  | lookup t y i ok =>
    simp only [compOp] at hco'
    split at hco' <;> (try (cases hco'; done))
    rename_i k e z z2 hm hz hz2
    split at hco' <;> (try (cases hco'; done))
    cases hco'
    simp only [lookBlk] at hb
    exact ⟨y, z, by simp [Op.operands], hz, hb⟩
  | slice t y lo hi mx =>
    simp only [compOp] at hco'
    split at hco' <;> (try (cases hco'; done))
    · cases hco'; cases hl
    · rename_i e z l1 l2 l3 hu hz hlo hhi hmx
      split at hco' <;> (try (cases hco'; done))
      simp only [Option.map_eq_some_iff] at hco'
      obtain ⟨nn, hn, hco'⟩ := hco'
      rw [← hco'] at hb
      simp only [lookBlk] at hb
      exact ⟨y, z, by simp [Op.operands], hz, hb⟩
  | convert s d y =>
    simp only [compOp, compConv] at hco'
    split at hco' <;> (try (cases hco'; cases hl; done)) <;> (try (cases hco'; done)) <;> (split at hco' <;> (try (cases hco'; cases hl; done)) <;> (try (cases hco'; done)))
    rename_i e z hs hd hz _ he
    cases hco'
    simp only [lookBlk] at hb
    exact ⟨y, z, by simp [Op.operands], hz, hb⟩
  | call c =>
    simp only [compOp] at hco'
    split at hco' <;> (try (cases hco'; done))
    · split at hco' <;> (try (cases hco'; done)); cases hco'; cases hl
    · rename_i bi hbi
      unfold compBuiltin at hco'
      split at hco'
      · split at hco' <;> (try (cases hco'; done))
        split at hco' <;> (try (cases hco'; done))
        split at hco' <;> (try (cases hco'; done)); cases hco'; cases hl
      · rename_i t ts y e0 e2
        have hmem : y ∈ (Op.call c).operands.toList := by
          simp only [Op.operands, Call.operands, hbi]
          simp
          have : y ∈ c.args.toList := by rw [e2]; simp
          simpa using this
        split at hco' <;> (try (cases hco'; done)) <;> (rename_i z _ hz; cases hco'; simp only [lookBlk] at hb; exact ⟨y, z, hmem, hz, hb⟩)
      · split at hco' <;> (try (cases hco'; done)); cases hco'; cases hl
      · split at hco' <;> (try (cases hco'; done))
        simp only [Option.map_eq_some_iff] at hco'; obtain ⟨_, _, hco'⟩ := hco'; rw [← hco'] at hl; cases hl
      · simp only [Option.map_eq_some_iff] at hco'; obtain ⟨_, _, hco'⟩ := hco'; rw [← hco'] at hl; cases hl
      · simp only [Option.map_eq_some_iff] at hco'; obtain ⟨_, _, hco'⟩ := hco'; rw [← hco'] at hl; cases hl
      · cases hco'
  | makeMap t r =>
    exfalso
    cases r with
    | none => simp only [compOp, Option.map_eq_some_iff] at hco'; obtain ⟨_, _, hco'⟩ := hco'; rw [← hco'] at hl; cases hl
    | some r => simp [compOp] at hco'
  | next it s =>
    exfalso
    cases s with
    | true => simp only [compOp, Option.map_eq_some_iff] at hco'; obtain ⟨_, _, hco'⟩ := hco'; rw [← hco'] at hl; cases hl
    | false => simp [compOp] at hco'
  | binOp op t y z yt =>
    exfalso
    simp only [compOp, compBin] at hco'
    split at hco' <;> (try (cases hco'; done))
    split at hco'
    · cases op <;> simp only at hco' <;> (try (cases hco'; done)) <;> (rw [Option.some.injEq] at hco'; rw [← hco'] at hl; cases hl)
    · split at hco' <;> (try (cases hco'; done)); rw [Option.some.injEq] at hco'; rw [← hco'] at hl; cases hl
  | _ =>
    exfalso
    simp only [compOp] at hco'
    first
      | (cases hco'; done)
      | (repeat' (split at hco')) <;> (try (cases hco'; done)) <;> (try (rw [Option.some.injEq] at hco'; rw [← hco'] at hl; cases hl; done)) <;> (try (simp only [Option.map_eq_some_iff] at hco'; obtain ⟨_, _, hco'⟩ := hco'; rw [← hco'] at hl; cases hl; done))
end Go.Proofs.Ytffokmamcempgaa.AM

/- A machine of our own: a region that draws its order does as its text. (In whatever order.) -/
namespace Go.Proofs.Ytffokmamcempgaa.AM
open Go Go.RowKit
set_option linter.unusedVariables false
set_option linter.unusedSimpArgs false

section
variable {P : Program} {cf : CallF} {n : Nat} {w0 ws : World} {ρs : Ren} {d0 : List Deferred}
/-- Where the region stands when D has been done. -/
def Inv (P : Program) (n : Nat) (ops : Array Oper) (al : List AOper) (S : Nat → Tr Value × Heap) (ρs : Ren) (w0 ws : World) (d0 : List Deferred) (D : Array Bool) (a : Act) (w : World) : Prop :=
  D.size = ops.size ∧ Down ops D ∧ a.tmps.size = n ∧ a.defers = d0 ∧
  ∃ m ρ, m ≤ al.length ∧ (∀ (i : Nat) (x : AOper), al[i]? = some x → acts x.op = true → (D.getD i false = true ↔ i < m)) ∧ Post P ρs ρ (S 0).2 (S m).2 w0 ws w ∧
    ∀ d, d < n → ∃ i, i ≤ al.length ∧ (∀ (k : Nat) (x : AOper), al[k]? = some x → x.dst = some d → (D.getD k false = true ↔ k < i)) ∧ VR ρ (((S i).1.get d).getD undef) (a.tmps.getD d undef)
theorem draw_step (hcf : CallOk P cf) (hck : CallKeeps cf) {ops : Array Oper} {l0 : List AOper} {Q : Exit → Act → World → Prop} {S : Nat → Tr Value × Heap} {V : Nat → Value} {G : Nat → Heap}
    (hc : compOps P n ops.toList ops.toList = some l0)
    (htok : tempsOk ops.toList (waits ops.toList []) = true) (haok : actsOk (waits ops.toList []) (l0.map fun o => acts o.op) = true)
    (ht : Trace P cf (markFree (waits ops.toList []) (l0.map fun o => acts o.op) (l0.map fun o => looks o.op) 0 l0) S V G)
    (hout : ∀ d, n ≤ d → (S 0).1.get d = none) (hwf : WF (S 0).2) {D : Array Bool} {a : Act} {w : World} {K : Act → World → Prop} {j : Nat}
    (hI : Inv P n ops (markFree (waits ops.toList []) (l0.map fun o => acts o.op) (l0.map fun o => looks o.op) 0 l0) S ρs w0 ws d0 D a w) (hrs : HR P ρs (S 0).2 w0 ws) (hj : j ∈ Region.ready .any ops D)
    (hK : ∀ a' w', Inv P n ops (markFree (waits ops.toList []) (l0.map fun o => acts o.op) (l0.map fun o => looks o.op) 0 l0) S ρs w0 ws d0 (D.setIfInBounds j true) a' w' → K a' w') : wpOp P ops Q j K a w := by
  generalize hW : waits ops.toList [] = W at *
  generalize has : (l0.map fun o => acts o.op) = as at *
  generalize hls : (l0.map fun o => looks o.op) = ls at *
  generalize hal : markFree W as ls 0 l0 = al at *
  obtain ⟨hDs, hdown, hsz, hdef, m, ρ, hml, hact, hpost, htmp⟩ := hI
  obtain ⟨hjD, o, ho, hdeps⟩ := mem_ready.1 hj
  obtain ⟨hlen, hcomp⟩ := comp_at hc
  have hoL : ops.toList[j]? = some o := by rw [Array.getElem?_toList]; exact ho
  have hjlt : j < ops.size := (Array.getElem?_eq_some_iff.1 ho).1
  have hjD' : D.getD j false = false := by
    rw [Array.getD_eq_getD_getElem?] at hjD ⊢
    cases hq : D[j]? with
    | none => rfl
    | some q => rw [hq] at hjD; exact hjD
  obtain ⟨x0, hx0, hco⟩ := hcomp j o hoL
  have hallen : al.length = ops.size := by rw [← hal, mark_len, ← hlen]; simp
  -- the j-th operation as the machine has it
  have hat : ∀ i, al[i]? = (l0[i]?).map fun o => (⟨o.dst, o.guard, fpOf W as ls i o.op, o.op⟩ : AOper) := fun i => by
    rw [← hal, mark_at W as ls l0 0 i]
    simp only [Nat.zero_add]
  have hx : ∃ x, al[j]? = some x ∧ x.dst = o.dst ∧ x.guard = x0.guard ∧ x.op = x0.op ∧ x.fp = fpOf W as ls j x0.op := by
    refine ⟨(⟨x0.dst, x0.guard, fpOf W as ls j x0.op, x0.op⟩ : AOper), by rw [hat j, hx0]; rfl, hco.dst, rfl, rfl, rfl⟩
  obtain ⟨x, hx, hxd, hxg, hxo, hxf⟩ := hx
  -- what stands at another place
  have hother : ∀ (i : Nat) (y : AOper), al[i]? = some y → ∃ p y0, ops.toList[i]? = some p ∧ l0[i]? = some y0 ∧ y.dst = p.dst ∧ y.op = y0.op ∧ y.guard = y0.guard ∧ CO P n ops.toList p y0 ∧ y.fp = fpOf W as ls i y0.op := by
    intro i y hy
    rw [hat i] at hy
    simp only [Option.map_eq_some_iff] at hy
    obtain ⟨y0, hy0, rfl⟩ := hy
    have hi : i < ops.toList.length := by rw [hlen]; exact (List.getElem?_eq_some_iff.1 hy0).1
    obtain ⟨y1, hy1, hco1⟩ := hcomp i _ (List.getElem?_eq_getElem hi)
    rw [hy0] at hy1
    cases hy1
    exact ⟨_, y0, List.getElem?_eq_getElem hi, hy0, hco1.dst, rfl, rfl, hco1, rfl⟩
  -- temporaries: whoever reads or writes what another one writes stands in order with it
  have htemps : ∀ (i : Nat) (p : Oper) (d : Nat), ops.toList[i]? = some p → p.dst = some d → i ≠ j → (o.dst = some d ∨ d ∈ readsOf ops.toList o) → waitEach W i j = true := by
    intro i p d hp hd hne hor
    unfold tempsOk at htok
    rw [List.all_eq_true] at htok
    have h1 := htok (o, j) (List.mem_of_getElem? (i := j) (by rw [List.getElem?_zipIdx, hoL]; simp))
    simp only at h1
    rw [List.all_eq_true] at h1
    have h2 := h1 (p, i) (List.mem_of_getElem? (i := i) (by rw [List.getElem?_zipIdx, hp]; simp))
    simp only [hd, Bool.or_eq_true] at h2
    rcases h2 with (h2 | h2) | h2
    · exact absurd (Nat.eq_of_beq_eq_true h2) hne
    · simp only [Bool.and_eq_true, Bool.not_eq_true', List.contains_eq_mem, decide_eq_false_iff_not] at h2
      rcases hor with hor | hor
      · rw [hor] at h2; simp at h2
      · exact absurd hor h2.2
    · exact h2
  -- of two in order the earlier one has been done, the later one not
  have hdone : ∀ i, i ≠ j → waitEach W i j = true → (D.getD i false = true ↔ i < j) := by
    intro i hne hwe
    rcases Nat.lt_or_gt_of_ne hne with h | h
    · rw [waitEach_lt W h] at hwe
      exact ⟨fun _ => h, fun _ => ready_bit hdown hj (by rw [hW]; exact hwe)⟩
    · rw [waitEach_symm W hne, waitEach_lt W h] at hwe
      refine ⟨fun hD => ?_, fun q => by omega⟩
      have := down_bit hdown i hD (by rw [hW]; exact hwe)
      rw [hjD'] at this
      cases this
  -- what is read
  have hread : ∀ d, (d ∈ readsOf ops.toList o) → VR ρ (((S j).1.get d).getD undef) (a.tmps.getD d undef) := by
    intro d hd
    by_cases hdn : d < n
    · obtain ⟨i, hi, hiw, hv⟩ := htmp d hdn
      have he : (S i).1.get d = (S j).1.get d := by
        refine ht.tmp_eq hi (by rw [hallen]; omega) fun k y hy hyd => ?_
        obtain ⟨p, y0, hp, hy0, hpd, _⟩ := hother k y hy
        rw [← hiw k y hy hyd]
        by_cases hkj : k = j
        · subst hkj
          rw [hjD']
          simp
        · exact hdone k hkj (htemps k p d hp (by rw [← hpd]; exact hyd) hkj (.inr hd))
      rw [← he]
      exact hv
    · have h1 : (S j).1.get d = none := by
        have : (S 0).1.get d = (S j).1.get d := ht.tmp_eq (Nat.zero_le _) (by rw [hallen]; omega) fun k y hy hyd => by
          obtain ⟨p, y0, hp, hy0, hpd, _, _, hco1, _⟩ := hother k y hy
          have := dst_lt hco1.lt d (by rw [← hpd]; exact hyd)
          omega
        rw [← this]
        exact hout d (by omega)
      rw [h1, Array.getD_eq_getD_getElem?, Array.getElem?_eq_none (by rw [hsz]; omega)]
      exact VR.undef ρ
  have hargs : ∀ y ∈ o.op.operands.toList, ∀ z, compArg y = some z → VR ρ (z.ev (S j).1) (a.eval y) := by
    intro y hy z hz
    refine arg_rel hz fun t htm => hread t ?_
    unfold readsOf
    exact List.mem_append.2 (.inl (List.mem_filterMap.2 ⟨y, hy, htm⟩))
  have hguard : Region.wanted o (yielded ops a.tmps) = wantedA (S j).1 x0.guard := by
    refine wanted_rel (ρ := ρ) hco.guard hsz (fun k p hp => by obtain ⟨y, _, hy⟩ := hcomp k p hp; exact hy.lt) fun d b hg => hread d ?_
    have hgo := hco.guard
    rw [hg] at hgo
    unfold guardOk at hgo
    split at hgo
    · cases hgo
    · rename_i k b' hgd
      split at hgo <;> (try (cases hgo; done))
      rename_i p hp
      simp only [Option.map_eq_some_iff] at hgo
      obtain ⟨d', hd', he⟩ := hgo
      cases he
      unfold readsOf
      refine List.mem_append.2 (.inr ?_)
      rw [hgd]
      simp only [hp]
      rw [hd']
      simp
  -- the world as it stands behind the step
  have hnewD : ∀ k, (D.setIfInBounds j true).getD k false = true ↔ (k = j ∨ D.getD k false = true) := by
    intro k
    by_cases hk : j = k
    · subst hk
      simp only [true_or, iff_true]
      rw [Array.getD_eq_getD_getElem?, Array.getElem?_setIfInBounds_self_of_lt (by rw [hDs]; exact hjlt)]
      rfl
    · rw [getD_set_ne false hk]
      exact ⟨.inr, fun q => q.resolve_left fun e => hk e.symm⟩
  have hdown' : Down ops (D.setIfInBounds j true) := by
    intro k p hk hp e he hb
    rw [hnewD] at hk ⊢
    rcases hk with rfl | hk
    · rw [ho] at hp
      cases hp
      exact .inr (hdeps e he hb)
    · exact .inr (hdown k p hk hp e he hb)
  -- the temporaries behind the step
  have htmp' : ∀ (ρ' : Ren) (v' : Value), Sub ρ ρ' → VR ρ' (V j) v' → ∀ d, d < n → ∃ i, i ≤ al.length ∧ (∀ (k : Nat) (y : AOper), al[k]? = some y → y.dst = some d → ((D.setIfInBounds j true).getD k false = true ↔ k < i)) ∧ VR ρ' (((S i).1.get d).getD undef) ((a.put o.dst v').tmps.getD d undef) := by
    intro ρ' v' hs hv d hdn
    have hSj : (S (j + 1)).1 = putT (S j).1 x.dst (V j) := by
      rcases ht.step j x hx with ⟨_, _, h3⟩ | ⟨_, h2, h3⟩
      · rw [h3]
      · rw [h3, h2]
    rw [put_getD a o.dst v' d (by rw [hsz]; exact hdn)]
    by_cases hod : o.dst = some d
    · refine ⟨j + 1, by rw [hallen]; omega, fun k y hy hyd => ?_, ?_⟩
      · rw [hnewD]
        by_cases hkj : k = j
        · subst hkj; simp
        · obtain ⟨p, y0, hp, hy0, hpd, _⟩ := hother k y hy
          have := hdone k hkj (htemps k p d hp (by rw [← hpd]; exact hyd) hkj (.inl hod))
          constructor
          · rintro (q | q)
            · exact absurd q hkj
            · have := this.1 q; omega
          · intro q; exact .inr (this.2 (by omega))
      · rw [hSj, putT_get, if_pos (by rw [hxd]; exact hod), if_pos hod]
        exact hv
    · obtain ⟨i, hi, hiw, hv0⟩ := htmp d hdn
      refine ⟨i, hi, fun k y hy hyd => ?_, ?_⟩
      · rw [hnewD, ← hiw k y hy hyd]
        constructor
        · rintro (q | q)
          · subst q
            rw [hx] at hy
            cases hy
            rw [hxd] at hyd
            exact absurd hyd hod
          · exact q
        · exact .inr
      · rw [if_neg hod]
        exact hv0.mono hs
  -- those that act
  have hactlt : acts x0.op = true → (∀ (i : Nat) (y : AOper), al[i]? = some y → acts y.op = true → i ≠ j → (D.getD i false = true ↔ i < j)) := by
    intro ha i y hy hya hne
    obtain ⟨p, y0, hp, hy0, hpd, hyo, _⟩ := hother i y hy
    refine hdone i hne ?_
    have hb : ∀ i' j', i' < j' → as.getD i' false = true → as.getD j' false = true → bitAt W j' i' = true := by
      intro i' j' hlt h1 h2
      unfold actsOk at haok
      rw [List.all_eq_true] at haok
      have hjlt' : j' < as.length := by
        refine Nat.lt_of_not_le fun q => ?_
        rw [List.getD_eq_getElem?_getD, List.getElem?_eq_none q] at h2
        cases h2
      have h3 := haok j' (List.mem_range.2 hjlt')
      rw [List.all_eq_true] at h3
      have h4 := h3 i' (List.mem_range.2 hlt)
      rw [h1, h2] at h4
      exact h4
    have e1 : as.getD i false = true := by rw [← has, List.getD_eq_getElem?_getD, List.getElem?_map, hy0]; simp only [Option.map_some, Option.getD_some]; rw [← hyo]; exact hya
    have e2 : as.getD j false = true := by rw [← has, List.getD_eq_getElem?_getD, List.getElem?_map, hx0]; exact ha
    rcases Nat.lt_or_gt_of_ne hne with h | h
    · rw [waitEach_lt W h]; exact hb i j h e1 e2
    · rw [waitEach_symm W hne, waitEach_lt W h]; exact hb j i h e2 e1
  have hheap : acts x0.op = true → (S m).2 = (S j).2 := by
    intro ha
    refine ht.heap_eq hml (by rw [hallen]; omega) fun k y hy hya => ?_
    rw [← hact k y hy hya]
    by_cases hkj : k = j
    · subst hkj; rw [hjD']; simp
    · exact hactlt ha k y hy hya hkj
  have hact' : acts x0.op = true → ∀ (i : Nat) (y : AOper), al[i]? = some y → acts y.op = true → ((D.setIfInBounds j true).getD i false = true ↔ i < j + 1) := by
    intro ha i y hy hya
    rw [hnewD]
    by_cases hij : i = j
    · subst hij; simp
    · have := hactlt ha i y hy hya hij
      constructor
      · rintro (q | q)
        · exact absurd q hij
        · have := this.1 q; omega
      · intro q; exact .inr (this.2 (by omega))
  have hidle : acts x0.op = false → ∀ (i : Nat) (y : AOper), al[i]? = some y → acts y.op = true → ((D.setIfInBounds j true).getD i false = true ↔ i < m) := by
    intro ha i y hy hya
    rw [hnewD, ← hact i y hy hya]
    constructor
    · rintro (q | q)
      · subst q
        rw [hx] at hy
        cases hy
        rw [hxo, ha] at hya
        cases hya
      · exact q
    · exact .inr
  have hDs' : (D.setIfInBounds j true).size = ops.size := by simp [hDs]
  unfold wpOp
  rw [ho]
  simp only [hguard]
  rcases ht.step j x hx with ⟨h1, h2, h3⟩ | ⟨h1, h2, h3⟩
  · rw [hxg] at h1
    rw [hxo] at h2
    rw [h1]
    simp only [if_true]
    refine .inl ?_
    have finish : ∀ (v' : Value), VR ρ (V j) v' → acts x0.op = false → K (a.put o.dst v') w := by
      intro v' hv ha
      exact hK _ _ ⟨hDs', hdown', by rw [put_size, hsz], by rw [put_defers, hdef], m, ρ, hml, hidle ha, hpost, htmp' ρ v' (Sub.refl ρ) hv⟩
    cases hl : looks x0.op with
    | true =>
      have hna : acts x0.op = false := by cases hh : x0.op <;> rw [hh] at hl <;> first | rfl | cases hl
      have hm2 : opRun P cf (S j).1 (S m).2 x0.op = some (V j, (S m).2) := by
        refine look_local hl h2 fun b hb hsome => ?_
        have hget : (S j).2.get b = (⟨(S j).2.t, (S j).2.next, []⟩ : Heap).get b := rfl
        rw [← hget] at hsome ⊢
        -- those between the two places stand in no order with this one
        have free : ∀ (i : Nat) (y : AOper), al[i]? = some y → acts y.op = true → wantedA (S i).1 y.guard = true → ¬ (i < m ↔ i < j) → b ∉ (G i).wl := by
          intro i y hy hya hwy hne
          have hij : i ≠ j := fun e => by
            subst e
            rw [hx] at hy
            cases hy
            rw [hxo, hna] at hya
            cases hya
          obtain ⟨p, y0, hp, hy0, hpd, hyo, _, _, hyf⟩ := hother i y hy
          have hnw : waitEach W i j = false := by
            cases hwe : waitEach W i j with
            | false => rfl
            | true => exact absurd (by rw [← hact i y hy hya]; exact hdone i hij hwe) hne
          have hilt : i < as.length := by rw [← has, List.length_map]; exact (List.getElem?_eq_some_iff.1 hy0).1
          have hjlt2 : j < ls.length := by rw [← hls, List.length_map]; exact (List.getElem?_eq_some_iff.1 hx0).1
          have ei : as.getD i false = true := by rw [← has, List.getD_eq_getElem?_getD, List.getElem?_map, hy0]; simp only [Option.map_some, Option.getD_some]; rw [← hyo]; exact hya
          have ej : ls.getD j false = true := by rw [← hls, List.getD_eq_getElem?_getD, List.getElem?_map, hx0]; exact hl
          have f1 : x.fp = true := by
            rw [hxf]
            unfold fpOf
            rw [hna, hl]
            simp only
            unfold freeOf
            rw [List.any_eq_true]
            refine ⟨i, List.mem_range.2 hilt, ?_⟩
            have : Nat.beq j i = false := by rw [← Bool.not_eq_true, Nat.beq_eq]; exact fun e => hij e.symm
            rw [ei, this, waitEach_symm W (fun e => hij e.symm), hnw]
            rfl
          have f2 : y.fp = true := by
            rw [hyf]
            rw [hyo] at hya
            unfold fpOf
            rw [hya]
            simp only
            unfold freeOf
            rw [List.any_eq_true]
            refine ⟨j, List.mem_range.2 hjlt2, ?_⟩
            have : Nat.beq i j = false := by rw [← Bool.not_eq_true, Nat.beq_eq]; exact hij
            rw [ej, this, hnw]
            rfl
          exact ht.apart j i x y b hx hy f1 f2 (by rw [hxo]; exact hna) hya (by rw [hxg]; exact h1) hwy (by rw [hxo]; exact hb)
        rcases Nat.le_total m j with hmj | hmj
        · -- the block has been made
          have hbm : b < (S m).2.next := by
            have hblk := look_operand hco.op hl hb
            obtain ⟨y, z, hy, hz, hbz⟩ := hblk
            obtain ⟨loc, hloc⟩ := block_rel (hargs y hy z hz) hbz
            exact (hpost.hr.dom b loc hloc).1
          obtain ⟨k, rfl⟩ := Nat.exists_eq_add_of_le hmj
          exact (ht.blk hck hbm k (by rw [hallen]; omega) fun i y q1 q2 hy hya hwy => free i y hy hya hwy (by omega)).symm
        · have hbj : b < (S j).2.next := by
            have hk := ht.keeps hck j (i := 0) (by rw [hallen]; omega)
            rw [Nat.zero_add] at hk
            refine Nat.lt_of_not_le fun q => ?_
            rw [hk.wf hwf b q] at hsome
            cases hsome
          obtain ⟨k, hk⟩ := Nat.exists_eq_add_of_le hmj
          rw [hk]
          exact ht.blk hck hbj k (by omega) fun i y q1 q2 hy hya hwy => free i y hy hya hwy (by omega)
      obtain ⟨_, v', r1, r2⟩ := look_sound (a := a) hco.op hargs hl hpost.hr hm2
      unfold Oper.wp
      rw [r1]
      exact finish v' r2 hna
    | false =>
    cases ha : acts x0.op with
    | false =>
      obtain ⟨_, v', r1, r2⟩ := pure_sound (a := a) hco.op hargs ha hl h2
      unfold Oper.wp
      rw [r1 w]
      exact finish v' r2 ha
    | true =>
      have hH := hheap ha
      have hHR : HR P ρ ⟨(S j).2.t, (S j).2.next, []⟩ w0 w := by rw [← hH]; exact hpost.hr.wl []
      refine op_sound hcf hco.op hargs hHR h2 fun v' w' ρ' hp hv => ?_
      have hpj : Post P ρ ρ' (S m).2 (S (j + 1)).2 w0 w w' := by
        rw [hH, h3]
        exact Post.rewl hp
      exact hK _ _ ⟨hDs', hdown', by rw [put_size, hsz], by rw [put_defers, hdef], j + 1, ρ', by rw [hallen]; omega, hact' ha, hpost.trans hrs hpj, htmp' ρ' v' (hpj.sub hpost.hr) hv⟩
  · rw [hxg] at h1
    rw [h1]
    simp only [Bool.false_eq_true, if_false]
    have hvu : VR ρ (V j) undef := by rw [h2]; exact VR.undef ρ
    cases ha : acts x0.op with
    | false => exact hK _ _ ⟨hDs', hdown', by rw [put_size, hsz], by rw [put_defers, hdef], m, ρ, hml, hidle ha, hpost, htmp' ρ undef (Sub.refl ρ) hvu⟩
    | true =>
      have hSj : (S (j + 1)).2 = (S m).2 := by rw [h3, hheap ha]
      exact hK _ _ ⟨hDs', hdown', by rw [put_size, hsz], by rw [put_defers, hdef], j + 1, ρ, by rw [hallen]; omega, hact' ha, by rw [hSj]; exact hpost, htmp' ρ undef (Sub.refl ρ) hvu⟩
end
end Go.Proofs.Ytffokmamcempgaa.AM

/- A machine of our own: what it answers the given program answers. -/
namespace Go.Proofs.Ytffokmamcempgaa.AM
open Go Go.RowKit
set_option linter.unusedVariables false
set_option linter.unusedSimpArgs false

section
variable {P : Program} {ρ : Ren} {cf : CallF} {T : Tr Value} {H H' : Heap} {a : Act} {w0 w : World} {n : Nat}
def cntF : List Bool → Nat
  | [] => 0
  | true :: l => cntF l
  | false :: l => cntF l + 1
theorem cnt_zero : ∀ (l : List Bool), cntF l = 0 → ∀ (j : Nat) (b : Bool), l[j]? = some b → b = true
  | [], _, j, b, h => by simp at h
  | true :: l, h0, 0, b, h => by simp at h; exact h
  | true :: l, h0, j + 1, b, h => cnt_zero l h0 j b (by simpa using h)
  | false :: l, h0, j, b, h => by simp [cntF] at h0
theorem cnt_set : ∀ (l : List Bool) (j : Nat), l[j]? = some false → cntF l = cntF (l.set j true) + 1
  | [], j, h => by simp at h
  | true :: l, 0, h => by simp at h
  | false :: l, 0, h => rfl
  | true :: l, j + 1, h => cnt_set l j (by simpa using h)
  | false :: l, j + 1, h => by
    simp only [List.set_cons_succ, cntF]
    rw [cnt_set l j (by simpa using h)]
theorem cnt_rep : ∀ k : Nat, cntF (List.replicate k false) = k
  | 0 => rfl
  | k + 1 => by rw [List.replicate_succ]; simp [cntF, cnt_rep k]
theorem ready_all {ops : Array Oper} {D : Array Bool} (hD : D.size = ops.size) (hb : backOk ops.toList = true) (hr : Region.ready .any ops D = []) : ∀ j, j < ops.size → D.getD j false = true := by
  intro j
  induction j using Nat.strongRecOn with
  | _ j ih =>
    intro hj
    cases hd : D.getD j false with
    | true => rfl
    | false =>
      exfalso
      have hmem : j ∈ Region.ready .any ops D := by
        refine mem_ready.2 ⟨?_, ops[j], Array.getElem?_eq_getElem hj, fun e he hbind => ?_⟩
        · rw [Array.getD_eq_getD_getElem?, Array.getElem?_eq_getElem (by omega)] at hd ⊢
          exact hd
        · unfold backOk at hb
          rw [List.all_eq_true] at hb
          have h1 := hb (ops[j], j) (List.mem_of_getElem? (i := j) (by rw [List.getElem?_zipIdx, Array.getElem?_toList, Array.getElem?_eq_getElem hj]; simp))
          simp only at h1
          rw [List.all_eq_true] at h1
          have h2 := h1 e (by simpa using he)
          rw [hbind] at h2
          simp only [Bool.not_true, Bool.or_false] at h2
          have hlt : e.on < j := by simp only [Nat.blt] at h2; exact Nat.le_of_ble_eq_true h2
          exact ih e.on hlt (by omega)
      rw [hr] at hmem
      cases hmem
theorem draw_sound (hm : P.follows .mixedOrders = true) (hcf : CallOk P cf) (hck : CallKeeps cf) {id : Nat} {ops : Array Oper} {l0 : List AOper} {Q : Exit → Act → World → Prop} {T' : Tr Value} (hc : compOps P n ops.toList ops.toList = some l0)
    (hbk : backOk ops.toList = true) (htok : tempsOk ops.toList (waits ops.toList []) = true) (haok : actsOk (waits ops.toList []) (l0.map fun o => acts o.op) = true)
    (hr : drawRun P cf (markFree (waits ops.toList []) (l0.map fun o => acts o.op) (l0.map fun o => looks o.op) 0 l0) [] [] T H = some (T', H')) (h : HR P ρ H w0 w) (ht : TR n ρ T a)
    (hQ : ∀ a' w' ρ', Post P ρ ρ' H H' w0 w w' → TR n ρ' T' a' → a'.defers = a.defers → Q .normal a' w') : (Code.region id ops true).wp P Q a w := by
  obtain ⟨S, V, G, hS0, hS1, htr, _, _⟩ := trace_of _ [] [] T H T' H' hr
  generalize hal : markFree (waits ops.toList []) (l0.map fun o => acts o.op) (l0.map fun o => looks o.op) 0 l0 = al at *
  have hallen : al.length = ops.size := by rw [← hal, mark_len, ← (comp_at hc).1]; simp
  have hdr : Post P ρ ρ H H w0 w { w with drawn := w.drawn + 1 } := Post.drew h ⟨rfl, rfl, rfl⟩ rfl
  have hwf : WF (S 0).2 := by rw [hS0]; exact h.nxt
  have hout : ∀ d, n ≤ d → (S 0).1.get d = none := fun d hd => by rw [hS0]; exact ht.out d hd
  have hrs : HR P ρ (S 0).2 w0 { w with drawn := w.drawn + 1 } := by rw [hS0]; exact hdr.hr
  -- when all has been done
  have finish : ∀ (D : Array Bool) (a' : Act) (w' : World), Inv P n ops al S ρ w0 { w with drawn := w.drawn + 1 } a.defers D a' w' → (∀ j, j < ops.size → D.getD j false = true) → Q .normal a' w' := by
    intro D a' w' hI hall
    obtain ⟨hDs, hdown, hsz, hdef, m, ρ', hml, hact, hpost, htmp⟩ := hI
    have e1 : (S m).2 = H' := by
      have : (S m).2 = (S al.length).2 := htr.heap_eq hml (Nat.le_refl _) fun k y hy hya => by
        rw [← hact k y hy hya]
        have hk : k < al.length := (List.getElem?_eq_some_iff.1 hy).1
        exact ⟨fun _ => hk, fun _ => hall k (by omega)⟩
      rw [this, hS1]
    rw [hS0, e1] at hpost
    refine hQ a' w' ρ' (hdr.trans h hpost) ⟨hsz, fun d hd => ?_, fun d hd => ?_⟩ hdef
    · obtain ⟨i, hi, hiw, hv⟩ := htmp d hd
      have : (S i).1.get d = (S al.length).1.get d := htr.tmp_eq hi (Nat.le_refl _) fun k y hy hyd => by
        rw [← hiw k y hy hyd]
        have hk : k < al.length := (List.getElem?_eq_some_iff.1 hy).1
        exact ⟨fun _ => hk, fun _ => hall k (by omega)⟩
      rw [this, hS1] at hv
      exact hv
    · have : (S 0).1.get d = (S al.length).1.get d := htr.tmp_eq (Nat.zero_le _) (Nat.le_refl _) fun k y hy hyd => by
        exfalso
        have hk : k < al.length := (List.getElem?_eq_some_iff.1 hy).1
        rw [← hal, mark_at] at hy
        simp only [Option.map_eq_some_iff] at hy
        obtain ⟨y0, hy0, rfl⟩ := hy
        obtain ⟨y1, hy1, hco⟩ := (comp_at hc).2 k _ (List.getElem?_eq_getElem (show k < ops.toList.length by rw [(comp_at hc).1]; exact (List.getElem?_eq_some_iff.1 hy0).1))
        rw [hy0] at hy1
        cases hy1
        have := dst_lt hco.lt d (by rw [← hco.dst]; exact hyd)
        omega
      rw [hS1] at this
      rw [← this]
      exact hout d hd
  have main : ∀ (fuel : Nat) (D : Array Bool) (a' : Act) (w' : World), Inv P n ops al S ρ w0 { w with drawn := w.drawn + 1 } a.defers D a' w' → cntF D.toList = fuel → wpAny P .any ops Q fuel D a' w' := by
    intro fuel
    induction fuel with
    | zero =>
      intro D a' w' hI h0
      have hall : ∀ j, j < ops.size → D.getD j false = true := fun j hj => by
        have hjD : j < D.size := by rw [hI.1]; exact hj
        rw [Array.getD_eq_getD_getElem?, Array.getElem?_eq_getElem hjD]
        exact cnt_zero _ h0 j _ (by rw [Array.getElem?_toList, Array.getElem?_eq_getElem hjD, Option.getD_some])
      refine ⟨?_, finish D a' w' hI hall⟩
      cases hrd : Region.ready .any ops D with
      | nil => rfl
      | cons j l =>
        exfalso
        have hj : j ∈ Region.ready .any ops D := by rw [hrd]; exact List.mem_cons_self ..
        obtain ⟨h1, o, ho, _⟩ := mem_ready.1 hj
        have hjlt : j < ops.size := (Array.getElem?_eq_some_iff.1 ho).1
        have h2 := hall j hjlt
        have hjD : j < D.size := by rw [hI.1]; exact hjlt
        rw [Array.getD_eq_getD_getElem?, Array.getElem?_eq_getElem hjD] at h1 h2
        rw [Option.getD_some] at h1 h2
        rw [h1] at h2
        cases h2
    | succ fuel ih =>
      intro D a' w' hI h0
      refine ⟨fun hrd => finish D a' w' hI (ready_all hI.1 hbk hrd), fun j hj => ?_⟩
      have hstep := draw_step (P := P) (n := n) (w0 := w0) (ws := { w with drawn := w.drawn + 1 }) (ρs := ρ) (d0 := a.defers) hcf hck (Q := Q) (S := S) (V := V) (G := G) (D := D) (a := a') (w := w') (K := wpAny P .any ops Q fuel (D.setIfInBounds j true)) hc htok haok (by rw [hal]; exact htr) hout hwf (by rw [hal]; exact hI) hrs hj
      refine hstep fun a'' w'' hI' => ih _ _ _ (by rw [hal] at hI'; exact hI') ?_
      obtain ⟨h1, o, ho, _⟩ := mem_ready.1 hj
      have hjD : j < D.size := by rw [hI.1]; exact (Array.getElem?_eq_some_iff.1 ho).1
      rw [Array.getD_eq_getD_getElem?, Array.getElem?_eq_getElem hjD, Option.getD_some] at h1
      have := cnt_set D.toList j (by rw [Array.getElem?_toList, Array.getElem?_eq_getElem hjD, h1])
      rw [Array.toList_setIfInBounds]
      omega
  refine wp_region_any hm (main ops.size _ a _ ?_ (by rw [Array.toList_replicate]; exact cnt_rep _))
  have hnone : ∀ k, (Array.replicate ops.size false).getD k false = false := fun k => by
    rw [Array.getD_eq_getD_getElem?, Array.getElem?_replicate]
    split <;> rfl
  refine ⟨by simp, fun j o hj => (by rw [hnone] at hj; cases hj), ht.size, rfl, 0, ρ, Nat.zero_le _, fun i x _ _ => by rw [hnone]; simp, by rw [hS0]; exact Post.refl hdr.hr, fun d hd => ⟨0, Nat.zero_le _, fun k x _ _ => by rw [hnone]; simp, ?_⟩⟩
  rw [hS0]
  exact ht.rel d hd

/-! code -/
def exitOf : AExit → Exit
  | .normal => .normal
  | .exit id => .exit id
  | .ret => .ret
/-- Where the machine has come to. -/
def Ends (P : Program) (n : Nat) (ρ : Ren) (H : Heap) (w0 w : World) (d0 : List Deferred) (r : Res) (Q : Exit → Act → World → Prop) : Prop :=
  ∀ a' w' ρ', Post P ρ ρ' H r.2.2 w0 w w' → TR n ρ' r.2.1 a' → a'.defers = d0 → Q (exitOf r.1) a' w'
theorem exec_sound (hm : P.follows .mixedOrders = true) (hcf : CallOk P cf) (hck : CallKeeps cf) (k : Nat) : ∀ (c : Code) (ac : ACode) (T : Tr Value) (H : Heap) (ρ : Ren) (a : Act) (w : World) (r : Res) (Q : Exit → Act → World → Prop),
    comp P n c = some ac → exec P cf k ac T H = some r → HR P ρ H w0 w → TR n ρ T a → Ends P n ρ H w0 w a.defers r Q → c.wp P Q a w := by
  intro c
  induction c with
  | skip =>
    intro ac T H ρ a w r Q hc hr h ht hE
    simp only [comp, Option.some.injEq] at hc
    subst hc
    simp only [exec, Option.some.injEq] at hr
    subst hr
    exact wp_skip (hE a w ρ (Post.refl h) ht rfl)
  | label l =>
    intro ac T H ρ a w r Q hc hr h ht hE
    simp only [comp, Option.some.injEq] at hc
    subst hc
    simp only [exec, Option.some.injEq] at hr
    subst hr
    exact wp_label (hE a w ρ (Post.refl h) ht rfl)
  | region id ops draw =>
    intro ac T H ρ a w r Q hc hr h ht hE
    simp only [comp] at hc
    split at hc <;> (try (cases hc; done))
    · rename_i l hl
      cases hc
      simp only [exec] at hr
      split at hr <;> (try (cases hr; done))
      rename_i T1 H1 hop
      cases hr
      exact region_sound hcf hl hop h ht fun a' w' ρ' hp ht' hd => hE a' w' ρ' hp ht' hd
    · rename_i l hl
      split at hc <;> (try (cases hc; done))
      rename_i hb htk hak
      cases hc
      simp only [exec] at hr
      split at hr <;> (try (cases hr; done))
      rename_i T1 H1 hop
      cases hr
      exact draw_sound hm hcf hck hl hb htk hak hop h ht fun a' w' ρ' hp ht' hd => hE a' w' ρ' hp ht' hd
  | seq x y ihx ihy =>
    intro ac T H ρ a w r Q hc hr h ht hE
    simp only [comp] at hc
    split at hc <;> (try (cases hc; done))
    rename_i ax ay hx hy
    cases hc
    simp only [exec] at hr
    refine wp_seq ?_
    split at hr
    · rename_i T1 H1 hx1
      refine ihx ax T H ρ a w (.normal, T1, H1) _ hx hx1 h ht fun a1 w1 ρ1 hp1 ht1 hd1 => ?_
      refine ihy ay T1 H1 ρ1 a1 w1 r Q hy hr hp1.hr ht1 fun a2 w2 ρ2 hp2 ht2 hd2 => ?_
      exact hE a2 w2 ρ2 (hp1.trans h hp2) ht2 (by rw [hd2, hd1])
    · rename_i hne
      refine ihx ax T H ρ a w r _ hx hr h ht fun a1 w1 ρ1 hp1 ht1 hd1 => ?_
      have := hE a1 w1 ρ1 hp1 ht1 hd1
      obtain ⟨e, T1, H1⟩ := r
      cases e with
      | normal => exact absurd hr (hne T1 H1)
      | exit id => exact this
      | ret => exact this
  | cond c x y ihx ihy =>
    intro ac T H ρ a w r Q hc hr h ht hE
    simp only [comp] at hc
    split at hc <;> (try (cases hc; done))
    rename_i ca ax ay hca hx hy
    cases hc
    simp only [exec] at hr
    have hrel := ht.args c ca hca
    split at hr <;> (try (cases hr; done))
    · rename_i hb
      rw [hb] at hrel
      generalize hcv : a.eval c = cv at hrel
      cases hrel
      exact wp_cond_true hcv (ihx ax T H ρ a w r Q hx hr h ht hE)
    · rename_i hb
      rw [hb] at hrel
      generalize hcv : a.eval c = cv at hrel
      cases hrel
      exact wp_cond_false hcv (ihy ay T H ρ a w r Q hy hr h ht hE)
  | block id b ih =>
    intro ac T H ρ a w r Q hc hr h ht hE
    simp only [comp, Option.map_eq_some_iff] at hc
    obtain ⟨ab, hb, rfl⟩ := hc
    simp only [exec] at hr
    refine wp_block ?_
    split at hr
    · rename_i i T1 H1 hb1
      refine ih ab T H ρ a w (.exit i, T1, H1) _ hb hb1 h ht fun a1 w1 ρ1 hp1 ht1 hd1 => ?_
      split at hr
      · rename_i hi
        cases hr
        have hii := Nat.eq_of_beq_eq_true hi
        subst hii
        show (if i = i then Q .normal a1 w1 else Q (.exit i) a1 w1)
        rw [if_pos rfl]
        exact hE a1 w1 ρ1 hp1 ht1 hd1
      · rename_i hi
        cases hr
        show (if i = id then Q .normal a1 w1 else Q (.exit i) a1 w1)
        rw [if_neg (fun e => by rw [e, Nat.beq_refl] at hi; cases hi)]
        exact hE a1 w1 ρ1 hp1 ht1 hd1
    · rename_i hne
      refine ih ab T H ρ a w r _ hb hr h ht fun a1 w1 ρ1 hp1 ht1 hd1 => ?_
      have := hE a1 w1 ρ1 hp1 ht1 hd1
      obtain ⟨e, T1, H1⟩ := r
      cases e with
      | normal => exact this
      | exit i => exact absurd hr (hne i T1 H1)
      | ret => exact this
  | loop b ih =>
    intro ac T H ρ a w r Q hc hr h ht hE
    simp only [comp, Option.map_eq_some_iff] at hc
    obtain ⟨ab, hb, rfl⟩ := hc
    simp only [exec] at hr
    have rounds : ∀ (j : Nat) (T : Tr Value) (H : Heap) (ρ : Ren) (a : Act) (w : World), iter (exec P cf k ab) j T H = some r → HR P ρ H w0 w → TR n ρ T a → Ends P n ρ H w0 w a.defers r Q → Code.rounds P b Q j a w := by
      intro j
      induction j with
      | zero => intro T H ρ a w hr; simp [iter] at hr
      | succ j ihj =>
        intro T H ρ a w hr h ht hE
        rw [rounds_succ]
        simp only [iter] at hr
        split at hr
        · rename_i T1 H1 h1
          refine ih ab T H ρ a w (.normal, T1, H1) _ hb h1 h ht fun a1 w1 ρ1 hp1 ht1 hd1 => ?_
          exact ihj T1 H1 ρ1 a1 w1 hr hp1.hr ht1 fun a2 w2 ρ2 hp2 ht2 hd2 => hE a2 w2 ρ2 (hp1.trans h hp2) ht2 (by rw [hd2, hd1])
        · rename_i hne
          refine ih ab T H ρ a w r _ hb hr h ht fun a1 w1 ρ1 hp1 ht1 hd1 => ?_
          have := hE a1 w1 ρ1 hp1 ht1 hd1
          obtain ⟨e, T1, H1⟩ := r
          cases e with
          | normal => exact absurd hr (hne T1 H1)
          | exit i => exact this
          | ret => exact this
    exact wp_loop_rounds k (rounds k T H ρ a w hr h ht hE)
  | exit id =>
    intro ac T H ρ a w r Q hc hr h ht hE
    simp only [comp, Option.some.injEq] at hc
    subst hc
    simp only [exec, Option.some.injEq] at hr
    subst hr
    exact wp_exit (hE a w ρ (Post.refl h) ht rfl)
  | ret =>
    intro ac T H ρ a w r Q hc hr h ht hE
    simp only [comp, Option.some.injEq] at hc
    subst hc
    simp only [exec, Option.some.injEq] at hr
    subst hr
    exact wp_ret (hE a w ρ (Post.refl h) ht rfl)
  | scope b ih =>
    intro ac T H ρ a w r Q hc hr h ht hE
    simp only [comp, Option.map_eq_some_iff] at hc
    obtain ⟨ab, hb, rfl⟩ := hc
    simp only [exec] at hr
    refine wp_scope_straight (ih ab T H ρ a w r _ hb hr h ht fun a1 w1 ρ1 hp1 ht1 hd1 => ?_)
    have := hE a1 w1 ρ1 hp1 ht1 hd1
    obtain ⟨e, T1, H1⟩ := r
    cases e <;> exact this
  | goto l => intro ac T H ρ a w r Q hc; simp [comp] at hc
  | rangeFunc f ps x y ihx ihy => intro ac T H ρ a w r Q hc; simp [comp] at hc
  | refuse s => intro ac T H ρ a w r Q hc; simp [comp] at hc
end
end Go.Proofs.Ytffokmamcempgaa.AM

/- A machine of our own: what it answers to a call the given program answers. -/
namespace Go.Proofs.Ytffokmamcempgaa.AM
open Go Go.RowKit
set_option linter.unusedVariables false
set_option linter.unusedSimpArgs false

section
variable {P : Program} {ρ : Ren} {cf : CallF} {T : Tr Value} {H H' : Heap} {a : Act} {w0 w : World} {n : Nat}
theorem ops_keeps (hck : CallKeeps cf) : ∀ (l : List AOper) (T : Tr Value) (H : Heap) (T' : Tr Value) (H' : Heap), opsRun P cf l T H = some (T', H') → Keeps H H'
  | [], T, H, T', H', h => by simp only [opsRun, Option.some.injEq, Prod.mk.injEq] at h; obtain ⟨_, rfl⟩ := h; exact Keeps.refl _
  | o :: l, T, H, T', H', h => by
    simp only [opsRun] at h
    split at h
    · split at h <;> (try (cases h; done))
      rename_i v H1 h1
      exact (op_keeps hck h1).trans (ops_keeps hck l _ _ _ _ h)
    · exact ops_keeps hck l _ _ _ _ h
theorem draw_keeps (hck : CallKeeps cf) {l : List AOper} {R W : List Nat} {T' : Tr Value} (h : drawRun P cf l R W T H = some (T', H')) : Keeps H H' := by
  obtain ⟨S, V, G, h0, h1, ht, _, _⟩ := trace_of l R W T H T' H' h
  have := ht.keeps hck l.length (i := 0) (by omega)
  rw [Nat.zero_add, h0, h1] at this
  exact this
theorem exec_keeps (hck : CallKeeps cf) (k : Nat) : ∀ (ac : ACode) (T : Tr Value) (H : Heap) (r : Res), exec P cf k ac T H = some r → Keeps H r.2.2 := by
  intro ac
  induction ac with
  | skip => intro T H r h; simp only [exec, Option.some.injEq] at h; subst h; exact Keeps.refl _
  | ops l => intro T H r h; simp only [exec] at h; split at h <;> (try (cases h; done)); rename_i h1; cases h; exact ops_keeps hck _ _ _ _ _ h1
  | draw l => intro T H r h; simp only [exec] at h; split at h <;> (try (cases h; done)); rename_i h1; cases h; exact draw_keeps hck h1
  | seq x y ihx ihy =>
    intro T H r h
    simp only [exec] at h
    split at h
    · rename_i h1; exact (ihx _ _ _ h1).trans (ihy _ _ _ h)
    · exact ihx _ _ _ h
  | cond c x y ihx ihy =>
    intro T H r h
    simp only [exec] at h
    split at h <;> (try (cases h; done))
    · exact ihx _ _ _ h
    · exact ihy _ _ _ h
  | block id b ih =>
    intro T H r h
    simp only [exec] at h
    split at h
    · rename_i h1
      have hk := ih _ _ _ h1
      split at h <;> cases h <;> exact hk
    · exact ih _ _ _ h
  | loop b ih =>
    intro T H r h
    simp only [exec] at h
    have rounds : ∀ (j : Nat) (T : Tr Value) (H : Heap), iter (exec P cf k b) j T H = some r → Keeps H r.2.2 := by
      intro j
      induction j with
      | zero => intro T H h; simp [iter] at h
      | succ j ihj =>
        intro T H h
        simp only [iter] at h
        split at h
        · rename_i h1; exact (ih _ _ _ h1).trans (ihj _ _ h)
        · exact ih _ _ _ h
    exact rounds k T H h
  | scope b ih => intro T H r h; exact ih _ _ _ h
  | exit id => intro T H r h; simp only [exec, Option.some.injEq] at h; subst h; exact Keeps.refl _
  | ret => intro T H r h; simp only [exec, Option.some.injEq] at h; subst h; exact Keeps.refl _
/-- What is known of the functions. -/
structure EnvOk (P : Program) (E : Env) : Prop where
  mixed : P.follows .mixedOrders = true
  fn : ∀ f af, E.fn f = some af → ∃ fn, P.funcs[f]? = some fn ∧ (fn.name == "runtime.NumGoroutine") = false ∧ compF P fn = some af
  ext : ∀ f g, E.ext f = some g → (∃ fn, P.funcs[f]? = some fn ∧ (fn.name == "runtime.NumGoroutine") = false ∧ fn.body.isNone = false) ∧
    ∀ args H v H', g args H = some (v, H') → Keeps H H' ∧ ∀ ρ w0 w args', HR P ρ H w0 w → LR ρ args args' → Calls P f ⟨args'⟩ w fun e w' => ∃ v' ρ', e = .returned v' ∧ Post P ρ ρ' H H' w0 w w' ∧ VR ρ' v v'
theorem call_keeps {E : Env} (hE : EnvOk P E) : ∀ m, CallKeeps (callN P E m)
  | 0 => fun f args H v H' h => by simp [callN] at h
  | m + 1 => fun f args H v H' h => by
    simp only [callN] at h
    split at h
    · rename_i g hg; exact ((hE.ext f g hg).2 args H v H' h).1
    · split at h <;> (try (cases h; done))
      split at h <;> (try (cases h; done))
      split at h <;> (try (cases h; done))
      rename_i hx
      simp only [Option.map_eq_some_iff, Prod.mk.injEq] at h
      obtain ⟨u, _, _, rfl⟩ := h
      exact exec_keeps (call_keeps hE m) _ _ _ _ _ hx
theorem args_get : ∀ (l : List Value) (i : Nat) (T : Tr Value) (d : Nat), (argsT i l T).get d = if i ≤ d ∧ d < i + l.length then l[d - i]? else T.get d
  | [], i, T, d => by rw [argsT, if_neg (by simp only [List.length_nil]; omega)]
  | v :: l, i, T, d => by
    rw [argsT, args_get l (i + 1) _ d, List.length_cons]
    by_cases h : d = i
    · subst h
      rw [if_neg (by omega), if_pos (by omega), Tr.get_set, if_pos rfl, Nat.sub_self]
      rfl
    · rw [Tr.get_set, if_neg h]
      by_cases h2 : i ≤ d ∧ d < i + (l.length + 1)
      · rw [if_pos (by omega), if_pos h2, show d - i = (d - (i + 1)) + 1 by omega, List.getElem?_cons_succ]
      · rw [if_neg (by omega), if_neg h2]
theorem start_TR {args args' : List Value} (h : LR ρ args args') (hl : args.length ≤ n) (d0 : List Deferred) : TR n ρ (argsT 0 args .nil) { tmps := (⟨args'⟩ : Array Value) ++ Array.replicate (n - (⟨args'⟩ : Array Value).size) undef, defers := d0 } := by
  have hlen := h.1
  have hn : ∀ d, Tr.get (.nil : Tr Value) d = none := fun d => rfl
  refine ⟨by simp; omega, fun d hd => ?_, fun d hd => ?_⟩
  · rw [args_get]
    simp only [Nat.zero_le, true_and, Nat.zero_add, Nat.sub_zero]
    rw [Array.getD_eq_getD_getElem?]
    by_cases hda : d < args.length
    · rw [if_pos hda, Array.getElem?_append_left (by simp; omega)]
      have h1 := List.getElem?_eq_getElem hda
      have h2 := List.getElem?_eq_getElem (show d < args'.length by omega)
      rw [h1, show (⟨args'⟩ : Array Value)[d]? = args'[d]? by simp, h2]
      exact h.2 d _ _ h1 h2
    · rw [if_neg hda, hn, Array.getElem?_append_right (by simp; omega), Array.getElem?_replicate]
      simp only [List.size_toArray]
      rw [if_pos (by omega)]
      exact VR.undef ρ
  · rw [args_get, if_neg (by omega)]
    exact hn d
def resRun (tmps : Array Value) : ResultVar → Sem Value
  | .tmp t => pure (tmps.getD t undef)
  | .cell a t => do loadVar t (← asAddr (tmps.getD a undef))
theorem res_run (ht : TR n ρ T a) (h : HR P ρ H w0 w) : ∀ (rs : List ResultVar) (ars : List ARes) (vs : List Value), compRes P rs = some ars → resOf T H ars = some vs → ∃ vs', (rs.mapM (resRun a.tmps)).run P w = .ok vs' w ∧ LR ρ vs vs'
  | [], ars, vs, hc, hr => by
    simp only [compRes, Option.some.injEq] at hc
    subst hc
    simp only [resOf, Option.some.injEq] at hr
    subst hr
    exact ⟨[], rfl, LR.nil ρ⟩
  | .tmp t :: rs, ars, vs, hc, hr => by
    simp only [compRes, Option.map_eq_some_iff] at hc
    obtain ⟨r, hr0, rfl⟩ := hc
    simp only [resOf, Option.map_eq_some_iff] at hr
    obtain ⟨us, hus, rfl⟩ := hr
    obtain ⟨vs', h1, h2⟩ := res_run ht h rs r us hr0 hus
    refine ⟨a.tmps.getD t undef :: vs', ?_, LR.cons (ht.all t) h2⟩
    rw [List.mapM_cons]
    simp only [resRun, Sem.run_bind, Sem.run_pure, Result.andThen_ok, h1]
  | .cell b t :: rs, ars, vs, hc, hr => by
    simp only [compRes] at hc
    split at hc <;> (try (cases hc; done))
    rename_i nn r hnn hr0
    cases hc
    simp only [resOf] at hr
    split at hr <;> (try (cases hr; done))
    rename_i blk off hb
    split at hr <;> (try (cases hr; done))
    rename_i own e cs hg
    simp only [Option.bind_eq_some_iff, Option.map_eq_some_iff] at hr
    obtain ⟨v, hv, us, hus, rfl⟩ := hr
    obtain ⟨vs', h1, h2⟩ := res_run ht h rs r us hr0 hus
    have hrel := ht.all b
    rw [hb] at hrel
    obtain ⟨_, v', h3, h4⟩ := load_run (H' := H) hnn hrel h (v := v) (by simp only [oLoad, hg, hv, up])
    refine ⟨v' :: vs', ?_, LR.cons h4 h2⟩
    rw [List.mapM_cons]
    have h5 : (resRun a.tmps (.cell b t)).run P w = .ok v' w := by
      simp only [resRun]
      generalize a.tmps.getD b undef = u at hrel h3
      cases hrel with
      | ptr _ _ l hl =>
        simp only [Instr.loadAt, Instr.sureAddr, Sem.run_bind, Sem.run_pure, Result.andThen_ok] at h3
        simp only [asAddr, Sem.run_bind, Sem.run_pure, Result.andThen_ok, h3]
    simp only [Sem.run_bind, h5, Result.andThen_ok, h1, Sem.run_pure]
theorem call_sound_all {E : Env} (hE : EnvOk P E) : ∀ m, CallOk P (callN P E m)
  | 0 => fun f args H v H' h => by simp [callN] at h
  | m + 1 => fun f args H v H' h => by
    simp only [callN] at h
    split at h
    · rename_i g hg
      obtain ⟨h1, h2⟩ := hE.ext f g hg
      exact ⟨h1, (h2 args H v H' h).2⟩
    · rename_i hne
      split at h <;> (try (cases h; done))
      rename_i af haf
      obtain ⟨fn, hfn, hname, hcf⟩ := hE.fn f af haf
      unfold compF at hcf
      split at hcf <;> (try (cases hcf; done))
      rename_i c hbody
      split at hcf <;> (try (cases hcf; done))
      rename_i b r hb hrs
      cases hcf
      split at h <;> (try (cases h; done))
      rename_i hlen
      have hlen' : args.length ≤ fn.ntmps := Nat.le_of_ble_eq_true hlen
      refine ⟨⟨fn, hfn, hname, by rw [hbody]; rfl⟩, fun ρ w0 w args' hr hl => ?_⟩
      split at h <;> (try (cases h; done))
      rename_i ex T1 H1 hne' hx
      simp only [Option.map_eq_some_iff, Prod.mk.injEq] at h
      obtain ⟨u, hu, rfl, rfl⟩ := h
      refine calls_of_wp hfn hbody ?_
      refine exec_sound hE.mixed (call_sound_all hE m) (call_keeps hE m) E.rounds c b _ H ρ _ w _ _ hb hx hr (start_TR hl hlen' []) fun a' w' ρ' hp ht hd => ?_
      have hres : ∃ v', (results fn a'.tmps).run P w' = .ok v' w' ∧ VR ρ' u v' := by
        unfold result at hu
        have hmap : (fn.results.mapM (resRun a'.tmps)).run P w' = ((fn.results.toList.mapM (resRun a'.tmps)).run P w').andThen fun x w => .ok x.toArray w := by
          conv => lhs; rw [← Array.toArray_toList (xs := fn.results), List.mapM_toArray]
          simp only [Sem.run_map]
        have hresults : (results fn a'.tmps).run P w' = ((fn.results.mapM (resRun a'.tmps)).run P w').andThen fun vs w => .ok (if h : vs.size = 1 then vs[0] else .tuple vs) w := by
          have hfun : results fn a'.tmps = (do let vs ← fn.results.mapM (resRun a'.tmps); pure (if h : vs.size = 1 then vs[0] else .tuple vs)) := by
            unfold results
            congr 1
          rw [hfun]
          simp only [Sem.run_bind, Sem.run_pure]
        split at hu <;> (try (cases hu; done))
        · rename_i u' hru
          cases hu
          obtain ⟨vs', h1, h2⟩ := res_run ht hp.hr _ _ _ hrs hru
          obtain ⟨v', us, rfl, h3, h4⟩ := h2.inv
          have hnil : us = [] := by have := h4.1; simpa using this.symm
          subst hnil
          exact ⟨v', by rw [hresults, hmap, h1]; rfl, h3⟩
        · rename_i vs hne2 hru
          cases hu
          obtain ⟨vs', h1, h2⟩ := res_run ht hp.hr _ _ _ hrs hru
          refine ⟨.tuple ⟨vs'⟩, ?_, h2.tuple⟩
          rw [hresults, hmap, h1]
          simp only [Result.andThen_ok]
          rw [dif_neg (fun e => ?_)]
          have : vs.length = 1 := by rw [h2.1]; simpa using e
          match vs, this with
          | [x], _ => exact hne2 x rfl
      obtain ⟨v', h1, h2⟩ := hres
      have hfin : a'.defers = [] ∧ ∃ v, (results fn a'.tmps).run P w' = .ok v w' ∧ ∃ v' ρ', Ending.returned v = .returned v' ∧ Post P ρ ρ' H H1 w0 w w' ∧ VR ρ' u v' := ⟨hd, v', h1, v', ρ', rfl, hp, h2⟩
      cases ex with
      | normal => exact hfin
      | exit id => exact (hne' id rfl).elim
      | ret => exact hfin
end
end Go.Proofs.Ytffokmamcempgaa.AM
