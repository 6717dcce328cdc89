/- The least graph of words, as it is built: rests, nodes, edges. (Plain facts.) -/
import Derived.Test.YtffokmamcempgaaQW
import Derived.Lib.Join
namespace Go.Proofs.Ytffokmamcempgaa.P
open Go Go.RowKit
set_option linter.unusedVariables false
set_option linter.unusedSimpArgs false
structure Nd where
  fin : Bool
  es : List (Int × Nat)
def nd0 : Nd := ⟨false, []⟩
abbrev St := List (List Str × Nd)
def isP (p l : Str) : Bool := p.isPrefixOf l
/-- The first rune's bytes. -/
def hd (l : Str) : Str := l.take (dec l).2
/-- The groups of rests by their first runes: the rune, the rests behind it. -/
def groups : Nat → List Str → List (Int × List Str)
  | 0, _ => []
  | _ + 1, [] => []
  | f + 1, r :: l => (((dec r).1 : Int), ((r :: l).takeWhile (isP (hd r))).map (·.drop (dec r).2)) :: groups f ((r :: l).dropWhile (isP (hd r)))
def fins (rests : List Str) : Bool := decide (rests.head? = some [])
def body (rests : List Str) : List Str := if fins rests then rests.tail else rests
def grs (rests : List Str) : List (Int × List Str) := groups (body rests).length (body rests)
/-- The calls, one behind the other. -/
def bldL (b : List Str → St → Nat × St) : List (Int × List Str) → St → List (Int × Nat) × St
  | [], st => ([], st)
  | (c, l) :: gs, st => let r := b l st; let q := bldL b gs r.2; ((c, r.1) :: q.1, q.2)
def findR (st : St) (rests : List Str) : Option Nat := st.findIdx? fun e => decide (e.1 = rests)
/-- The node of some rests. -/
def bld : Nat → List Str → St → Nat × St
  | 0, _, st => (0, st)
  | f + 1, rests, st => match findR st rests with
    | some i => (i, st)
    | none => let q := bldL (bld f) (grs rests) (st ++ [(rests, nd0)]); (st.length, q.2.set st.length (rests, ⟨fins rests, q.1⟩))
def tot (rests : List Str) : Nat := (rests.map List.length).sum
theorem tot_append (a b : List Str) : tot (a ++ b) = tot a + tot b := by simp [tot]
theorem hd_isP {r : Str} : isP (hd r) r = true := by
  unfold isP hd
  exact List.isPrefixOf_iff_prefix.2 (List.take_prefix _ _)
/-- How many, and how long, what is behind is: so much that nodes never are too many. -/
theorem groups_tot : ∀ (f : Nat) (l : List Str), (∀ r ∈ l, r ≠ []) → ((groups f l).map fun g => 1 + tot g.2).sum ≤ tot l
  | 0, l, h => by simp [groups]
  | _ + 1, [], h => by simp [groups]
  | f + 1, r :: l, h => by
    have ih := groups_tot f ((r :: l).dropWhile (isP (hd r))) fun x hx => h x ((List.dropWhile_sublist _).subset hx)
    have hsp := List.takeWhile_append_dropWhile (p := isP (hd r)) (l := r :: l)
    have ht : tot (r :: l) = tot ((r :: l).takeWhile (isP (hd r))) + tot ((r :: l).dropWhile (isP (hd r))) := by rw [← tot_append, hsp]
    have hw : (r :: l).takeWhile (isP (hd r)) = r :: l.takeWhile (isP (hd r)) := by rw [List.takeWhile_cons, if_pos hd_isP]
    have hsub : ∀ x ∈ (r :: l).takeWhile (isP (hd r)), x ≠ [] := fun x hx => h x ((List.takeWhile_sublist _).subset hx)
    have hd1 := dec_width r
    have key : ∀ (m : List Str), (∀ x ∈ m, x ≠ []) → tot (m.map (·.drop (dec r).2)) + m.length ≤ tot m := by
      intro m
      induction m with
      | nil => intro _; simp [tot]
      | cons x m ih2 =>
        intro hm
        have h1 := ih2 fun y hy => hm y (List.mem_cons_of_mem _ hy)
        have h2 : 0 < x.length := List.length_pos_iff.2 (hm x List.mem_cons_self)
        have h3 : (x.drop (dec r).2).length + 1 ≤ x.length := by rw [List.length_drop]; omega
        simp only [tot, List.map_cons, List.sum_cons, List.length_cons] at h1 ⊢
        omega
    have hk := key _ hsub
    have hlen : 1 ≤ ((r :: l).takeWhile (isP (hd r))).length := by rw [hw]; simp
    rw [groups, List.map_cons, List.sum_cons]
    simp only
    omega
theorem tail_tot (rests : List Str) : tot (body rests) ≤ tot rests := by
  unfold body
  split
  · cases rests with
    | nil => simp
    | cons r l => simp [tot]
  · exact Nat.le_refl _
theorem mem_tw {α : Type} {p : α → Bool} {x : α} : ∀ {l : List α}, x ∈ l.takeWhile p → p x = true
  | [], h => by cases h
  | y :: l, h => by
    rw [List.takeWhile_cons] at h
    split at h
    · rename_i hy
      rcases List.mem_cons.1 h with rfl | h
      · exact hy
      · exact mem_tw h
    · cases h
abbrev lt (a b : Str) : Prop := Lib.compareBytes a b < 0
theorem cmp_pre : ∀ (p a b : Str), Lib.compareBytes (p ++ a) (p ++ b) = Lib.compareBytes a b
  | [], a, b => rfl
  | x :: p, a, b => by
    rw [List.cons_append, List.cons_append, Lib.compareBytes]
    simp only [Nat.lt_irrefl, if_false, UInt8.lt_irrefl]
    exact cmp_pre p a b
theorem not_lt_nil (a : Str) : ¬ lt a [] := by
  unfold lt
  cases a <;> simp [Lib.compareBytes]
/-- Rests that may be: well made, rising. -/
structure Rs (rests : List Str) : Prop where
  ne : rests ≠ []
  val : ∀ r ∈ rests, Val r
  up : rests.Pairwise lt
theorem Rs.tl {rests : List Str} (h : Rs rests) : ∀ r ∈ rests.tail, r ≠ [] := by
  cases rests with
  | nil => intro r hr; cases hr
  | cons a l =>
    intro r hr e
    subst e
    exact not_lt_nil a ((List.pairwise_cons.1 h.up).1 [] hr)
/-- Texts that may be taken apart by their first runes. -/
structure Bd (l : List Str) : Prop where
  val : ∀ r ∈ l, Val r ∧ r ≠ []
  up : l.Pairwise lt
theorem Rs.body {rests : List Str} (h : Rs rests) : Bd (body rests) := by
  refine ⟨fun r hr => ?_, ?_⟩
  · unfold P.body fins at hr
    split at hr
    · exact ⟨h.val r (List.mem_of_mem_tail hr), h.tl r hr⟩
    · rename_i hf
      refine ⟨h.val r hr, ?_⟩
      have htl := h.tl
      cases rests with
      | nil => cases hr
      | cons a l =>
        rcases List.mem_cons.1 hr with rfl | hr
        · intro e; subst e; simp at hf
        · exact htl r hr
  · unfold P.body
    split
    · exact h.up.sublist (List.tail_sublist _)
    · exact h.up
theorem groups_fuel : ∀ (f f' : Nat) (l : List Str), l.length ≤ f → l.length ≤ f' → groups f l = groups f' l
  | 0, f', l, h, _ => by
    have : l = [] := List.length_eq_zero_iff.1 (by omega)
    subst this
    cases f' <;> rfl
  | f + 1, 0, l, _, h => by
    have : l = [] := List.length_eq_zero_iff.1 (by omega)
    subst this
    rfl
  | f + 1, f' + 1, [], _, _ => rfl
  | f + 1, f' + 1, r :: l, h, h' => by
    have hw : ((r :: l).dropWhile (isP (hd r))).length ≤ l.length := by
      rw [List.dropWhile_cons, if_pos hd_isP]
      exact (List.dropWhile_sublist _).length_le
    simp only [List.length_cons] at h h'
    rw [groups, groups, groups_fuel f f' _ (by omega) (by omega)]
theorem hd_len {r : Str} (h : Val r) (hn : r ≠ []) : (hd r).length = (dec r).2 := by
  unfold hd
  rw [List.length_take, Nat.min_eq_left (h.step hn).1.len]
theorem grp_tot {r : Str} {l : List Str} (h : ∀ x ∈ r :: l, x ≠ []) : 1 + tot (((r :: l).takeWhile (isP (hd r))).map (·.drop (dec r).2)) + tot ((r :: l).dropWhile (isP (hd r))) ≤ tot (r :: l) := by
  have hsp := List.takeWhile_append_dropWhile (p := isP (hd r)) (l := r :: l)
  have ht : tot (r :: l) = tot ((r :: l).takeWhile (isP (hd r))) + tot ((r :: l).dropWhile (isP (hd r))) := by rw [← tot_append, hsp]
  have hw : (r :: l).takeWhile (isP (hd r)) = r :: l.takeWhile (isP (hd r)) := by rw [List.takeWhile_cons, if_pos hd_isP]
  have hsub : ∀ x ∈ (r :: l).takeWhile (isP (hd r)), x ≠ [] := fun x hx => h x ((List.takeWhile_sublist _).subset hx)
  have hd1 := dec_width r
  have key : ∀ (m : List Str), (∀ x ∈ m, x ≠ []) → tot (m.map (·.drop (dec r).2)) + m.length ≤ tot m := by
    intro m
    induction m with
    | nil => intro _; simp [tot]
    | cons x m ih2 =>
      intro hm
      have h1 := ih2 fun y hy => hm y (List.mem_cons_of_mem _ hy)
      have h2 : 0 < x.length := List.length_pos_iff.2 (hm x List.mem_cons_self)
      have h3 : (x.drop (dec r).2).length + 1 ≤ x.length := by rw [List.length_drop]; omega
      simp only [tot, List.map_cons, List.sum_cons, List.length_cons] at h1 ⊢
      omega
  have hk := key _ hsub
  have hlen : 1 ≤ ((r :: l).takeWhile (isP (hd r))).length := by rw [hw]; simp
  omega
/-- A group of texts. -/
theorem grp_ok {r : Str} {l : List Str} (h : Bd (r :: l)) : Rs (((r :: l).takeWhile (isP (hd r))).map (·.drop (dec r).2)) ∧ Bd ((r :: l).dropWhile (isP (hd r))) ∧
    (∀ x ∈ (r :: l).takeWhile (isP (hd r)), hd r ++ x.drop (dec r).2 = x) ∧ ∀ x ∈ ((r :: l).takeWhile (isP (hd r))).map (·.drop (dec r).2), ∃ y ∈ r :: l, x.length < y.length := by
  obtain ⟨hv, hn⟩ := h.val r List.mem_cons_self
  obtain ⟨ho, hv2, hne⟩ := hv.step hn
  have hl := hd_len hv hn
  have hpre : ∀ x ∈ (r :: l).takeWhile (isP (hd r)), hd r ++ x.drop (dec r).2 = x := fun x hx => by
    have h1 : isP (hd r) x = true := mem_tw hx
    obtain ⟨t, rfl⟩ := List.isPrefixOf_iff_prefix.1 h1
    rw [← hl, List.drop_left]
  have hsub := (List.takeWhile_sublist (isP (hd r)) (l := r :: l))
  refine ⟨⟨?_, ?_, ?_⟩, ⟨fun x hx => h.val x ((List.dropWhile_sublist _).subset hx), h.up.sublist (List.dropWhile_sublist _)⟩, hpre, ?_⟩
  · rw [List.takeWhile_cons, if_pos hd_isP]; simp
  · intro x hx
    obtain ⟨y, hy, rfl⟩ := List.mem_map.1 hx
    obtain ⟨yv, yn⟩ := h.val y (hsub.subset hy)
    have hd1 := (yv.step yn).2.1
    have h1 : isP (hd r) y = true := mem_tw hy
    rw [ho.same y (List.isPrefixOf_iff_prefix.1 h1)] at hd1
    exact hd1
  · rw [List.pairwise_map]
    refine (h.up.sublist hsub).imp_of_mem fun {a b} ha hb hab => ?_
    show Lib.compareBytes _ _ < 0
    rw [← cmp_pre (hd r), hpre a ha, hpre b hb]
    exact hab
  · intro x hx
    obtain ⟨y, hy, rfl⟩ := List.mem_map.1 hx
    refine ⟨y, hsub.subset hy, ?_⟩
    have hp := ho.pos
    have := congrArg List.length (hpre y hy)
    rw [List.length_append, hl] at this
    omega
/-! how many nodes there are -/
theorem bldL_len {b : List Str → St → Nat × St} : ∀ (gs : List (Int × List Str)) (st : St), (∀ g ∈ gs, ∀ st : St, (b g.2 st).2.length ≤ st.length + 1 + tot g.2) → (bldL b gs st).2.length ≤ st.length + (gs.map fun g => 1 + tot g.2).sum
  | [], st, _ => by simp [bldL]
  | (c, l) :: gs, st, h => by
    have h1 := h (c, l) List.mem_cons_self st
    have h2 := bldL_len gs (b l st).2 fun g hg => h g (List.mem_cons_of_mem _ hg)
    simp only [bldL, List.map_cons, List.sum_cons] at h1 h2 ⊢
    omega
theorem groups_mem : ∀ (f : Nat) (l : List Str), Bd l → ∀ g ∈ groups f l, Rs g.2 ∧ ∀ x ∈ g.2, ∃ y ∈ l, x.length < y.length
  | 0, l, h, g, hg => by simp [groups] at hg
  | _ + 1, [], h, g, hg => by simp [groups] at hg
  | f + 1, r :: l, h, g, hg => by
    obtain ⟨h1, h2, h3, h4⟩ := grp_ok h
    rw [groups] at hg
    rcases List.mem_cons.1 hg with rfl | hg
    · exact ⟨h1, h4⟩
    · obtain ⟨k1, k2⟩ := groups_mem f _ h2 g hg
      exact ⟨k1, fun x hx => by obtain ⟨y, hy, hxy⟩ := k2 x hx; exact ⟨y, (List.dropWhile_sublist _).subset hy, hxy⟩⟩
theorem bld_len : ∀ (f : Nat) (rests : List Str) (st : St), Rs rests → (bld f rests st).2.length ≤ st.length + 1 + tot rests
  | 0, rests, st, h => by simp [bld]; omega
  | f + 1, rests, st, h => by
    unfold bld
    split
    · simp; omega
    · have hb := h.body
      have h1 := bldL_len (b := bld f) (grs rests) (st ++ [(rests, nd0)]) fun g hg st => bld_len f g.2 st (groups_mem _ _ hb g hg).1
      have h2 := groups_tot (body rests).length (body rests) fun r hr => (hb.val r hr).2
      have h3 := tail_tot rests
      simp only [List.length_set, List.length_append, List.length_cons, List.length_nil] at h1 ⊢
      unfold grs at h1 ⊢
      omega
/-! keys -/
def key (rests : List Str) : Str := Lib.join rests [255]
theorem join_inj : ∀ (a b : List Str), (∀ r ∈ a, ∀ x ∈ r, x ≠ 255) → (∀ r ∈ b, ∀ x ∈ r, x ≠ 255) → a ≠ [] → b ≠ [] → key a = key b → a = b := by
  have split1 : ∀ (x y s t : Str), (∀ c ∈ x, c ≠ 255) → (∀ c ∈ y, c ≠ 255) → x ++ 255 :: s = y ++ 255 :: t → x = y ∧ s = t := by
    intro x
    induction x with
    | nil =>
      intro y s t _ hy h
      cases y with
      | nil => exact ⟨rfl, by simpa using h⟩
      | cons c y => simp only [List.nil_append, List.cons_append, List.cons.injEq] at h; exact (hy c List.mem_cons_self h.1.symm).elim
    | cons c x ih =>
      intro y s t hx hy h
      cases y with
      | nil => simp only [List.nil_append, List.cons_append, List.cons.injEq] at h; exact (hx c List.mem_cons_self h.1).elim
      | cons d y =>
        simp only [List.cons_append, List.cons.injEq] at h
        obtain ⟨rfl, h⟩ := h
        obtain ⟨h1, h2⟩ := ih y s t (fun e he => hx e (List.mem_cons_of_mem _ he)) (fun e he => hy e (List.mem_cons_of_mem _ he)) h
        exact ⟨by rw [h1], h2⟩
  have not1 : ∀ (x y s : Str), (∀ c ∈ x, c ≠ 255) → x ≠ y ++ 255 :: s := by
    intro x y s hx e
    exact hx 255 (by rw [e]; simp) rfl
  have jc : ∀ (x y : Str) (l : List Str), key (x :: y :: l) = x ++ 255 :: key (y :: l) := by
    intro x y l
    unfold key
    rw [Lib.join_cons, Lib.join_cons]
    simp [Lib.joinTail]
  have j1 : ∀ x : Str, key [x] = x := fun x => Lib.join_one x [255]
  intro a
  induction a with
  | nil => intro b _ _ h; exact (h rfl).elim
  | cons x a ih =>
    intro b ha hb _ hbn h
    cases b with
    | nil => exact (hbn rfl).elim
    | cons y b =>
      have hx := ha x List.mem_cons_self
      have hy := hb y List.mem_cons_self
      cases a with
      | nil =>
        cases b with
        | nil => rw [j1, j1] at h; rw [h]
        | cons z b => rw [j1, jc] at h; exact (not1 _ _ _ hx h).elim
      | cons w a =>
        cases b with
        | nil => rw [j1, jc] at h; exact (not1 _ _ _ hy h.symm).elim
        | cons z b =>
          rw [jc, jc] at h
          obtain ⟨h1, h2⟩ := split1 _ _ _ _ hx hy h
          rw [h1, ih (z :: b) (fun r hr => ha r (List.mem_cons_of_mem _ hr)) (fun r hr => hb r (List.mem_cons_of_mem _ hr)) (by simp) (by simp) h2]
theorem key_inj {a b : List Str} (ha : Rs a) (hb : Rs b) (h : key a = key b) : a = b :=
  join_inj a b (fun r hr => (ha.val r hr).no255) (fun r hr => (hb.val r hr).no255) ha.ne hb.ne h
end Go.Proofs.Ytffokmamcempgaa.P
