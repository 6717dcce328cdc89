/- A machine of our own: what is known of memory, block by block, and rules that keep it. -/
import Derived.Test.YtkaaofamlgogcaaGreatAMY
namespace Go.Proofs.YtkaaofamlgogcaaGreat.AM
open Go Go.RowKit
set_option linter.unusedVariables false
set_option linter.unusedSimpArgs false

/-- Memory, without the marks of what was written. -/
structure HC where
  t : Tr Blk
  next : Nat
def Heap.c (H : Heap) : HC := ⟨H.t, H.next⟩
def HC.get (C : HC) (b : Nat) : Option Blk := C.t.get b
def HC.wf (C : HC) : Prop := ∀ b, C.next ≤ b → C.get b = none
/-- From C to D nothing changed but blocks of S, and what is new. -/
structure Chg (S : Nat → Prop) (C D : HC) : Prop where
  next : C.next ≤ D.next
  get : ∀ b B, ¬ S b → C.get b = some B → D.get b = some B
  wf : C.wf → D.wf
abbrev Gr (C D : HC) : Prop := Chg (fun _ => False) C D
section
variable {C D E : HC} {S S' : Nat → Prop} {b : Nat} {B : Blk}
theorem HC.wf.lt (w : C.wf) (h : C.get b = some B) : b < C.next := by
  by_cases hb : b < C.next
  · exact hb
  · rw [w b (by omega)] at h; cases h
theorem Chg.refl (C : HC) : Chg S C C := ⟨Nat.le_refl _, fun _ _ _ h => h, id⟩
theorem Chg.trans (h : Chg S C D) (k : Chg S D E) : Chg S C E := ⟨Nat.le_trans h.next k.next, fun b B hb hg => k.get b B hb (h.get b B hb hg), fun w => k.wf (h.wf w)⟩
theorem Chg.wide (h : Chg S C D) (hs : ∀ b, S b → S' b) : Chg S' C D := ⟨h.next, fun b B hb hg => h.get b B (fun q => hb (hs b q)) hg, h.wf⟩
theorem Chg.gr (h : Gr C D) : Chg S C D := h.wide fun _ q => q.elim
/-- What is changed is new. -/
theorem Chg.fresh (h : Chg S C D) (w : C.wf) (hs : ∀ b, S b → C.next ≤ b) : Gr C D := ⟨h.next, fun b B _ hg => h.get b B (fun q => Nat.lt_irrefl _ (Nat.lt_of_lt_of_le (w.lt hg) (hs b q))) hg, h.wf⟩
theorem Gr.refl (C : HC) : Gr C C := Chg.refl C
theorem Chg.at (h : Chg S C D) (hg : C.get b = some B) (hs : ¬ S b) : D.get b = some B := h.get b B hs hg
theorem Gr.at (h : Gr C D) (hg : C.get b = some B) : D.get b = some B := h.get b B id hg
theorem Chg.tr (h : Chg S C D) (k : Gr D E) : Chg S C E := h.trans (Chg.gr k)
theorem Chg.th (h : Chg S C D) (w : C.wf) (k : Chg S' D E) (hs : ∀ b, S' b → S b ∨ C.next ≤ b) : Chg S C E := ⟨Nat.le_trans h.next k.next, fun b B hb hg => k.get b B (fun q => (hs b q).elim hb fun q => Nat.lt_irrefl _ (Nat.lt_of_lt_of_le (w.lt hg) q)) (h.get b B hb hg), fun w => k.wf (h.wf w)⟩
/-- Behind what stays, what changed is new: it stays so. -/
theorem Gr.then (h : Gr C D) (w : C.wf) (k : Chg S D E) (hs : ∀ b, S b → C.next ≤ b) : Gr C E := ⟨Nat.le_trans h.next k.next, fun b B _ hg => k.get b B (fun q => Nat.lt_irrefl _ (Nat.lt_of_lt_of_le (w.lt hg) (hs b q))) (h.get b B id hg), fun w => k.wf (h.wf w)⟩
end
theorem wf_of {H : Heap} (w : WF H) : H.c.wf := w
theorem of_wf {H : Heap} (w : H.c.wf) : WF H := w
section
variable {H : Heap} {b : Nat} {B C : Blk}
theorem gr_new (w : H.c.wf) : Gr H.c (H.new B).c := ⟨Nat.le_succ _, fun b D _ hg => by
  have hlt : b < H.next := w.lt hg
  show (H.new B).get b = some D
  rw [Heap.get_new, if_neg (Nat.ne_of_lt hlt)]
  exact hg, fun w => (Keeps.new H B).wf w⟩
theorem at_new : (H.new B).c.get H.next = some B := gn_self
theorem chg_upd (hg : H.c.get b = some C) : Chg (· = b) H.c (H.upd b B).c := ⟨Nat.le_refl _, fun d D hd h => by
  show (H.upd b B).get d = some D
  rw [Heap.get_upd, if_neg hd]
  exact h, fun w => (Keeps.upd B hg).wf w⟩
theorem at_upd : (H.upd b B).c.get b = some B := by
  show (H.upd b B).get b = some B
  rw [Heap.get_upd, if_pos rfl]
theorem chg_kill : Chg (· = b) H.c (H.kill b).c := ⟨Nat.le_refl _, fun d D hd h => by
  show (H.kill b).get d = some D
  rw [Heap.get_kill, if_neg hd]
  exact h, fun w => (Keeps.kill b).wf w⟩
end
/-! rows -/
/-- A row of n elements of sz cells each. -/
def Rw (C : HC) (e sz : Nat) (v : Value) (n : Nat) (cs : List Value) : Prop :=
  (v = .slice none 0 0 ∧ n = 0 ∧ cs = []) ∨ ∃ b off cap own all, v = .slice (some ⟨b, off, none⟩) n cap ∧ n ≤ cap ∧ C.get b = some (.cells own e all) ∧ lcut off (n * sz) all = some cs
/-- A row of one's own: a whole block, its room not known. -/
def Ow (C : HC) (e sz : Nat) (v : Value) (n : Nat) (cs : List Value) : Prop :=
  (v = .slice none 0 0 ∧ n = 0 ∧ cs = []) ∨ ∃ b, v = .slice (some ⟨b, 0, none⟩) n U ∧ n ≤ U ∧ C.get b = some (.cells true e cs) ∧ cs.length = n * sz
/-- v's block is one of S. -/
def inS (S : Nat → Prop) (v : Value) : Prop := ∀ b, blockOf v = some b → S b
section
variable {C D : HC} {e sz n : Nat} {v : Value} {cs : List Value} {S : Nat → Prop}
theorem lcutA (l : List Value) : lcut 0 l.length l = Option.some l := by
  rw [lcut_of (by omega), List.drop_zero, List.take_length]
theorem Rw.chg (h : Rw C e sz v n cs) (g : Chg S C D) (hs : inS (fun b => ¬ S b) v) : Rw D e sz v n cs := by
  rcases h with h | ⟨b, off, cap, own, all, h1, h0, h2, h3⟩
  · exact .inl h
  · exact .inr ⟨b, off, cap, own, all, h1, h0, g.get _ _ (hs b (by rw [h1]; rfl)) h2, h3⟩
theorem Rw.gr (h : Rw C e sz v n cs) (g : Gr C D) : Rw D e sz v n cs := h.chg g fun _ _ => id
theorem Ow.chg (h : Ow C e sz v n cs) (g : Chg S C D) (hs : inS (fun b => ¬ S b) v) : Ow D e sz v n cs := by
  rcases h with h | ⟨b, h1, h0, h2, h3⟩
  · exact .inl h
  · exact .inr ⟨b, h1, h0, g.get _ _ (hs b (by rw [h1]; rfl)) h2, h3⟩
theorem Ow.gr (h : Ow C e sz v n cs) (g : Gr C D) : Ow D e sz v n cs := h.chg g fun _ _ => id
theorem Ow.rw (h : Ow C e sz v n cs) : Rw C e sz v n cs := by
  rcases h with h | ⟨b, h1, h0, h2, h3⟩
  · exact .inl h
  · exact .inr ⟨b, 0, U, true, cs, h1, h0, h2, by rw [← h3]; exact lcutA cs⟩
theorem Ow.nil : Ow C e sz (.slice none 0 0) 0 [] := .inl ⟨rfl, rfl, rfl⟩
theorem Rw.nil : Rw C e sz (.slice none 0 0) 0 [] := .inl ⟨rfl, rfl, rfl⟩
theorem Rw.len (h : Rw C e sz v n cs) : cs.length = n * sz := by
  rcases h with ⟨_, rfl, rfl⟩ | ⟨b, off, cap, own, all, h1, h0, h2, h3⟩
  · simp
  · exact (lcut_some h3).2
theorem Rw.sl (h : Rw C e sz v n cs) : ∃ a c, v = .slice a n c := by
  rcases h with ⟨rfl, rfl, _⟩ | ⟨b, off, cap, own, all, h1, h0, h2, h3⟩
  · exact ⟨_, _, rfl⟩
  · exact ⟨_, _, h1⟩
theorem Rw.lt (h : Rw C e sz v n cs) (w : C.wf) : inS (· < C.next) v := by
  rcases h with ⟨rfl, _, _⟩ | ⟨b, off, cap, own, all, rfl, h0, h2, h3⟩
  · intro b hb; cases hb
  · intro d hd; cases hd; exact w.lt h2
theorem Rw.fresh {b cap : Nat} (hl : cs.length = n * sz) (hc : n ≤ cap) {own : Bool} (hg : C.get b = Option.some (.cells own e cs)) : Rw C e sz (.slice (Option.some ⟨b, 0, none⟩) n cap) n cs :=
  .inr ⟨b, 0, cap, own, cs, rfl, hc, hg, by rw [← hl]; exact lcutA cs⟩
/-- The value at a cell of a row. -/
def ixV (v : Value) (k : Nat) : Value := match v with
  | .slice (some a) _ _ => .pointer (some (a.add k))
  | _ => undef
theorem Rw.look (h : Rw C e sz v n cs) (hn : 0 < n) : ∃ b off cap own all, v = .slice (some ⟨b, off, none⟩) n cap ∧ C.get b = some (.cells own e all) ∧ ∀ k, k < n * sz → all[off + k]? = cs[k]? := by
  rcases h with ⟨_, rfl, _⟩ | ⟨b, off, cap, own, all, h1, h0, h2, h3⟩
  · omega
  · refine ⟨b, off, cap, own, all, h1, h2, fun k hk => ?_⟩
    rw [(lcut_some h3).1, List.getElem?_take, if_pos hk, List.getElem?_drop]
theorem Rw.part (h : Rw C e sz v n cs) (hn : 0 < n) : ∃ b off cap own all, v = .slice (some ⟨b, off, none⟩) n cap ∧ C.get b = some (.cells own e all) ∧ ∀ m k u, k + m.getD 1 ≤ n * sz → partOf m k cs = some u → partOf m (off + k) all = some u := by
  rcases h with ⟨_, rfl, _⟩ | ⟨b, off, cap, own, all, h1, h0, h2, h3⟩
  · omega
  · refine ⟨b, off, cap, own, all, h1, h2, fun m k u hk hu => ?_⟩
    have hcs := (lcut_some h3).1
    cases m with
    | none =>
      simp only [partOf, Option.getD_none] at hu hk ⊢
      rw [hcs, List.getElem?_take, if_pos (by omega), List.getElem?_drop] at hu
      exact hu
    | some m =>
      simp only [partOf, Option.getD_some, Option.map_eq_some_iff] at hu hk ⊢
      obtain ⟨r, hr, rfl⟩ := hu
      refine ⟨r, ?_, rfl⟩
      obtain ⟨h5, h6⟩ := lcut_some hr
      subst hcs
      rw [List.drop_take, List.take_take, List.drop_drop, Nat.min_eq_left (by omega)] at h5
      have h7 := h6
      rw [h5, List.length_take, List.length_drop] at h7
      by_cases hm : m = 0
      · subst hm
        rw [List.take_zero] at h5
        subst h5
        simp [lcut]
      · rw [lcut_of (by omega), ← h5]
theorem Rw.fill (h : Rw C e sz v n cs) {H : Heap} (hH : H.c = C) {T : Tr Value} {zs : List Value} : newCells T H sz zs false v = Option.some (n, cs) := by
  subst hH
  rcases h with ⟨rfl, rfl, rfl⟩ | ⟨b, off, cap, own, all, rfl, h0, h2, h3⟩
  · rfl
  · have h2 : H.get b = some (.cells own e all) := h2
    simp only [newCells, h2, h3, Option.map_some]
/-- A cut of a row. -/
theorem Rw.cut (h : Rw C e sz v n cs) (lo hi : Option Nat) (h1 : lo.getD 0 ≤ hi.getD n) (h2 : hi.getD n ≤ n) :
    ∃ v', oCut sz v (some lo) (some hi) (some none) = some v' ∧ Rw C e sz v' (hi.getD n - lo.getD 0) ((cs.drop (lo.getD 0 * sz)).take ((hi.getD n - lo.getD 0) * sz)) ∧ (∀ q, blockOf v' = some q → blockOf v = some q) := by
  rcases h with ⟨rfl, rfl, rfl⟩ | ⟨b, off, cap, own, all, rfl, h0, hg, h3⟩
  · have e1 : hi.getD 0 = 0 := by omega
    have e2 : lo.getD 0 = 0 := by omega
    refine ⟨.slice none 0 0, ?_, ?_, fun q hq => hq⟩
    · have hu : Nat.beq 0 U = false := rfl
      simp only [oCut, hu, e1, e2]
      rfl
    · rw [e1, e2]
      simp only [Nat.sub_self, Nat.zero_mul, List.drop_nil, List.take_nil]
      exact Rw.nil
  · obtain ⟨h5, h6⟩ := lcut_some h3
    generalize hl : lo.getD 0 = l at h1 ⊢
    generalize hh : hi.getD n = r at h1 h2 ⊢
    have hle : l * sz + (r - l) * sz ≤ n * sz := by rw [← Nat.add_mul]; exact Nat.mul_le_mul_right sz (by omega)
    have hc : lcut (off + l * sz) ((r - l) * sz) all = some ((cs.drop (l * sz)).take ((r - l) * sz)) := by
      have e : (cs.drop (l * sz)).take ((r - l) * sz) = (all.drop (off + l * sz)).take ((r - l) * sz) := by
        rw [h5, List.drop_take, List.take_take, List.drop_drop, Nat.min_eq_left (by omega)]
      have e2 : ((all.drop (off + l * sz)).take ((r - l) * sz)).length = (r - l) * sz := by
        rw [← e, List.length_take, List.length_drop, h6]
        omega
      rw [e]
      by_cases hm : (r - l) * sz = 0
      · rw [hm, List.take_zero]
        simp [lcut]
      · rw [List.length_take, List.length_drop] at e2
        exact lcut_of (by omega)
    by_cases hu : cap = U
    · subst hu
      refine ⟨.slice (some ⟨b, off + l * sz, none⟩) (r - l) U, ?_, .inr ⟨b, off + l * sz, U, own, all, rfl, by omega, hg, hc⟩, fun q hq => hq⟩
      have hb : Nat.beq U U = true := Nat.beq_refl U
      simp only [oCut, hb, cutGo, Option.getD_none, Option.isNone_none, hl, hh, Nat.ble_eq_true_of_le (Nat.le_refl n), Nat.ble_eq_true_of_le h2, Nat.ble_eq_true_of_le h1, Option.map_some, add_none]
    · have hb : Nat.beq cap U = false := by
        cases hq : Nat.beq cap U with
        | false => rfl
        | true => exact (hu (Nat.eq_of_beq_eq_true hq)).elim
      cases hq : Nat.beq cap l with
      | false =>
        refine ⟨.slice (some ⟨b, off + l * sz, none⟩) (r - l) (cap - l), ?_, .inr ⟨b, off + l * sz, cap - l, own, all, rfl, by omega, hg, hc⟩, fun q hq => hq⟩
        simp only [oCut, hb, cutGo, Option.getD_none, hl, hh, Nat.ble_eq_true_of_le (Nat.le_refl cap), Nat.ble_eq_true_of_le (Nat.le_trans h2 h0), Nat.ble_eq_true_of_le h1, Option.map_some, add_none, hq]
      | true =>
        have hq' := Nat.eq_of_beq_eq_true hq
        have e : r - l = 0 := by omega
        refine ⟨.slice (some ⟨b, off, none⟩) (r - l) (cap - l), ?_, .inr ⟨b, off, cap - l, own, all, rfl, by omega, hg, ?_⟩, fun q hq => hq⟩
        · simp only [oCut, hb, cutGo, Option.getD_none, hl, hh, Nat.ble_eq_true_of_le (Nat.le_refl cap), Nat.ble_eq_true_of_le (Nat.le_trans h2 h0), Nat.ble_eq_true_of_le h1, hq]
        · rw [e, Nat.zero_mul, List.take_zero]
          simp [lcut]
/-! rows of elements of several cells -/
section
variable {α : Type} {enc : α → List Value} {q : Nat} (hlen : ∀ x, (enc x).length = q) {xs : List α} {j : Nat}
include hlen
theorem flat_drop (hj : j < xs.length) : ∃ r, ((xs.map enc).flatten).drop (j * q) = enc xs[j] ++ r := by
  induction xs generalizing j with
  | nil => simp at hj
  | cons x l ih =>
    cases j with
    | zero => exact ⟨(l.map enc).flatten, by simp⟩
    | succ j =>
      obtain ⟨r, hr⟩ := ih (j := j) (by simpa using hj)
      refine ⟨r, ?_⟩
      rw [List.map_cons, List.flatten_cons, show (j + 1) * q = (enc x).length + j * q by rw [hlen, Nat.add_mul]; omega, ← List.drop_drop, List.drop_left]
      exact hr
theorem flat_part (hj : j < xs.length) : partOf (some q) (j * q) ((xs.map enc).flatten) = some (.agg ⟨enc xs[j]⟩) := by
  obtain ⟨r, hr⟩ := flat_drop hlen hj
  have h1 : (enc xs[j] ++ r).take q = enc xs[j] := by rw [← hlen xs[j], List.take_left]
  have h2 : Nat.beq (enc xs[j]).length q = true := by rw [hlen]; exact Nat.beq_refl q
  simp only [partOf, lcut, hr, h1, h2, Option.map_some]
theorem flat_cell {k : Nat} (hj : j < xs.length) (hk : k < q) : partOf none (j * q + k) ((xs.map enc).flatten) = (enc xs[j])[k]? := by
  obtain ⟨r, hr⟩ := flat_drop hlen hj
  simp only [partOf]
  rw [← List.getElem?_drop, hr, List.getElem?_append_left (by rw [hlen]; exact hk)]
theorem flatLen : ((xs.map enc).flatten).length = xs.length * q := by
  induction xs with
  | nil => simp
  | cons x l ih => rw [List.map_cons, List.flatten_cons, List.length_append, hlen, ih, List.length_cons, Nat.add_mul]; omega
end
/-- A row of cells, one each. -/
theorem one_cell {α : Type} {f : α → Value} {xs : List α} {j : Nat} (hj : j < xs.length) : partOf none (j * 1) (xs.map f) = some (f xs[j]) := by
  simp only [partOf, Nat.mul_one, List.getElem?_map, List.getElem?_eq_getElem hj, Option.map_some]
end
section
variable {P : Program} {cf : CallF} {k : Nat} {l : List AOper} {L : Lv} {H : Heap} {Q : Lv → Heap → Prop} {d : Option Nat} {fp : Bool} {o : AOp} {v u w : Value} {x y z : Arg} {R W : List Nat}
/-! rules of operations that look at rows -/
theorem o_ix {e sz size n i : Nat} {cs : List Value} {κ : IntKind} (hr : Rw H.c e sz v n cs) (hx : av L x = some v) (hy : av L y = some (.int κ (i : Int))) (hi : i < n) : Op P cf L H (.indexAddr size x y) (ixV v (i * size)) H := by
  obtain ⟨b, off, cap, own, all, rfl, -⟩ := hr.look (by omega)
  have := o_indexAddr (P := P) (cf := cf) (H := H) (size := size) hx hy hi
  rwa [← add_none] at this
theorem o_ixf {e sz n j off : Nat} {cs : List Value} (hr : Rw H.c e sz v n cs) (hn : 0 < n) (hx : av L x = some (ixV v j)) : Op P cf L H (.fieldAddr off x) (ixV v (j + off)) H := by
  obtain ⟨b, o, cap, own, all, rfl, -⟩ := hr.look hn
  have hx : av L x = some (.pointer (some ⟨b, o + j, none⟩)) := by rw [hx]; simp only [ixV, add_none]
  have := o_fieldAddr (P := P) (cf := cf) (H := H) (off := off) hx
  rwa [Nat.add_assoc, ← add_none] at this
theorem o_ld {e sz n j : Nat} {m : Option Nat} {cs : List Value} (hr : Rw H.c e sz v n cs) (hx : av L x = some (ixV v j)) (hj : j + m.getD 1 ≤ n * sz) (hn : 0 < n) (hu : partOf m j cs = some u) : Op P cf L H (.load m x) u H := by
  obtain ⟨b, o, cap, own, all, rfl, h2, h3⟩ := hr.part hn
  have hx : av L x = some (.pointer (some ⟨b, o + j, none⟩)) := by rw [hx]; simp only [ixV, add_none]
  exact o_load hx h2 (h3 m j u hj hu)
theorem o_len {e sz n : Nat} {cs : List Value} (hr : Rw H.c e sz v n cs) (hx : av L x = some v) : Op P cf L H (.len .row x) (.int .i64 (n : Int)) H := by
  obtain ⟨a, c, rfl⟩ := hr.sl
  exact o_lenRow hx
/-- What an argument that may be left out is. -/
def avN (L : Lv) : Option Arg → Option (Option Nat)
  | none => some none
  | some x => (av L x).bind fun v => (natOf v).map some
theorem avN_eq {T : Tr Value} (hT : TL T L) {a : Option Arg} {n : Option Nat} (h : avN L a = some n) : optNat T a = some n := by
  cases a with
  | none => exact h
  | some x =>
    simp only [avN, Option.bind_eq_some_iff] at h
    obtain ⟨v, h1, h2⟩ := h
    simp only [optNat, hT.ev h1, h2]
theorem XO.cut {e size n : Nat} {cs : List Value} {a b : Option Arg} {lo hi : Option Nat} (hr : Rw H.c e size v n cs) (hx : av L x = some v) (ha : avN L a = some lo) (hb : avN L b = some hi) (h1 : lo.getD 0 ≤ hi.getD n) (h2 : hi.getD n ≤ n)
    (hk : ∀ v', Rw H.c e size v' (hi.getD n - lo.getD 0) ((cs.drop (lo.getD 0 * size)).take ((hi.getD n - lo.getD 0) * size)) → (∀ q, blockOf v' = some q → blockOf v = some q) → XO P cf l (putL L d v') H Q) : XO P cf (⟨d, none, fp, .cut e size x a b none⟩ :: l) L H Q := by
  obtain ⟨v', h3, h4, h5⟩ := hr.cut lo hi h1 h2
  refine XO.op (fun T hT => ?_) (hk v' h4 h5)
  have hz : optNat T none = some none := rfl
  simp only [opRun, hT.ev hx, avN_eq hT ha, avN_eq hT hb, hz, h3]
  rcases hr with ⟨rfl, _⟩ | ⟨b, off, cap, own, all, rfl, h0, hg, _⟩
  · simp only [oCutH, up]
  · have hg : H.get b = some (.cells own e all) := hg
    simp only [oCutH, hg, Nat.beq_refl, up]
theorem XD.cut {e size n : Nat} {cs : List Value} {a b : Option Arg} {lo hi : Option Nat} (hr : Rw H.c e size v n cs) (hx : av L x = some v) (ha : avN L a = some lo) (hb : avN L b = some hi) (h1 : lo.getD 0 ≤ hi.getD n) (h2 : hi.getD n ≤ n)
    (hk : ∀ v', Rw H.c e size v' (hi.getD n - lo.getD 0) ((cs.drop (lo.getD 0 * size)).take ((hi.getD n - lo.getD 0) * size)) → (∀ q, blockOf v' = some q → blockOf v = some q) → XD P cf l R W (putL L d v') H Q) : XD P cf (⟨d, none, false, .cut e size x a b none⟩ :: l) R W L H Q := by
  obtain ⟨v', h3, h4, h5⟩ := hr.cut lo hi h1 h2
  refine XD.pure (fun T hT => ?_) (hk v' h4 h5)
  have hz : optNat T none = some none := rfl
  simp only [opRun, hT.ev hx, avN_eq hT ha, avN_eq hT hb, hz, h3]
  rcases hr with ⟨rfl, _⟩ | ⟨b, off, cap, own, all, rfl, h0, hg, _⟩
  · simp only [oCutH, up]
  · have hg : (noWl H).get b = some (.cells own e all) := hg
    simp only [oCutH, hg, Nat.beq_refl, up]
theorem o_eq {κ : IntKind} {a b : Int} {t : TypeId} {lit : Bool} (hx : av L x = some (.int κ a)) (hy : av L y = some (.int κ b)) : Op P cf L H (.bin .eql t lit x y) (.bool (decide (a = b))) H := o_eql hx hy (by rw [Bool.eq_iff_iff]; simp)
theorem o_ne {κ : IntKind} {a b : Int} {t : TypeId} {lit : Bool} (hx : av L x = some (.int κ a)) (hy : av L y = some (.int κ b)) : Op P cf L H (.bin .neq t lit x y) (.bool (decide (a ≠ b))) H := o_neq hx hy (by rw [Bool.eq_iff_iff]; simp)
theorem o_pick {q : Bool} (hz : av L z = some (.bool q)) (hx : av L x = some u) (hy : av L y = some w) : Op P cf L H (.pick z x y) (bif q then u else w) H := by
  cases q with
  | true => exact o_pick_t hz hx
  | false => exact o_pick_f hz hy
theorem o_rangeS {s : ByteArray} (hx : av L x = some (.string s)) : Op P cf L H (.rangeS x) (.pointer (some ⟨H.next, 0, none⟩)) (H.new (.iter s 0)) := fun T hT => by simp only [opRun, hT.ev hx, oRangeS]
theorem o_next_t {s : ByteArray} {b pos : Nat} (hx : av L x = some (.pointer (some ⟨b, 0, none⟩))) (hb : H.c.get b = some (.iter s pos)) (hp : pos < s.size) : Op P cf L H (.next x) (.tuple #[.bool true, .int .i64 (pos : Int), .int .i32 (Utf8.decode s pos).1]) (H.upd b (.iter s (pos + (Utf8.decode s pos).2))) := fun T hT => by
  have hb : H.get b = some (.iter s pos) := hb
  have h1 : Nat.blt pos s.size = true := Nat.ble_eq_true_of_le hp
  simp only [opRun, hT.ev hx, oNext, hb, h1]
  rfl
theorem o_next_f {s : ByteArray} {b pos : Nat} (hx : av L x = some (.pointer (some ⟨b, 0, none⟩))) (hb : H.c.get b = some (.iter s pos)) (hp : s.size ≤ pos) : Op P cf L H (.next x) (.tuple #[.bool false]) H := fun T hT => by
  have hb : H.get b = some (.iter s pos) := hb
  have h1 : Nat.blt pos s.size = false := by
    cases hq : Nat.blt pos s.size with
    | false => rfl
    | true => have := Nat.le_of_ble_eq_true hq; omega
  simp only [opRun, hT.ev hx, oNext, hb, h1]
theorem o_bytes {e : TypeId} {s : ByteArray} (hx : av L x = some (.string s)) (hs : s.size ≤ room) : Op P cf L H (.bytes e x) (.slice (some ⟨H.next, 0, none⟩) s.size U) (H.new (.cells true e (byteCells s.data.toList))) := fun T hT => by
  simp only [opRun, hT.ev hx, oBytes, Nat.ble_eq_true_of_le hs, freshRow]
theorem o_cutS {s : ByteArray} {a b : Option Arg} {lo hi : Option Nat} (hx : av L x = some (.string s)) (ha : avN L a = some lo) (hb : avN L b = some hi) (h1 : lo.getD 0 ≤ hi.getD s.size) (h2 : hi.getD s.size ≤ s.size) : Op P cf L H (.cutS x a b) (.string (s.extract (lo.getD 0) (hi.getD s.size))) H := fun T hT => by
  simp only [opRun, hT.ev hx, avN_eq hT ha, avN_eq hT hb, oCutS, Nat.ble_eq_true_of_le h1, Nat.ble_eq_true_of_le h2, up]
theorem o_convS {κ : IntKind} {n : Int} (hx : av L x = some (.int κ n)) : Op P cf L H (.convS x) (.string (Utf8.encode n)) H := fun T hT => by simp only [opRun, hT.ev hx, oConvS, up]
theorem o_indexS {s : ByteArray} {κ : IntKind} {i : Nat} (hx : av L x = some (.string s)) (hy : av L y = some (.int κ (i : Int))) (hi : i < s.data.toList.length) : Op P cf L H (.indexS x y) (.int .u8 (s.data.toList[i].toNat : Int)) H := fun T hT => by
  simp only [opRun, hT.ev hx, hT.ev hy, natOf, ← Tr_nat, oIndexS, List.getElem?_eq_getElem hi, Option.map_some, up]
theorem o_get {m : Option Nat} {b off : Nat} {own : Bool} {e : TypeId} {cs : List Value} (hx : av L x = some (.pointer (some ⟨b, off, none⟩))) (hb : H.c.get b = some (.cells own e cs)) (hv : partOf m off cs = some v) : Op P cf L H (.load m x) v H := o_load hx hb hv
theorem o_set {n b off : Nat} {e : TypeId} {cs cs' : List Value} (hx : av L x = some (.pointer (some ⟨b, off, none⟩))) (hy : av L y = some v) (hb : H.c.get b = some (.cells true e cs)) (hl : (cellL v).length = n) (hs : (cellL v).all scalar = true) (hv : splice cs off (cellL v) = some cs') :
    Op P cf L H (.store n x y) undef (H.upd b (.cells true e cs')) := o_store hx hy hb hl hs hv
/-! rules that give memory a new name -/
/-- An operation that makes a block. -/
theorem XO.nw {F : Nat → Value} {B : Blk} (h : Op P cf L H o (F H.next) (H.new B)) (w : H.c.wf) (hk : ∀ b G, H.c.next ≤ b → Gr H.c (Heap.c G) → G.c.get b = some B → XO P cf l (putL L d (F b)) G Q) : XO P cf (⟨d, none, fp, o⟩ :: l) L H Q :=
  XO.op h (hk H.next (H.new B) (Nat.le_refl _) (gr_new w) at_new)
theorem XO.nwp {B : Blk} (h : Op P cf L H o (.pointer (some ⟨H.next, 0, none⟩)) (H.new B)) (w : H.c.wf) (hk : ∀ b G, H.c.next ≤ b → Gr H.c (Heap.c G) → G.c.get b = some B → XO P cf l (putL L d (.pointer (some ⟨b, 0, none⟩))) G Q) : XO P cf (⟨d, none, fp, o⟩ :: l) L H Q := XO.nw (F := fun b => .pointer (some ⟨b, 0, none⟩)) h w hk
theorem XO.nws {B : Blk} {n c : Nat} (h : Op P cf L H o (.slice (some ⟨H.next, 0, none⟩) n c) (H.new B)) (w : H.c.wf) (hk : ∀ b G, H.c.next ≤ b → Gr H.c (Heap.c G) → G.c.get b = some B → XO P cf l (putL L d (.slice (some ⟨b, 0, none⟩) n c)) G Q) : XO P cf (⟨d, none, fp, o⟩ :: l) L H Q := XO.nw (F := fun b => .slice (some ⟨b, 0, none⟩) n c) h w hk
theorem XO.nwm {B : Blk} (h : Op P cf L H o (.map (some H.next)) (H.new B)) (w : H.c.wf) (hk : ∀ b G, H.c.next ≤ b → Gr H.c (Heap.c G) → G.c.get b = some B → XO P cf l (putL L d (.map (some b))) G Q) : XO P cf (⟨d, none, fp, o⟩ :: l) L H Q := XO.nw (F := fun b => .map (some b)) h w hk
theorem XO.up {b : Nat} {B C : Blk} (h : Op P cf L H o v (H.upd b B)) (hb : H.c.get b = some C) (hk : ∀ G, Chg (· = b) H.c (Heap.c G) → G.c.get b = some B → XO P cf l (putL L d v) G Q) : XO P cf (⟨d, none, fp, o⟩ :: l) L H Q :=
  XO.op h (hk _ (chg_upd hb) at_upd)
theorem XO.gt {g : Nat} {b : Bool} (hg : lk L g = some (.bool b)) (h : XO P cf (⟨d, none, fp, o⟩ :: l) L H Q) : XO P cf (⟨d, some (g, b), fp, o⟩ :: l) L H Q := fun T hT => by
  obtain ⟨T', H2, L', h1, h2, h3⟩ := h T hT
  refine ⟨T', H2, L', ?_, h2, h3⟩
  rw [← h1]
  simp only [opsRun, wanted_of hT hg, beq_self_eq_true]
  rfl
theorem XD.gt {g : Nat} {b : Bool} (hg : lk L g = some (.bool b)) (h : XD P cf (⟨d, none, fp, o⟩ :: l) R W L H Q) : XD P cf (⟨d, some (g, b), fp, o⟩ :: l) R W L H Q := fun T hT => by
  obtain ⟨T', H2, L', h1, h2, h3⟩ := h T hT
  refine ⟨T', H2, L', ?_, h2, h3⟩
  rw [← h1]
  simp only [drawRun, wanted_of hT hg, beq_self_eq_true]
  rfl
theorem XD.nw {F : Nat → Value} {B : Blk} (h : Op P cf L (noWl H) o (F H.next) ((noWl H).new B)) (w : H.c.wf) (hk : ∀ b G, H.c.next ≤ b → Gr H.c (Heap.c G) → G.c.get b = some B → XD P cf l R W (putL L d (F b)) G Q) : XD P cf (⟨d, none, false, o⟩ :: l) R W L H Q :=
  XD.op h (hk H.next _ (Nat.le_refl _) (gr_new (H := noWl H) w) (at_new (H := noWl H)))
theorem XD.up {b : Nat} {B C : Blk} (h : Op P cf L (noWl H) o v ((noWl H).upd b B)) (hb : H.c.get b = some C) (hk : ∀ G, Chg (· = b) H.c (Heap.c G) → G.c.get b = some B → XD P cf l R W (putL L d v) G Q) : XD P cf (⟨d, none, false, o⟩ :: l) R W L H Q :=
  XD.op h (hk _ (chg_upd (H := noWl H) hb) (at_upd (H := noWl H)))
theorem XO.splitd {g : Nat} {p : Prop} [Decidable p] (hg : lk L g = some (.bool (decide p))) (h1 : p → XO P cf l ((g, .bool true) :: L) H Q) (h2 : ¬p → XO P cf l ((g, .bool false) :: L) H Q) : XO P cf l L H Q :=
  XO.split hg (fun h => h1 (of_decide_eq_true h)) (fun h => h2 (of_decide_eq_false h))
theorem XD.splitd {g : Nat} {p : Prop} [Decidable p] (hg : lk L g = some (.bool (decide p))) (h1 : p → XD P cf l R W ((g, .bool true) :: L) H Q) (h2 : ¬p → XD P cf l R W ((g, .bool false) :: L) H Q) : XD P cf l R W L H Q :=
  XD.split hg (fun h => h1 (of_decide_eq_true h)) (fun h => h2 (of_decide_eq_false h))
/-- What only looks, in a region where nothing was written yet. -/
theorem XD.lk (h : Op P cf L (noWl H) o v (noWl H)) (ha : acts o = false) (hk : ∀ R, XD P cf l R [] (putL L d v) H Q) : XD P cf (⟨d, none, fp, o⟩ :: l) R [] L H Q := by
  cases fp with
  | false => exact XD.pure h (hk R)
  | true =>
    intro T hT
    have h4 : opRun P cf T ⟨H.t, H.next, []⟩ o = some (v, noWl H) := h T hT
    have hm : ∃ R', mayMove o T (noWl H).wl R [] = some (R', []) := by
      unfold mayMove
      rw [ha]
      cases lookBlk T o with
      | none => exact ⟨_, rfl⟩
      | some b => exact ⟨_, rfl⟩
    obtain ⟨R', hm⟩ := hm
    obtain ⟨T', H2, L', h1, h2, h3⟩ := hk R' (putT T d v) (hT.put d v)
    refine ⟨T', H2, L', ?_, h2, h3⟩
    simp only [drawRun, wantedA, h4, hm]
    exact h1
theorem apart_nil (R : List Nat) : apart R [] = true := rfl
/-- A new block, in a region that draws. -/
theorem XD.nwFp {F : Nat → Value} {B : Blk} (h : Op P cf L (noWl H) o (F H.next) ((noWl H).new B)) (ha : acts o = true) (w : H.c.wf) (hk : ∀ b G, H.c.next ≤ b → Gr H.c (Heap.c G) → G.c.get b = some B → XD P cf l R W (putL L d (F b)) G Q) : XD P cf (⟨d, none, true, o⟩ :: l) R W L H Q :=
  XD.opFp h (R' := R) (W' := W) (fun T hT => by simp only [mayMove, ha]; rfl) (hk H.next _ (Nat.le_refl _) (gr_new (H := noWl H) w) (at_new (H := noWl H)))
theorem XD.nwp {B : Blk} (h : Op P cf L (noWl H) o (.pointer (some ⟨H.next, 0, none⟩)) ((noWl H).new B)) (w : H.c.wf) (hk : ∀ b G, H.c.next ≤ b → Gr H.c (Heap.c G) → G.c.get b = some B → XD P cf l R W (putL L d (.pointer (some ⟨b, 0, none⟩))) G Q) : XD P cf (⟨d, none, false, o⟩ :: l) R W L H Q := XD.nw (F := fun b => .pointer (some ⟨b, 0, none⟩)) h w hk
theorem XD.nws {B : Blk} {n c : Nat} (h : Op P cf L (noWl H) o (.slice (some ⟨H.next, 0, none⟩) n c) ((noWl H).new B)) (w : H.c.wf) (hk : ∀ b G, H.c.next ≤ b → Gr H.c (Heap.c G) → G.c.get b = some B → XD P cf l R W (putL L d (.slice (some ⟨b, 0, none⟩) n c)) G Q) : XD P cf (⟨d, none, false, o⟩ :: l) R W L H Q := XD.nw (F := fun b => .slice (some ⟨b, 0, none⟩) n c) h w hk
theorem XD.nwpFp {B : Blk} (h : Op P cf L (noWl H) o (.pointer (some ⟨H.next, 0, none⟩)) ((noWl H).new B)) (ha : acts o = true) (w : H.c.wf) (hk : ∀ b G, H.c.next ≤ b → Gr H.c (Heap.c G) → G.c.get b = some B → XD P cf l R W (putL L d (.pointer (some ⟨b, 0, none⟩))) G Q) : XD P cf (⟨d, none, true, o⟩ :: l) R W L H Q := XD.nwFp (F := fun b => .pointer (some ⟨b, 0, none⟩)) h ha w hk
theorem XD.nwsFp {B : Blk} {n c : Nat} (h : Op P cf L (noWl H) o (.slice (some ⟨H.next, 0, none⟩) n c) ((noWl H).new B)) (ha : acts o = true) (w : H.c.wf) (hk : ∀ b G, H.c.next ≤ b → Gr H.c (Heap.c G) → G.c.get b = some B → XD P cf l R W (putL L d (.slice (some ⟨b, 0, none⟩) n c)) G Q) : XD P cf (⟨d, none, true, o⟩ :: l) R W L H Q := XD.nwFp (F := fun b => .slice (some ⟨b, 0, none⟩) n c) h ha w hk
/-! calls -/
/-- The call answers, and so, whatever was written before. -/
def Rn (cf : CallF) (f : Nat) (args : List Value) (C : HC) (R : Value → HC → Prop) : Prop := ∀ H : Heap, H.c = C → ∃ v G, cf f args H = some (v, G) ∧ R v G.c
/-- It answers v; memory stays just as it is. -/
def Pu (cf : CallF) (f : Nat) (args : List Value) (C : HC) (v : Value) : Prop := ∀ H : Heap, H.c = C → cf f args H = some (v, H)
/-- It answers v; memory grows. -/
abbrev Qu (cf : CallF) (f : Nat) (args : List Value) (C : HC) (v : Value) : Prop := Rn cf f args C fun u D => u = v ∧ Gr C D
theorem Rn.mono {f : Nat} {args : List Value} {C : HC} {R R' : Value → HC → Prop} (h : Rn cf f args C R) (hi : ∀ v D, R v D → R' v D) : Rn cf f args C R' := fun H hH => by
  obtain ⟨v, G, h1, h2⟩ := h H hH
  exact ⟨v, G, h1, hi _ _ h2⟩
theorem Pu.rn {f : Nat} {args : List Value} {C : HC} (h : Pu cf f args C v) : Rn cf f args C fun u D => u = v ∧ D = C := fun H hH => ⟨v, H, h H hH, rfl, hH⟩
theorem Pu.qu {f : Nat} {args : List Value} {C : HC} (h : Pu cf f args C v) : Qu cf f args C v := fun H hH => ⟨v, H, h H hH, rfl, by rw [hH]; exact Gr.refl _⟩
theorem Rn.enter {E : Env} {m f : Nat} {args : List Value} {C : HC} {R : Value → HC → Prop} {af : AFunc} (he : E.ext f = none) (hf : E.fn f = some af) (hl : Nat.ble args.length af.ntmps = true)
    (h : ∀ H : Heap, H.c = C → XC P (callN P E m) E.rounds af.body (argsL 0 args []) H (finQ af.results fun v G => R v G.c)) : Rn (callN P E (m + 1)) f args C R := fun H hH => Runs.enter he hf hl (h H hH)
theorem Pu.enter {E : Env} {m f : Nat} {args : List Value} {C : HC} {af : AFunc} (he : E.ext f = none) (hf : E.fn f = some af) (hl : Nat.ble args.length af.ntmps = true)
    (h : ∀ H : Heap, H.c = C → XC P (callN P E m) E.rounds af.body (argsL 0 args []) H (finQ af.results fun u G => u = v ∧ G = H)) : Pu (callN P E (m + 1)) f args C v := fun H hH => by
  obtain ⟨u, G, h1, rfl, rfl⟩ := Runs.enter he hf hl (h H hH)
  exact h1
theorem XO.pu {f : Nat} {args : List Arg} {vs : List Value} (h : Pu cf f vs H.c v) (ha : avs L args = some vs) (hk : XO P cf l (putL L d v) H Q) : XO P cf (⟨d, none, fp, .call (.c (.func (.func f) #[] #[])) args⟩ :: l) L H Q :=
  XO.op (o_call ha (h H rfl)) hk
theorem XO.ca {f : Nat} {args : List Arg} {vs : List Value} {R : Value → HC → Prop} (h : Rn cf f vs H.c R) (ha : avs L args = some vs) (hk : ∀ v G, R v (Heap.c G) → XO P cf l (putL L d v) G Q) : XO P cf (⟨d, none, fp, .call (.c (.func (.func f) #[] #[])) args⟩ :: l) L H Q := by
  obtain ⟨v, G, h1, h2⟩ := h H rfl
  exact XO.op (o_call ha h1) (hk v G h2)
theorem XD.pu {f : Nat} {args : List Arg} {vs : List Value} (h : Pu cf f vs H.c v) (ha : avs L args = some vs) (hk : XD P cf l R W (putL L d v) H Q) : XD P cf (⟨d, none, fp, .call (.c (.func (.func f) #[] #[])) args⟩ :: l) R W L H Q := by
  have h1 : Op P cf L (noWl H) (.call (.c (.func (.func f) #[] #[])) args) v (noWl H) := o_call ha (h (noWl H) rfl)
  cases fp with
  | false => exact XD.pure h1 hk
  | true => exact XD.opFp h1 (fun T hT => by simp only [mayMove, acts, noWl]; rfl) hk
theorem XD.ca {f : Nat} {args : List Arg} {vs : List Value} {S : Value → HC → Prop} (h : Rn cf f vs H.c S) (ha : avs L args = some vs) (hk : ∀ v G, S v (Heap.c G) → XD P cf l R W (putL L d v) G Q) : XD P cf (⟨d, none, false, .call (.c (.func (.func f) #[] #[])) args⟩ :: l) R W L H Q := by
  obtain ⟨v, G, h1, h2⟩ := h (noWl H) rfl
  exact XD.op (o_call ha h1) (hk v (addWl G H) h2)
theorem o_callv {f : Nat} {args : List Arg} {vs : List Value} {fc : Array Value} {H' : Heap} (hx : av L x = some (.func (.func f) #[] fc)) (ha : avs L args = some vs) (h : cf f (vs ++ fc.toList) H = some (v, H')) : Op P cf L H (.call x args) v H' := fun T hT => by
  have h1 := hT.evs ha
  simp only [opRun, oCall, h1, hT.ev hx]
  simpa using h
/-- A call of a closure: what it has caught stands behind the parameters. -/
theorem XO.cv {f : Nat} {args : List Arg} {vs : List Value} {fc : Array Value} {S : Value → HC → Prop} (h : Rn cf f (vs ++ fc.toList) H.c S) (hx : av L x = some (.func (.func f) #[] fc)) (ha : avs L args = some vs) (hk : ∀ v G, S v (Heap.c G) → XO P cf l (putL L d v) G Q) : XO P cf (⟨d, none, fp, .call x args⟩ :: l) L H Q := by
  obtain ⟨v, G, h1, h2⟩ := h H rfl
  exact XO.op (o_callv hx ha h1) (hk v G h2)
theorem XD.cv {f : Nat} {args : List Arg} {vs : List Value} {fc : Array Value} {S : Value → HC → Prop} (h : Rn cf f (vs ++ fc.toList) H.c S) (hx : av L x = some (.func (.func f) #[] fc)) (ha : avs L args = some vs) (hk : ∀ v G, S v (Heap.c G) → XD P cf l R W (putL L d v) G Q) : XD P cf (⟨d, none, false, .call x args⟩ :: l) R W L H Q := by
  obtain ⟨v, G, h1, h2⟩ := h (noWl H) rfl
  exact XD.op (o_callv hx ha h1) (hk v (addWl G H) h2)
/-! appends -/
theorem o_app {e size bytes : Nat} {zs : List Value} {zeros : Bool} {n m : Nat} {cs new : List Value} (hr : Ow H.c e size u n cs) (hx : av L x = some u) (hy : av L y = some w) (hn : ∀ T, newCells T H size zs zeros w = some (m, new)) (hm : 0 < m) (hl : new.length = m * size) (hs : new.all scalar = true) (hf : (n + m) * bytes ≤ room) (hf2 : n + m ≤ room) :
    ∃ H', Op P cf L H (.append e size bytes zs zeros x y) (.slice (some ⟨H.next, 0, none⟩) (n + m) U) H' ∧ H'.c.get H.next = some (.cells true e (cs ++ new)) ∧ (H.c.wf → Chg (fun b => blockOf u = some b) H.c H'.c) := by
  have hfit : fits (n + m) bytes = true := by simp only [fits, Nat.ble_eq_true_of_le hf, Nat.ble_eq_true_of_le hf2]
  rcases hr with ⟨rfl, rfl, rfl⟩ | ⟨b, rfl, h0, hg, hcl⟩
  · refine ⟨H.new (.cells true e new), o_append hx hy hn hs ?_, at_new, fun wf => (gr_new wf).wide fun _ q => q.elim⟩
    obtain ⟨m, rfl⟩ : ∃ j, m = j + 1 := ⟨m - 1, by omega⟩
    rw [Nat.zero_add] at hfit ⊢
    simp only [appendTo, hfit, freshRow]
  · have hg : H.get b = some (.cells true e cs) := hg
    refine ⟨(H.kill b).new (.cells true e (cs ++ new)), o_append hx hy hn hs ?_, at_new (H := H.kill b), fun wf => ?_⟩
    · obtain ⟨m, rfl⟩ : ∃ j, m = j + 1 := ⟨m - 1, by omega⟩
      have hb : Nat.beq U U = true := Nat.beq_refl U
      have hlc : lcut 0 (n * size) cs = some cs := by rw [← hcl]; exact lcutA cs
      simp only [appendTo, hg, Nat.beq_refl, hfit, hb, appU, hlc, freshRow]
      rfl
    · have h1 : Chg (fun q => blockOf (.slice (some ⟨b, 0, none⟩) n U) = some q) H.c (H.kill b).c := (chg_kill (H := H) (b := b)).wide fun q hq => by rw [hq]; rfl
      exact h1.trans ((gr_new (H := H.kill b) (h1.wf wf)).wide fun _ q => q.elim)
/-- An append to a row of one's own. -/
theorem XO.app {e size bytes : Nat} {zs : List Value} {zeros : Bool} {n m : Nat} {cs new : List Value} (hr : Ow H.c e size u n cs) (hx : av L x = some u) (hy : av L y = some w) (hn : ∀ T, newCells T H size zs zeros w = some (m, new)) (hm : 0 < m) (hl : new.length = m * size) (hs : new.all scalar = true) (hf : (n + m) * bytes ≤ room) (hf2 : n + m ≤ room) (wf : H.c.wf)
    (hk : ∀ b G, H.c.next ≤ b → Chg (fun b => blockOf u = some b) H.c (Heap.c G) → G.c.get b = some (.cells true e (cs ++ new)) → Ow G.c e size (.slice (some ⟨b, 0, none⟩) (n + m) U) (n + m) (cs ++ new) → XO P cf l (putL L d (.slice (some ⟨b, 0, none⟩) (n + m) U)) G Q) : XO P cf (⟨d, none, fp, .append e size bytes zs zeros x y⟩ :: l) L H Q := by
  obtain ⟨H', h1, h2, h3⟩ := o_app (P := P) (cf := cf) hr hx hy hn hm hl hs hf hf2
  exact XO.op h1 (hk H.next H' (Nat.le_refl _) (h3 wf) h2 (.inr ⟨_, rfl, Nat.le_trans hf2 (by decide), h2, by rw [List.length_append, hr.rw.len, hl, Nat.add_mul]⟩))
theorem XD.app {e size bytes : Nat} {zs : List Value} {zeros : Bool} {n m : Nat} {cs new : List Value} (hr : Ow H.c e size u n cs) (hx : av L x = some u) (hy : av L y = some w) (hn : ∀ T, newCells T (noWl H) size zs zeros w = some (m, new)) (hm : 0 < m) (hl : new.length = m * size) (hs : new.all scalar = true) (hf : (n + m) * bytes ≤ room) (hf2 : n + m ≤ room) (wf : H.c.wf)
    (hk : ∀ b G, H.c.next ≤ b → Chg (fun b => blockOf u = some b) H.c (Heap.c G) → G.c.get b = some (.cells true e (cs ++ new)) → Ow G.c e size (.slice (some ⟨b, 0, none⟩) (n + m) U) (n + m) (cs ++ new) → XD P cf l R W (putL L d (.slice (some ⟨b, 0, none⟩) (n + m) U)) G Q) : XD P cf (⟨d, none, false, .append e size bytes zs zeros x y⟩ :: l) R W L H Q := by
  have hr' : Ow (noWl H).c e size u n cs := hr
  obtain ⟨H', h1, h2, h3⟩ := o_app (P := P) (cf := cf) hr' hx hy hn hm hl hs hf hf2
  exact XD.op h1 (hk H.next (addWl H' H) (Nat.le_refl _) (h3 wf) h2 (.inr ⟨_, rfl, Nat.le_trans hf2 (by decide), h2, by rw [List.length_append, hr.rw.len, hl, Nat.add_mul]⟩))
/-! loops and joins -/
def app : Lv → Lv → Lv
  | [], K => K
  | p :: V, K => p :: app V K
variable {a b c : ACode} {C : AExit → Lv → Heap → Prop}
theorem XC.iten {x : Arg} {p : Prop} [Decidable p] (hx : av L x = some (.bool (!decide p))) (h1 : ¬p → XC P cf k a L H C) (h2 : p → XC P cf k b L H C) : XC P cf k (.cond x a b) L H C := by
  by_cases hp : p
  · exact XC.cond_f (by rw [hx, decide_eq_true hp]; rfl) (h2 hp)
  · exact XC.cond_t (by rw [hx, decide_eq_false hp]; rfl) (h1 hp)
theorem XC.pushIfn {x : Arg} {p : Prop} [Decidable p] (hx : av L x = some (.bool (!decide p))) (h1 : ¬p → XC P cf k (.seq a c) L H C) (h2 : p → XC P cf k (.seq b c) L H C) : XC P cf k (.seq (.cond x a b) c) L H C := by
  by_cases hp : p
  · exact XC.push_f (by rw [hx, decide_eq_true hp]; rfl) (h2 hp)
  · exact XC.push_t (by rw [hx, decide_eq_false hp]; rfl) (h1 hp)
/-- A loop: s tells what changes; V s what the places hold then; K what stays. -/
theorem XC.lp {σ : Type} (V : σ → Lv) (K : Lv) (I : σ → Heap → Prop) (μ : σ → Nat) (s : σ) (h0 : Sb (app (V s) K) L) (hI : I s H) (hm : μ s < k)
    (hb : ∀ s G, I s G → XC P cf k a (app (V s) K) G fun x L' H' => match x with
      | .normal => ∃ s', μ s' < μ s ∧ Sb (app (V s') K) L' ∧ I s' H'
      | x => C x L' H') : XC P cf k (.loop a) L H C :=
  XC.sb h0 (XC.loop (fun m L G => ∃ s, μ s = m ∧ L = app (V s) K ∧ I s G) ⟨s, rfl, rfl, hI⟩ hm fun m L G h => by
    obtain ⟨s, rfl, rfl, hI⟩ := h
    exact (hb s G hI).mono fun x L H hx => by
      cases x with
      | normal => obtain ⟨s', h1, h2, h3⟩ := hx; exact ⟨μ s', _, h1, h2, s', rfl, rfl, h3⟩
      | exit i => exact hx
      | ret => exact hx)
theorem XC.then_lp {σ : Type} (V : σ → Lv) (K : Lv) (I : σ → Heap → Prop) (μ : σ → Nat) (s : σ) (h0 : Sb (app (V s) K) L) (hI : I s H) (hm : μ s < k)
    (hb : ∀ s G, I s G → XC P cf k a (app (V s) K) G fun x L' H' => match x with
      | .normal => ∃ s', μ s' < μ s ∧ Sb (app (V s') K) L' ∧ I s' H'
      | .exit i => thenQ P cf k b C (.exit i) L' H'
      | .ret => C .ret L' H') : XC P cf k (.seq (.loop a) b) L H C :=
  XC.seq (XC.lp V K I μ s h0 hI hm fun s G h => (hb s G h).mono fun x L H hx => by cases x <;> exact hx)
/-- What comes behind a part, told once: s tells what the part did. -/
def joinQ {σ : Type} (V : σ → Lv) (K : Lv) (I : σ → Heap → Prop) (C : AExit → Lv → Heap → Prop) : AExit → Lv → Heap → Prop
  | .normal, L, H => ∃ s, Sb (app (V s) K) L ∧ I s H
  | .exit i, L, H => C (.exit i) L H
  | .ret, L, H => C .ret L H
theorem XC.jn {σ : Type} (V : σ → Lv) (K : Lv) (I : σ → Heap → Prop) (h : XC P cf k a L H (joinQ V K I C)) (hb : ∀ s G, I s G → XC P cf k b (app (V s) K) G C) : XC P cf k (.seq a b) L H C :=
  XC.seq (h.mono fun x L H hx => by
    cases x with
    | normal => obtain ⟨s, h1, h2⟩ := hx; exact XC.sb h1 (hb s H h2)
    | exit i => exact hx
    | ret => exact hx)
theorem join_n {σ : Type} {V : σ → Lv} {K : Lv} {I : σ → Heap → Prop} (s : σ) (h1 : Sb (app (V s) K) L) (h2 : I s H) : joinQ V K I C .normal L H := ⟨s, h1, h2⟩
theorem join_x {σ : Type} {V : σ → Lv} {K : Lv} {I : σ → Heap → Prop} {i : Nat} (h : C (.exit i) L H) : joinQ V K I C (.exit i) L H := h
theorem join_r {σ : Type} {V : σ → Lv} {K : Lv} {I : σ → Heap → Prop} (h : C .ret L H) : joinQ V K I C .ret L H := h
end
end Go.Proofs.YtkaaofamlgogcaaGreat.AM
