/- A machine of our own: what is known of memory, block by block, and rules that keep it. -/
import Derived.Test.YtffokmamcempgaaAMY
namespace Go.Proofs.Ytffokmamcempgaa.AM
open Go Go.RowKit
set_option linter.unusedVariables false
set_option linter.unusedSimpArgs false

/-- Memory, without the marks of what was written. -/
structure HC where
  t : Tr Blk
  next : Nat
def Heap.c (H : Heap) : HC := ⟨H.t, H.next⟩
def HC.get (C : HC) (b : Nat) : Option Blk := C.t.get b
def HC.wf (C : HC) : Prop := ∀ b, C.next ≤ b → C.get b = none
/-- From C to D nothing changed but blocks of S, and what is new. -/
structure Chg (S : Nat → Prop) (C D : HC) : Prop where
  next : C.next ≤ D.next
  get : ∀ b B, ¬ S b → C.get b = some B → D.get b = some B
  wf : C.wf → D.wf
abbrev Gr (C D : HC) : Prop := Chg (fun _ => False) C D
section
variable {C D E : HC} {S S' : Nat → Prop} {b : Nat} {B : Blk}
theorem HC.wf.lt (w : C.wf) (h : C.get b = some B) : b < C.next := by
  by_cases hb : b < C.next
  · exact hb
  · rw [w b (by omega)] at h; cases h
theorem Chg.refl (C : HC) : Chg S C C := ⟨Nat.le_refl _, fun _ _ _ h => h, id⟩
theorem Chg.trans (h : Chg S C D) (k : Chg S D E) : Chg S C E := ⟨Nat.le_trans h.next k.next, fun b B hb hg => k.get b B hb (h.get b B hb hg), fun w => k.wf (h.wf w)⟩
theorem Chg.wide (h : Chg S C D) (hs : ∀ b, S b → S' b) : Chg S' C D := ⟨h.next, fun b B hb hg => h.get b B (fun q => hb (hs b q)) hg, h.wf⟩
theorem Chg.gr (h : Gr C D) : Chg S C D := h.wide fun _ q => q.elim
/-- What is changed is new. -/
theorem Chg.fresh (h : Chg S C D) (w : C.wf) (hs : ∀ b, S b → C.next ≤ b) : Gr C D := ⟨h.next, fun b B _ hg => h.get b B (fun q => Nat.lt_irrefl _ (Nat.lt_of_lt_of_le (w.lt hg) (hs b q))) hg, h.wf⟩
theorem lt_new {b : Nat} {B : Blk} {C : HC} (h : C.get b = some B) (w : C.wf) : b < C.next := w.lt h
theorem Gr.refl (C : HC) : Gr C C := Chg.refl C
theorem Chg.at (h : Chg S C D) (hg : C.get b = some B) (hs : ¬ S b) : D.get b = some B := h.get b B hs hg
theorem Gr.at (h : Gr C D) (hg : C.get b = some B) : D.get b = some B := h.get b B id hg
theorem Chg.tr (h : Chg S C D) (k : Gr D E) : Chg S C E := h.trans (Chg.gr k)
theorem Chg.th (h : Chg S C D) (w : C.wf) (k : Chg S' D E) (hs : ∀ b, S' b → S b ∨ C.next ≤ b) : Chg S C E := ⟨Nat.le_trans h.next k.next, fun b B hb hg => k.get b B (fun q => (hs b q).elim hb fun q => Nat.lt_irrefl _ (Nat.lt_of_lt_of_le (w.lt hg) q)) (h.get b B hb hg), fun w => k.wf (h.wf w)⟩
/-- Behind what stays, what changed is new: it stays so. -/
theorem Gr.then (h : Gr C D) (w : C.wf) (k : Chg S D E) (hs : ∀ b, S b → C.next ≤ b) : Gr C E := ⟨Nat.le_trans h.next k.next, fun b B _ hg => k.get b B (fun q => Nat.lt_irrefl _ (Nat.lt_of_lt_of_le (w.lt hg) (hs b q))) (h.get b B id hg), fun w => k.wf (h.wf w)⟩
end
theorem wf_of {H : Heap} (w : WF H) : H.c.wf := w
theorem of_wf {H : Heap} (w : H.c.wf) : WF H := w
section
variable {H : Heap} {b : Nat} {B C : Blk}
theorem gr_new (w : H.c.wf) : Gr H.c (H.new B).c := ⟨Nat.le_succ _, fun b D _ hg => by
  have hlt : b < H.next := w.lt hg
  show (H.new B).get b = some D
  rw [Heap.get_new, if_neg (Nat.ne_of_lt hlt)]
  exact hg, fun w => (Keeps.new H B).wf w⟩
theorem at_new : (H.new B).c.get H.next = some B := gn_self
theorem chg_upd (hg : H.c.get b = some C) : Chg (· = b) H.c (H.upd b B).c := ⟨Nat.le_refl _, fun d D hd h => by
  show (H.upd b B).get d = some D
  rw [Heap.get_upd, if_neg hd]
  exact h, fun w => (Keeps.upd B hg).wf w⟩
theorem at_upd : (H.upd b B).c.get b = some B := by
  show (H.upd b B).get b = some B
  rw [Heap.get_upd, if_pos rfl]
theorem chg_kill : Chg (· = b) H.c (H.kill b).c := ⟨Nat.le_refl _, fun d D hd h => by
  show (H.kill b).get d = some D
  rw [Heap.get_kill, if_neg hd]
  exact h, fun w => (Keeps.kill b).wf w⟩
end
/-! rows -/
/-- A row of n elements of sz cells each. -/
def Rw (C : HC) (e sz : Nat) (v : Value) (n : Nat) (cs : List Value) : Prop :=
  (v = .slice none 0 0 ∧ n = 0 ∧ cs = []) ∨ ∃ b off cap own all, v = .slice (some ⟨b, off, none⟩) n cap ∧ n ≤ cap ∧ C.get b = some (.cells own e all) ∧ lcut off (n * sz) all = some cs
/-- A row of one's own: a whole block, its room not known. -/
def Ow (C : HC) (e sz : Nat) (v : Value) (n : Nat) (cs : List Value) : Prop :=
  (v = .slice none 0 0 ∧ n = 0 ∧ cs = []) ∨ ∃ b c, v = .slice (some ⟨b, 0, none⟩) n c ∧ n ≤ c ∧ C.get b = some (.cells true e cs) ∧ cs.length = n * sz ∧ (c = U ∨ (c = 0 ∧ cs = []))
/-- A row of one's own that stays where it is: a whole block, no room behind. -/
def Fw (C : HC) (e sz : Nat) (v : Value) (n : Nat) (cs : List Value) : Prop := ∃ b, v = .slice (some ⟨b, 0, none⟩) n n ∧ C.get b = some (.cells true e cs) ∧ cs.length = n * sz
/-- v's block is one of S. -/
def inS (S : Nat → Prop) (v : Value) : Prop := ∀ b, blockOf v = some b → S b
section
variable {C D : HC} {e sz n : Nat} {v : Value} {cs : List Value} {S : Nat → Prop}
theorem inS_nil {S : Nat → Prop} : inS S (.slice none 0 0) := fun b hb => by cases hb
theorem inS_at {S : Nat → Prop} {b o n c : Nat} (h : S b) : inS S (.slice (some ⟨b, o, none⟩) n c) := fun q hq => by cases hq; exact h
theorem inS.mono {S S' : Nat → Prop} {v : Value} (h : inS S v) (hs : ∀ b, S b → S' b) : inS S' v := fun b hb => hs b (h b hb)
theorem filter_snoc {α : Type} (p : α → Bool) (l : List α) (x : α) : (l ++ [x]).filter p = l.filter p ++ if p x then [x] else [] := by
  rw [List.filter_append]
  congr 1
  cases hq : p x <;> simp [hq]
theorem lcutA (l : List Value) : lcut 0 l.length l = Option.some l := by
  rw [lcut_of (by omega), List.drop_zero, List.take_length]
theorem Rw.chg (h : Rw C e sz v n cs) (g : Chg S C D) (hs : inS (fun b => ¬ S b) v) : Rw D e sz v n cs := by
  rcases h with h | ⟨b, off, cap, own, all, h1, h0, h2, h3⟩
  · exact .inl h
  · exact .inr ⟨b, off, cap, own, all, h1, h0, g.get _ _ (hs b (by rw [h1]; rfl)) h2, h3⟩
theorem Rw.gr (h : Rw C e sz v n cs) (g : Gr C D) : Rw D e sz v n cs := h.chg g fun _ _ => id
theorem Ow.chg (h : Ow C e sz v n cs) (g : Chg S C D) (hs : inS (fun b => ¬ S b) v) : Ow D e sz v n cs := by
  rcases h with h | ⟨b, c, h1, h0, h2, h3⟩
  · exact .inl h
  · exact .inr ⟨b, c, h1, h0, g.get _ _ (hs b (by rw [h1]; rfl)) h2, h3⟩
theorem Ow.gr (h : Ow C e sz v n cs) (g : Gr C D) : Ow D e sz v n cs := h.chg g fun _ _ => id
theorem Ow.rw (h : Ow C e sz v n cs) : Rw C e sz v n cs := by
  rcases h with h | ⟨b, c, h1, h0, h2, h3, h4⟩
  · exact .inl h
  · exact .inr ⟨b, 0, c, true, cs, h1, h0, h2, by rw [← h3]; exact lcutA cs⟩
theorem Ow.mk {b : Nat} (hg : C.get b = Option.some (.cells true e cs)) (hl : cs.length = n * sz) (hn : n ≤ U) : Ow C e sz (.slice (Option.some ⟨b, 0, none⟩) n U) n cs := .inr ⟨b, U, rfl, hn, hg, hl, .inl rfl⟩
theorem Ow.mk0 {b : Nat} (hg : C.get b = Option.some (.cells true e [])) : Ow C e sz (.slice (Option.some ⟨b, 0, none⟩) 0 0) 0 [] := .inr ⟨b, 0, rfl, Nat.le_refl _, hg, by simp, .inr ⟨rfl, rfl⟩⟩
theorem Ow.nil : Ow C e sz (.slice none 0 0) 0 [] := .inl ⟨rfl, rfl, rfl⟩
theorem Rw.nil : Rw C e sz (.slice none 0 0) 0 [] := .inl ⟨rfl, rfl, rfl⟩
theorem Rw.len (h : Rw C e sz v n cs) : cs.length = n * sz := by
  rcases h with ⟨_, rfl, rfl⟩ | ⟨b, off, cap, own, all, h1, h0, h2, h3⟩
  · simp
  · exact (lcut_some h3).2
theorem Rw.sl (h : Rw C e sz v n cs) : ∃ a c, v = .slice a n c := by
  rcases h with ⟨rfl, rfl, _⟩ | ⟨b, off, cap, own, all, h1, h0, h2, h3⟩
  · exact ⟨_, _, rfl⟩
  · exact ⟨_, _, h1⟩
theorem Rw.lt (h : Rw C e sz v n cs) (w : C.wf) : inS (· < C.next) v := by
  rcases h with ⟨rfl, _, _⟩ | ⟨b, off, cap, own, all, rfl, h0, h2, h3⟩
  · intro b hb; cases hb
  · intro d hd; cases hd; exact w.lt h2
theorem Rw.fresh {b cap : Nat} (hl : cs.length = n * sz) (hc : n ≤ cap) {own : Bool} (hg : C.get b = Option.some (.cells own e cs)) : Rw C e sz (.slice (Option.some ⟨b, 0, none⟩) n cap) n cs :=
  .inr ⟨b, 0, cap, own, cs, rfl, hc, hg, by rw [← hl]; exact lcutA cs⟩
theorem Ow.snoc {α : Type} {f : α → Value} {l : List α} {x : α} {ds : List Value} (o : Ow C e 1 v (l.length + 1) (l.map f ++ ds)) (hd : ds = [f x]) : Ow C e 1 v (l ++ [x]).length ((l ++ [x]).map f) := by
  subst hd
  rw [List.length_append, List.map_append]
  exact o
theorem Rw.blk {q : Nat} (h : Rw C e sz v n cs) (hq : blockOf v = Option.some q) : ∃ own ds, C.get q = Option.some (.cells own e ds) := by
  rcases h with ⟨rfl, _⟩ | ⟨b, off, cap, own, all, rfl, h0, h2, h3⟩
  · cases hq
  · cases hq; exact ⟨own, all, h2⟩
theorem Rw.ne {q : Nat} {B : Blk} (h : Rw C e sz v n cs) (hq : C.get q = Option.some B) (hB : ∀ own ds, B ≠ .cells own e ds) : inS (fun b => ¬ b = q) v := by
  rcases h with ⟨rfl, _⟩ | ⟨b, off, cap, own, all, rfl, h0, h2, h3⟩
  · exact inS_nil
  · refine inS_at fun e => ?_
    subst e
    rw [hq] at h2
    cases h2
    exact hB _ _ rfl
/-- Rows of other elements lie elsewhere. -/
theorem Rw.apart {e' sz' n' : Nat} {v' : Value} {cs' : List Value} (h : Rw C e sz v n cs) (h' : Rw C e' sz' v' n' cs') (hne : e ≠ e') : inS (fun b => ¬ blockOf v' = Option.some b) v := by
  rcases h with ⟨rfl, _⟩ | ⟨b, off, cap, own, all, rfl, h0, h2, h3⟩
  · exact inS_nil
  · refine inS_at fun e => ?_
    rcases h' with ⟨rfl, _⟩ | ⟨b', off', cap', own', all', rfl, h0', h2', h3'⟩
    · cases e
    · cases e
      rw [h2] at h2'
      cases h2'
      exact hne rfl
theorem Ow.snocF {α : Type} {enc : α → List Value} {l : List α} {x : α} {ds : List Value} (o : Ow C e sz v (l.length + 1) ((l.map enc).flatten ++ ds)) (hd : ds = enc x) : Ow C e sz v (l ++ [x]).length (((l ++ [x]).map enc).flatten) := by
  subst hd
  rw [List.length_append, List.map_append, List.flatten_append, List.map_cons, List.map_nil, List.flatten_cons, List.flatten_nil, List.append_nil]
  exact o
theorem Fw.chg (h : Fw C e sz v n cs) (g : Chg S C D) (hs : inS (fun b => ¬ S b) v) : Fw D e sz v n cs := by
  obtain ⟨b, h1, h2, h3⟩ := h
  exact ⟨b, h1, g.get _ _ (hs b (by rw [h1]; rfl)) h2, h3⟩
theorem Fw.gr (h : Fw C e sz v n cs) (g : Gr C D) : Fw D e sz v n cs := h.chg g fun _ _ => id
theorem Fw.rw (h : Fw C e sz v n cs) : Rw C e sz v n cs := by
  obtain ⟨b, rfl, h2, h3⟩ := h
  exact .inr ⟨b, 0, n, true, cs, rfl, Nat.le_refl _, h2, by rw [← h3]; exact lcutA cs⟩
/-- The value at a cell of a row. -/
def ixV (v : Value) (k : Nat) : Value := match v with
  | .slice (some a) _ _ => .pointer (some (a.add k))
  | _ => undef
theorem Rw.look (h : Rw C e sz v n cs) (hn : 0 < n) : ∃ b off cap own all, v = .slice (some ⟨b, off, none⟩) n cap ∧ C.get b = some (.cells own e all) ∧ ∀ k, k < n * sz → all[off + k]? = cs[k]? := by
  rcases h with ⟨_, rfl, _⟩ | ⟨b, off, cap, own, all, h1, h0, h2, h3⟩
  · omega
  · refine ⟨b, off, cap, own, all, h1, h2, fun k hk => ?_⟩
    rw [(lcut_some h3).1, List.getElem?_take, if_pos hk, List.getElem?_drop]
theorem Rw.part (h : Rw C e sz v n cs) (hn : 0 < n) : ∃ b off cap own all, v = .slice (some ⟨b, off, none⟩) n cap ∧ C.get b = some (.cells own e all) ∧ ∀ m k u, k + m.getD 1 ≤ n * sz → partOf m k cs = some u → partOf m (off + k) all = some u := by
  rcases h with ⟨_, rfl, _⟩ | ⟨b, off, cap, own, all, h1, h0, h2, h3⟩
  · omega
  · refine ⟨b, off, cap, own, all, h1, h2, fun m k u hk hu => ?_⟩
    have hcs := (lcut_some h3).1
    cases m with
    | none =>
      simp only [partOf, Option.getD_none] at hu hk ⊢
      rw [hcs, List.getElem?_take, if_pos (by omega), List.getElem?_drop] at hu
      exact hu
    | some m =>
      simp only [partOf, Option.getD_some, Option.map_eq_some_iff] at hu hk ⊢
      obtain ⟨r, hr, rfl⟩ := hu
      refine ⟨r, ?_, rfl⟩
      obtain ⟨h5, h6⟩ := lcut_some hr
      subst hcs
      rw [List.drop_take, List.take_take, List.drop_drop, Nat.min_eq_left (by omega)] at h5
      have h7 := h6
      rw [h5, List.length_take, List.length_drop] at h7
      by_cases hm : m = 0
      · subst hm
        rw [List.take_zero] at h5
        subst h5
        simp [lcut]
      · rw [lcut_of (by omega), ← h5]
theorem Rw.fill (h : Rw C e sz v n cs) {H : Heap} (hH : H.c = C) {T : Tr Value} {zs : List Value} : newCells T H sz zs false v = Option.some (n, cs) := by
  subst hH
  rcases h with ⟨rfl, rfl, rfl⟩ | ⟨b, off, cap, own, all, rfl, h0, h2, h3⟩
  · rfl
  · have h2 : H.get b = some (.cells own e all) := h2
    simp only [newCells, h2, h3, Option.map_some]
/-- A cut of a row. -/
theorem Rw.cut (h : Rw C e sz v n cs) (lo hi : Option Nat) (h1 : lo.getD 0 ≤ hi.getD n) (h2 : hi.getD n ≤ n) :
    ∃ v', oCut sz v (some lo) (some hi) (some none) = some v' ∧ Rw C e sz v' (hi.getD n - lo.getD 0) ((cs.drop (lo.getD 0 * sz)).take ((hi.getD n - lo.getD 0) * sz)) ∧ (∀ q, blockOf v' = some q → blockOf v = some q) := by
  rcases h with ⟨rfl, rfl, rfl⟩ | ⟨b, off, cap, own, all, rfl, h0, hg, h3⟩
  · have e1 : hi.getD 0 = 0 := by omega
    have e2 : lo.getD 0 = 0 := by omega
    refine ⟨.slice none 0 0, ?_, ?_, fun q hq => hq⟩
    · have hu : Nat.beq 0 U = false := rfl
      simp only [oCut, hu, e1, e2]
      rfl
    · rw [e1, e2]
      simp only [Nat.sub_self, Nat.zero_mul, List.drop_nil, List.take_nil]
      exact Rw.nil
  · obtain ⟨h5, h6⟩ := lcut_some h3
    generalize hl : lo.getD 0 = l at h1 ⊢
    generalize hh : hi.getD n = r at h1 h2 ⊢
    have hle : l * sz + (r - l) * sz ≤ n * sz := by rw [← Nat.add_mul]; exact Nat.mul_le_mul_right sz (by omega)
    have hc : lcut (off + l * sz) ((r - l) * sz) all = some ((cs.drop (l * sz)).take ((r - l) * sz)) := by
      have e : (cs.drop (l * sz)).take ((r - l) * sz) = (all.drop (off + l * sz)).take ((r - l) * sz) := by
        rw [h5, List.drop_take, List.take_take, List.drop_drop, Nat.min_eq_left (by omega)]
      have e2 : ((all.drop (off + l * sz)).take ((r - l) * sz)).length = (r - l) * sz := by
        rw [← e, List.length_take, List.length_drop, h6]
        omega
      rw [e]
      by_cases hm : (r - l) * sz = 0
      · rw [hm, List.take_zero]
        simp [lcut]
      · rw [List.length_take, List.length_drop] at e2
        exact lcut_of (by omega)
    by_cases hu : cap = U
    · subst hu
      refine ⟨.slice (some ⟨b, off + l * sz, none⟩) (r - l) U, ?_, .inr ⟨b, off + l * sz, U, own, all, rfl, by omega, hg, hc⟩, fun q hq => hq⟩
      have hb : Nat.beq U U = true := Nat.beq_refl U
      simp only [oCut, hb, cutGo, Option.getD_none, Option.isNone_none, hl, hh, Nat.ble_eq_true_of_le (Nat.le_refl n), Nat.ble_eq_true_of_le h2, Nat.ble_eq_true_of_le h1, Option.map_some, add_none]
    · have hb : Nat.beq cap U = false := by
        cases hq : Nat.beq cap U with
        | false => rfl
        | true => exact (hu (Nat.eq_of_beq_eq_true hq)).elim
      cases hq : Nat.beq cap l with
      | false =>
        refine ⟨.slice (some ⟨b, off + l * sz, none⟩) (r - l) (cap - l), ?_, .inr ⟨b, off + l * sz, cap - l, own, all, rfl, by omega, hg, hc⟩, fun q hq => hq⟩
        simp only [oCut, hb, cutGo, Option.getD_none, hl, hh, Nat.ble_eq_true_of_le (Nat.le_refl cap), Nat.ble_eq_true_of_le (Nat.le_trans h2 h0), Nat.ble_eq_true_of_le h1, Option.map_some, add_none, hq]
      | true =>
        have hq' := Nat.eq_of_beq_eq_true hq
        have e : r - l = 0 := by omega
        refine ⟨.slice (some ⟨b, off, none⟩) (r - l) (cap - l), ?_, .inr ⟨b, off, cap - l, own, all, rfl, by omega, hg, ?_⟩, fun q hq => hq⟩
        · simp only [oCut, hb, cutGo, Option.getD_none, hl, hh, Nat.ble_eq_true_of_le (Nat.le_refl cap), Nat.ble_eq_true_of_le (Nat.le_trans h2 h0), Nat.ble_eq_true_of_le h1, hq]
        · rw [e, Nat.zero_mul, List.take_zero]
          simp [lcut]
/-! rows of elements of several cells -/
section
variable {α : Type} {enc : α → List Value} {q : Nat} (hlen : ∀ x, (enc x).length = q) {xs : List α} {j : Nat}
include hlen
theorem flat_drop (hj : j < xs.length) : ∃ r, ((xs.map enc).flatten).drop (j * q) = enc xs[j] ++ r := by
  induction xs generalizing j with
  | nil => simp at hj
  | cons x l ih =>
    cases j with
    | zero => exact ⟨(l.map enc).flatten, by simp⟩
    | succ j =>
      obtain ⟨r, hr⟩ := ih (j := j) (by simpa using hj)
      refine ⟨r, ?_⟩
      rw [List.map_cons, List.flatten_cons, show (j + 1) * q = (enc x).length + j * q by rw [hlen, Nat.add_mul]; omega, ← List.drop_drop, List.drop_left]
      exact hr
theorem flat_part (hj : j < xs.length) : partOf (some q) (j * q) ((xs.map enc).flatten) = some (.agg ⟨enc xs[j]⟩) := by
  obtain ⟨r, hr⟩ := flat_drop hlen hj
  have h1 : (enc xs[j] ++ r).take q = enc xs[j] := by rw [← hlen xs[j], List.take_left]
  have h2 : Nat.beq (enc xs[j]).length q = true := by rw [hlen]; exact Nat.beq_refl q
  simp only [partOf, lcut, hr, h1, h2, Option.map_some]
theorem flat_cell {k : Nat} (hj : j < xs.length) (hk : k < q) : partOf none (j * q + k) ((xs.map enc).flatten) = (enc xs[j])[k]? := by
  obtain ⟨r, hr⟩ := flat_drop hlen hj
  simp only [partOf]
  rw [← List.getElem?_drop, hr, List.getElem?_append_left (by rw [hlen]; exact hk)]
theorem flatLen : ((xs.map enc).flatten).length = xs.length * q := by
  induction xs with
  | nil => simp
  | cons x l ih => rw [List.map_cons, List.flatten_cons, List.length_append, hlen, ih, List.length_cons, Nat.add_mul]; omega
end
/-- A row of cells, one each. -/
theorem one_cell {α : Type} {f : α → Value} {xs : List α} {j : Nat} (hj : j < xs.length) : partOf none (j * 1) (xs.map f) = some (f xs[j]) := by
  simp only [partOf, Nat.mul_one, List.getElem?_map, List.getElem?_eq_getElem hj, Option.map_some]
end
section
variable {P : Program} {cf : CallF} {k : Nat} {l : List AOper} {L : Lv} {H : Heap} {Q : Lv → Heap → Prop} {d : Option Nat} {fp : Bool} {o : AOp} {v u w : Value} {x y z : Arg} {R W : List Nat}
/-! rules of operations that look at rows -/
theorem o_ix {e sz size n i : Nat} {cs : List Value} {κ : IntKind} (hr : Rw H.c e sz v n cs) (hx : av L x = some v) (hy : av L y = some (.int κ (i : Int))) (hi : i < n) : Op P cf L H (.indexAddr size x y) (ixV v (i * size)) H := by
  obtain ⟨b, off, cap, own, all, rfl, -⟩ := hr.look (by omega)
  have := o_indexAddr (P := P) (cf := cf) (H := H) (size := size) hx hy hi
  rwa [← add_none] at this
theorem o_ixf {e sz n j off : Nat} {cs : List Value} (hr : Rw H.c e sz v n cs) (hn : 0 < n) (hx : av L x = some (ixV v j)) : Op P cf L H (.fieldAddr off x) (ixV v (j + off)) H := by
  obtain ⟨b, o, cap, own, all, rfl, -⟩ := hr.look hn
  have hx : av L x = some (.pointer (some ⟨b, o + j, none⟩)) := by rw [hx]; simp only [ixV, add_none]
  have := o_fieldAddr (P := P) (cf := cf) (H := H) (off := off) hx
  rwa [Nat.add_assoc, ← add_none] at this
theorem o_ld {e sz n j : Nat} {m : Option Nat} {cs : List Value} (hr : Rw H.c e sz v n cs) (hx : av L x = some (ixV v j)) (hj : j + m.getD 1 ≤ n * sz) (hn : 0 < n) (hu : partOf m j cs = some u) : Op P cf L H (.load m x) u H := by
  obtain ⟨b, o, cap, own, all, rfl, h2, h3⟩ := hr.part hn
  have hx : av L x = some (.pointer (some ⟨b, o + j, none⟩)) := by rw [hx]; simp only [ixV, add_none]
  exact o_load hx h2 (h3 m j u hj hu)
theorem o_len {e sz n : Nat} {cs : List Value} (hr : Rw H.c e sz v n cs) (hx : av L x = some v) : Op P cf L H (.len .row x) (.int .i64 (n : Int)) H := by
  obtain ⟨a, c, rfl⟩ := hr.sl
  exact o_lenRow hx
/-- What an argument that may be left out is. -/
def avN (L : Lv) : Option Arg → Option (Option Nat)
  | none => some none
  | some x => (av L x).bind fun v => (natOf v).map some
theorem avN_eq {T : Tr Value} (hT : TL T L) {a : Option Arg} {n : Option Nat} (h : avN L a = some n) : optNat T a = some n := by
  cases a with
  | none => exact h
  | some x =>
    simp only [avN, Option.bind_eq_some_iff] at h
    obtain ⟨v, h1, h2⟩ := h
    simp only [optNat, hT.ev h1, h2]
theorem XO.cut {e size n : Nat} {cs : List Value} {a b : Option Arg} {lo hi : Option Nat} (hr : Rw H.c e size v n cs) (hx : av L x = some v) (ha : avN L a = some lo) (hb : avN L b = some hi) (h1 : lo.getD 0 ≤ hi.getD n) (h2 : hi.getD n ≤ n)
    (hk : ∀ v', Rw H.c e size v' (hi.getD n - lo.getD 0) ((cs.drop (lo.getD 0 * size)).take ((hi.getD n - lo.getD 0) * size)) → (∀ q, blockOf v' = some q → blockOf v = some q) → XO P cf l (putL L d v') H Q) : XO P cf (⟨d, none, fp, .cut e size x a b none⟩ :: l) L H Q := by
  obtain ⟨v', h3, h4, h5⟩ := hr.cut lo hi h1 h2
  refine XO.op (fun T hT => ?_) (hk v' h4 h5)
  have hz : optNat T none = some none := rfl
  simp only [opRun, hT.ev hx, avN_eq hT ha, avN_eq hT hb, hz, h3]
  rcases hr with ⟨rfl, _⟩ | ⟨b, off, cap, own, all, rfl, h0, hg, _⟩
  · simp only [oCutH, up]
  · have hg : H.get b = some (.cells own e all) := hg
    simp only [oCutH, hg, Nat.beq_refl, up]
theorem XD.cut {e size n : Nat} {cs : List Value} {a b : Option Arg} {lo hi : Option Nat} (hr : Rw H.c e size v n cs) (hx : av L x = some v) (ha : avN L a = some lo) (hb : avN L b = some hi) (h1 : lo.getD 0 ≤ hi.getD n) (h2 : hi.getD n ≤ n)
    (hk : ∀ v', Rw H.c e size v' (hi.getD n - lo.getD 0) ((cs.drop (lo.getD 0 * size)).take ((hi.getD n - lo.getD 0) * size)) → (∀ q, blockOf v' = some q → blockOf v = some q) → XD P cf l R W (putL L d v') H Q) : XD P cf (⟨d, none, false, .cut e size x a b none⟩ :: l) R W L H Q := by
  obtain ⟨v', h3, h4, h5⟩ := hr.cut lo hi h1 h2
  refine XD.pure (fun T hT => ?_) (hk v' h4 h5)
  have hz : optNat T none = some none := rfl
  simp only [opRun, hT.ev hx, avN_eq hT ha, avN_eq hT hb, hz, h3]
  rcases hr with ⟨rfl, _⟩ | ⟨b, off, cap, own, all, rfl, h0, hg, _⟩
  · simp only [oCutH, up]
  · have hg : (noWl H).get b = some (.cells own e all) := hg
    simp only [oCutH, hg, Nat.beq_refl, up]
theorem o_eq {κ : IntKind} {a b : Int} {t : TypeId} {lit : Bool} (hx : av L x = some (.int κ a)) (hy : av L y = some (.int κ b)) : Op P cf L H (.bin .eql t lit x y) (.bool (decide (a = b))) H := o_eql hx hy (by rw [Bool.eq_iff_iff]; simp)
theorem o_ne {κ : IntKind} {a b : Int} {t : TypeId} {lit : Bool} (hx : av L x = some (.int κ a)) (hy : av L y = some (.int κ b)) : Op P cf L H (.bin .neq t lit x y) (.bool (decide (a ≠ b))) H := o_neq hx hy (by rw [Bool.eq_iff_iff]; simp)
theorem o_pick {q : Bool} (hz : av L z = some (.bool q)) (hx : av L x = some u) (hy : av L y = some w) : Op P cf L H (.pick z x y) (bif q then u else w) H := by
  cases q with
  | true => exact o_pick_t hz hx
  | false => exact o_pick_f hz hy
theorem o_rangeS {s : ByteArray} (hx : av L x = some (.string s)) : Op P cf L H (.rangeS x) (.pointer (some ⟨H.next, 0, none⟩)) (H.new (.iter s 0)) := fun T hT => by simp only [opRun, hT.ev hx, oRangeS]
theorem o_next_t {s : ByteArray} {b pos : Nat} (hx : av L x = some (.pointer (some ⟨b, 0, none⟩))) (hb : H.c.get b = some (.iter s pos)) (hp : pos < s.size) : Op P cf L H (.next x) (.tuple #[.bool true, .int .i64 (pos : Int), .int .i32 (Utf8.decode s pos).1]) (H.upd b (.iter s (pos + (Utf8.decode s pos).2))) := fun T hT => by
  have hb : H.get b = some (.iter s pos) := hb
  have h1 : Nat.blt pos s.size = true := Nat.ble_eq_true_of_le hp
  simp only [opRun, hT.ev hx, oNext, hb, h1]
  rfl
theorem o_next_f {s : ByteArray} {b pos : Nat} (hx : av L x = some (.pointer (some ⟨b, 0, none⟩))) (hb : H.c.get b = some (.iter s pos)) (hp : s.size ≤ pos) : Op P cf L H (.next x) (.tuple #[.bool false]) H := fun T hT => by
  have hb : H.get b = some (.iter s pos) := hb
  have h1 : Nat.blt pos s.size = false := by
    cases hq : Nat.blt pos s.size with
    | false => rfl
    | true => have := Nat.le_of_ble_eq_true hq; omega
  simp only [opRun, hT.ev hx, oNext, hb, h1]
theorem o_bytes {e : TypeId} {s : ByteArray} (hx : av L x = some (.string s)) (hs : s.size ≤ room) : Op P cf L H (.bytes e x) (.slice (some ⟨H.next, 0, none⟩) s.size U) (H.new (.cells true e (byteCells s.data.toList))) := fun T hT => by
  simp only [opRun, hT.ev hx, oBytes, Nat.ble_eq_true_of_le hs, freshRow]
theorem o_cutS {s : ByteArray} {a b : Option Arg} {lo hi : Option Nat} (hx : av L x = some (.string s)) (ha : avN L a = some lo) (hb : avN L b = some hi) (h1 : lo.getD 0 ≤ hi.getD s.size) (h2 : hi.getD s.size ≤ s.size) : Op P cf L H (.cutS x a b) (.string (s.extract (lo.getD 0) (hi.getD s.size))) H := fun T hT => by
  simp only [opRun, hT.ev hx, avN_eq hT ha, avN_eq hT hb, oCutS, Nat.ble_eq_true_of_le h1, Nat.ble_eq_true_of_le h2, up]
theorem o_convS {κ : IntKind} {n : Int} (hx : av L x = some (.int κ n)) : Op P cf L H (.convS x) (.string (Utf8.encode n)) H := fun T hT => by simp only [opRun, hT.ev hx, oConvS, up]
theorem o_indexS {s : ByteArray} {κ : IntKind} {i : Nat} (hx : av L x = some (.string s)) (hy : av L y = some (.int κ (i : Int))) (hi : i < s.data.toList.length) : Op P cf L H (.indexS x y) (.int .u8 (s.data.toList[i].toNat : Int)) H := fun T hT => by
  simp only [opRun, hT.ev hx, hT.ev hy, natOf, ← Tr_nat, oIndexS, List.getElem?_eq_getElem hi, Option.map_some, up]
theorem o_shr {κ κ' : IntKind} {a b : Nat} {t : TypeId} {lit : Bool} (hx : av L x = some (.int κ (a : Int))) (hy : av L y = some (.int κ' (b : Int))) (hb : b ≤ bitsN κ) : Op P cf L H (.bin .shr t lit x y) (.int κ ((a / 2 ^ b : Nat) : Int)) H := o_bin hx hy (by
  simp only [oBin, ← Tr_nat, binII, binNN, isShift, shN, Nat.ble_eq_true_of_le hb, orSlow])
theorem o_shl {κ κ' : IntKind} {a b : Nat} {t : TypeId} {lit : Bool} (hx : av L x = some (.int κ (a : Int))) (hy : av L y = some (.int κ' (b : Int))) (hb : b ≤ bitsN κ) (hm : a * 2 ^ b ≤ maxN κ) : Op P cf L H (.bin .shl t lit x y) (.int κ ((a * 2 ^ b : Nat) : Int)) H := o_bin hx hy (by
  simp only [oBin, ← Tr_nat, binII, binNN, isShift, shN, Nat.ble_eq_true_of_le hb, small, Nat.ble_eq_true_of_le hm, orSlow])
theorem kindB_self (κ : IntKind) : kindB κ κ = true := by cases κ <;> rfl
theorem o_or {κ : IntKind} {a b : Nat} {t : TypeId} {lit : Bool} (hx : av L x = some (.int κ (a : Int))) (hy : av L y = some (.int κ (b : Int))) (ha : a ≤ maxN κ) (hb : b ≤ maxN κ) : Op P cf L H (.bin .or t lit x y) (.int κ ((Nat.lor a b : Nat) : Int)) H := o_bin hx hy (by
  simp only [oBin, ← Tr_nat, binII, binNN, isShift, kindB_self, bin1, both, Nat.ble_eq_true_of_le ha, Nat.ble_eq_true_of_le hb, orSlow])
theorem o_andN {κ : IntKind} {a b : Nat} {t : TypeId} {lit : Bool} (hx : av L x = some (.int κ (a : Int))) (hy : av L y = some (.int κ (b : Int))) (ha : a ≤ maxN κ) (hb : b ≤ maxN κ) : Op P cf L H (.bin .and t lit x y) (.int κ ((Nat.land a b : Nat) : Int)) H := o_bin hx hy (by
  simp only [oBin, ← Tr_nat, binII, binNN, isShift, kindB_self, bin1, both, Nat.ble_eq_true_of_le ha, Nat.ble_eq_true_of_le hb, orSlow])
theorem o_xorN {κ : IntKind} {a b : Nat} {t : TypeId} {lit : Bool} (hx : av L x = some (.int κ (a : Int))) (hy : av L y = some (.int κ (b : Int))) (ha : a ≤ maxN κ) (hb : b ≤ maxN κ) : Op P cf L H (.bin .xor t lit x y) (.int κ ((Nat.xor a b : Nat) : Int)) H := o_bin hx hy (by
  simp only [oBin, ← Tr_nat, binII, binNN, isShift, kindB_self, bin1, both, Nat.ble_eq_true_of_le ha, Nat.ble_eq_true_of_le hb, orSlow])
theorem o_cpl {a : Nat} (hx : av L x = some (.int .u32 (a : Int))) (ha : a < 4294967296) : Op P cf L H (.un .xor x) (.int .u32 ((Nat.xor 4294967295 a : Nat) : Int)) H := fun T hT => by
  have h1 : pr P (Op.unary .xor (.int .u32 (a : Int))) = some (.int .u32 ((Nat.xor 4294967295 a : Nat) : Int)) := by
    have hb : (BitVec.ofInt 32 4294967295 ^^^ BitVec.ofInt 32 (a : Int)).toNat = Nat.xor 4294967295 a := by
      rw [BitVec.toNat_xor, show (BitVec.ofInt 32 4294967295).toNat = 4294967295 from rfl, show (BitVec.ofInt 32 (a : Int)).toNat = a by simp; omega]
      rfl
    have hlt : Nat.xor 4294967295 a < 4294967296 := by
      have := (BitVec.ofInt 32 4294967295 ^^^ BitVec.ofInt 32 (a : Int)).isLt
      rw [hb] at this
      exact this
    show some (Value.int .u32 (IntKind.u32.wrap ((BitVec.ofInt 32 4294967295 ^^^ BitVec.ofInt 32 (a : Int)).toNat : Int))) = _
    rw [hb]
    generalize Nat.xor 4294967295 a = z at hlt
    congr 2
    simp [IntKind.wrap, IntKind.bits, IntKind.signed]
    omega
  simp only [opRun, hT.ev hx, oUn, plainV, h1, Option.bind_some, up]
theorem o_mark {b n c : Nat} {e : TypeId} {cs : List Value} (hx : av L x = some (.slice (some ⟨b, 0, none⟩) n c)) (hb : H.c.get b = some (.cells true e cs)) : Op P cf L H (.mark x) (.slice (some ⟨b, 0, none⟩) n c) (H.upd b (.cells true e cs)) := fun T hT => by
  have hb : H.get b = some (.cells true e cs) := hb
  simp only [opRun, hT.ev hx, oMark, hb]
theorem o_mnmx {mx : Bool} {xs : List Arg} {vs : List Value} (ha : avs L xs = some vs) (h : mnmxV mx vs = some v) : Op P cf L H (.mnmx mx xs) v H := fun T hT => by simp only [opRun, hT.evs ha, h, up]
theorem o_min2 {κ κ' : IntKind} {xs : List Arg} {a b : Int} (ha : avs L xs = some [.int κ a, .int κ' b]) : Op P cf L H (.mnmx false xs) (.int κ (min a b)) H := o_mnmx ha (by
  show some (Value.int κ (if b < a then b else a)) = _
  rw [show min a b = if b < a then b else a by split <;> omega])
theorem o_max2 {κ κ' : IntKind} {xs : List Arg} {a b : Int} (ha : avs L xs = some [.int κ a, .int κ' b]) : Op P cf L H (.mnmx true xs) (.int κ (max a b)) H := o_mnmx ha (by
  show some (Value.int κ (if b > a then b else a)) = _
  rw [show max a b = if b > a then b else a by split <;> omega])
theorem o_min4 {κ κ1 κ2 κ3 : IntKind} {xs : List Arg} {a b c d : Int} (ha : avs L xs = some [.int κ a, .int κ1 b, .int κ2 c, .int κ3 d]) : Op P cf L H (.mnmx false xs) (.int κ (min (min (min a b) c) d)) H := o_mnmx ha (by
  have key : ∀ x y : Int, (if y < x then y else x) = min x y := fun x y => by split <;> omega
  show some (Value.int κ (if d < (if c < (if b < a then b else a) then c else (if b < a then b else a)) then d else (if c < (if b < a then b else a) then c else (if b < a then b else a)))) = _
  rw [key, key, key])
theorem slow_eqS {t : TypeId} (a b : ByteArray) : slow P .eql t (.string a) (.string b) = some (.bool (decide (a = b))) := slow_of rfl rfl rfl (by
  simp only [binOp, Op.stringOp, pr_pure, ByteArray.toList_eq]
  congr 2
  rw [Bool.eq_iff_iff]
  simp only [beq_iff_eq, decide_eq_true_eq]
  refine ⟨fun h => ?_, fun h => by rw [h]⟩
  cases a
  cases b
  simp only at h
  rw [Array.ext' h])
theorem o_eqS {a b : ByteArray} {t : TypeId} {lit : Bool} (hx : av L x = some (.string a)) (hy : av L y = some (.string b)) : Op P cf L H (.bin .eql t lit x y) (.bool (decide (a = b))) H := o_bin hx hy (by
  have e : oBin P .eql t lit (.string a) (.string b) = slow P .eql t (.string a) (.string b) := rfl
  rw [e, slow_eqS])
theorem o_addS {a b : ByteArray} {t : TypeId} {lit : Bool} (hx : av L x = some (.string a)) (hy : av L y = some (.string b)) (hs : a.size + b.size ≤ 9223372036854775807) : Op P cf L H (.bin .add t lit x y) (.string (a ++ b)) H := o_bin hx hy (by
  have e : oBin P .add t lit (.string a) (.string b) = slow P .add t (.string a) (.string b) := rfl
  rw [e]
  refine slow_of rfl rfl rfl ?_
  have hm : IntKind.i64.max = 9223372036854775807 := rfl
  simp only [binOp, Op.stringOp, hm]
  rw [if_neg (by omega)]
  rfl)
theorem o_func {fn : Fn} {a1 a2 : List Arg} {v1 v2 : List Value} (h1 : avs L a1 = some v1) (h2 : avs L a2 = some v2) : Op P cf L H (.func fn a1 a2) (.func fn ⟨v1⟩ ⟨v2⟩) H := fun T hT => by
  simp only [opRun, oFunc, hT.evs h1, hT.evs h2, up]
theorem o_get {m : Option Nat} {b off : Nat} {own : Bool} {e : TypeId} {cs : List Value} (hx : av L x = some (.pointer (some ⟨b, off, none⟩))) (hb : H.c.get b = some (.cells own e cs)) (hv : partOf m off cs = some v) : Op P cf L H (.load m x) v H := o_load hx hb hv
theorem o_set {n b off : Nat} {e : TypeId} {cs cs' : List Value} (hx : av L x = some (.pointer (some ⟨b, off, none⟩))) (hy : av L y = some v) (hb : H.c.get b = some (.cells true e cs)) (hl : (cellL v).length = n) (hs : (cellL v).all scalar = true) (hv : splice cs off (cellL v) = some cs') :
    Op P cf L H (.store n x y) undef (H.upd b (.cells true e cs')) := o_store hx hy hb hl hs hv
theorem XO.cutL {α : Type} {fn : α → Value} {zs : List α} {e k : Nat} {κ : IntKind} {a : Arg} (hr : Rw H.c e 1 v zs.length (zs.map fn)) (hx : av L x = some v) (ha : av L a = some (.int κ (k : Int))) (hle : k ≤ zs.length)
    (hk : ∀ v', Rw H.c e 1 v' (zs.drop k).length ((zs.drop k).map fn) → (∀ q, blockOf v' = some q → blockOf v = some q) → XO P cf l (putL L d v') H Q) : XO P cf (⟨d, none, fp, .cut e 1 x (some a) none none⟩ :: l) L H Q := by
  refine XO.cut (lo := some k) (hi := none) hr hx (by simp only [avN, ha, Option.bind_some]; rfl) rfl hle (Nat.le_refl _) fun v' h1 h2 => hk v' ?_ h2
  simp only [Option.getD_some, Option.getD_none, Nat.mul_one] at h1
  rw [List.length_drop, List.map_drop]
  rwa [List.take_of_length_le (by rw [List.length_drop, List.length_map]; omega)] at h1
/-! rules that give memory a new name -/
/-- An operation that makes a block. -/
theorem XO.nw {F : Nat → Value} {B : Blk} (h : Op P cf L H o (F H.next) (H.new B)) (w : H.c.wf) (hk : ∀ b G, H.c.next ≤ b → Gr H.c (Heap.c G) → G.c.get b = some B → XO P cf l (putL L d (F b)) G Q) : XO P cf (⟨d, none, fp, o⟩ :: l) L H Q :=
  XO.op h (hk H.next (H.new B) (Nat.le_refl _) (gr_new w) at_new)
theorem XO.nwp {B : Blk} (h : Op P cf L H o (.pointer (some ⟨H.next, 0, none⟩)) (H.new B)) (w : H.c.wf) (hk : ∀ b G, H.c.next ≤ b → Gr H.c (Heap.c G) → G.c.get b = some B → XO P cf l (putL L d (.pointer (some ⟨b, 0, none⟩))) G Q) : XO P cf (⟨d, none, fp, o⟩ :: l) L H Q := XO.nw (F := fun b => .pointer (some ⟨b, 0, none⟩)) h w hk
theorem XO.nws {B : Blk} {n c : Nat} (h : Op P cf L H o (.slice (some ⟨H.next, 0, none⟩) n c) (H.new B)) (w : H.c.wf) (hk : ∀ b G, H.c.next ≤ b → Gr H.c (Heap.c G) → G.c.get b = some B → XO P cf l (putL L d (.slice (some ⟨b, 0, none⟩) n c)) G Q) : XO P cf (⟨d, none, fp, o⟩ :: l) L H Q := XO.nw (F := fun b => .slice (some ⟨b, 0, none⟩) n c) h w hk
theorem XO.nwm {B : Blk} (h : Op P cf L H o (.map (some H.next)) (H.new B)) (w : H.c.wf) (hk : ∀ b G, H.c.next ≤ b → Gr H.c (Heap.c G) → G.c.get b = some B → XO P cf l (putL L d (.map (some b))) G Q) : XO P cf (⟨d, none, fp, o⟩ :: l) L H Q := XO.nw (F := fun b => .map (some b)) h w hk
theorem XO.up {b : Nat} {B C : Blk} (h : Op P cf L H o v (H.upd b B)) (hb : H.c.get b = some C) (hk : ∀ G, Chg (· = b) H.c (Heap.c G) → G.c.get b = some B → XO P cf l (putL L d v) G Q) : XO P cf (⟨d, none, fp, o⟩ :: l) L H Q :=
  XO.op h (hk _ (chg_upd hb) at_upd)
theorem XO.gt {g : Nat} {b : Bool} (hg : lk L g = some (.bool b)) (h : XO P cf (⟨d, none, fp, o⟩ :: l) L H Q) : XO P cf (⟨d, some (g, b), fp, o⟩ :: l) L H Q := fun T hT => by
  obtain ⟨T', H2, L', h1, h2, h3⟩ := h T hT
  refine ⟨T', H2, L', ?_, h2, h3⟩
  rw [← h1]
  simp only [opsRun, wanted_of hT hg, beq_self_eq_true]
  rfl
theorem XD.gt {g : Nat} {b : Bool} (hg : lk L g = some (.bool b)) (h : XD P cf (⟨d, none, fp, o⟩ :: l) R W L H Q) : XD P cf (⟨d, some (g, b), fp, o⟩ :: l) R W L H Q := fun T hT => by
  obtain ⟨T', H2, L', h1, h2, h3⟩ := h T hT
  refine ⟨T', H2, L', ?_, h2, h3⟩
  rw [← h1]
  simp only [drawRun, wanted_of hT hg, beq_self_eq_true]
  rfl
theorem wantedU {T : Tr Value} (hT : TL T L) {g : Nat} {b : Bool} (hg : lk L g = some undef) : wantedA T (some (g, b)) = false := by
  simp only [wantedA, hT g _ hg]
  rfl
theorem XO.passU {g : Nat} {b : Bool} (hg : lk L g = some undef) (hk : XO P cf l (putL L d undef) H Q) : XO P cf (⟨d, some (g, b), fp, o⟩ :: l) L H Q := fun T hT => by
  obtain ⟨T', H2, L', h1, h2, h3⟩ := hk (putT T d undef) (hT.put d undef)
  exact ⟨T', H2, L', by simp only [opsRun, wantedU hT hg, h1], h2, h3⟩
theorem XD.passU {g : Nat} {b : Bool} (hg : lk L g = some undef) (hk : XD P cf l R W (putL L d undef) H Q) : XD P cf (⟨d, some (g, b), fp, o⟩ :: l) R W L H Q := fun T hT => by
  obtain ⟨T', H2, L', h1, h2, h3⟩ := hk (putT T d undef) (hT.put d undef)
  exact ⟨T', H2, L', by simp only [drawRun, wantedU hT hg, h1], h2, h3⟩
theorem XD.nw {F : Nat → Value} {B : Blk} (h : Op P cf L (noWl H) o (F H.next) ((noWl H).new B)) (w : H.c.wf) (hk : ∀ b G, H.c.next ≤ b → Gr H.c (Heap.c G) → G.c.get b = some B → XD P cf l R W (putL L d (F b)) G Q) : XD P cf (⟨d, none, false, o⟩ :: l) R W L H Q :=
  XD.op h (hk H.next _ (Nat.le_refl _) (gr_new (H := noWl H) w) (at_new (H := noWl H)))
theorem XD.up {b : Nat} {B C : Blk} (h : Op P cf L (noWl H) o v ((noWl H).upd b B)) (hb : H.c.get b = some C) (hk : ∀ G, Chg (· = b) H.c (Heap.c G) → G.c.get b = some B → XD P cf l R W (putL L d v) G Q) : XD P cf (⟨d, none, false, o⟩ :: l) R W L H Q :=
  XD.op h (hk _ (chg_upd (H := noWl H) hb) (at_upd (H := noWl H)))
theorem XO.splitd {g : Nat} {p : Prop} [Decidable p] (hg : lk L g = some (.bool (decide p))) (h1 : p → XO P cf l ((g, .bool true) :: L) H Q) (h2 : ¬p → XO P cf l ((g, .bool false) :: L) H Q) : XO P cf l L H Q :=
  XO.split hg (fun h => h1 (of_decide_eq_true h)) (fun h => h2 (of_decide_eq_false h))
theorem XD.splitd {g : Nat} {p : Prop} [Decidable p] (hg : lk L g = some (.bool (decide p))) (h1 : p → XD P cf l R W ((g, .bool true) :: L) H Q) (h2 : ¬p → XD P cf l R W ((g, .bool false) :: L) H Q) : XD P cf l R W L H Q :=
  XD.split hg (fun h => h1 (of_decide_eq_true h)) (fun h => h2 (of_decide_eq_false h))
/-- What only looks, in a region where nothing was written yet. -/
theorem XD.lk (h : Op P cf L (noWl H) o v (noWl H)) (ha : acts o = false) (hk : ∀ R, XD P cf l R [] (putL L d v) H Q) : XD P cf (⟨d, none, fp, o⟩ :: l) R [] L H Q := by
  cases fp with
  | false => exact XD.pure h (hk R)
  | true =>
    intro T hT
    have h4 : opRun P cf T ⟨H.t, H.next, []⟩ o = some (v, noWl H) := h T hT
    have hm : ∃ R', mayMove o T (noWl H).wl R [] = some (R', []) := by
      unfold mayMove
      rw [ha]
      cases lookBlk T o with
      | none => exact ⟨_, rfl⟩
      | some b => exact ⟨_, rfl⟩
    obtain ⟨R', hm⟩ := hm
    obtain ⟨T', H2, L', h1, h2, h3⟩ := hk R' (putT T d v) (hT.put d v)
    refine ⟨T', H2, L', ?_, h2, h3⟩
    simp only [drawRun, wantedA, h4, hm]
    exact h1
theorem apart_nil (R : List Nat) : apart R [] = true := rfl
/-- A new block, in a region that draws. -/
theorem XD.nwFp {F : Nat → Value} {B : Blk} (h : Op P cf L (noWl H) o (F H.next) ((noWl H).new B)) (ha : acts o = true) (w : H.c.wf) (hk : ∀ b G, H.c.next ≤ b → Gr H.c (Heap.c G) → G.c.get b = some B → XD P cf l R W (putL L d (F b)) G Q) : XD P cf (⟨d, none, true, o⟩ :: l) R W L H Q :=
  XD.opFp h (R' := R) (W' := W) (fun T hT => by simp only [mayMove, ha]; rfl) (hk H.next _ (Nat.le_refl _) (gr_new (H := noWl H) w) (at_new (H := noWl H)))
theorem XD.nwp {B : Blk} (h : Op P cf L (noWl H) o (.pointer (some ⟨H.next, 0, none⟩)) ((noWl H).new B)) (w : H.c.wf) (hk : ∀ b G, H.c.next ≤ b → Gr H.c (Heap.c G) → G.c.get b = some B → XD P cf l R W (putL L d (.pointer (some ⟨b, 0, none⟩))) G Q) : XD P cf (⟨d, none, false, o⟩ :: l) R W L H Q := XD.nw (F := fun b => .pointer (some ⟨b, 0, none⟩)) h w hk
theorem XD.nws {B : Blk} {n c : Nat} (h : Op P cf L (noWl H) o (.slice (some ⟨H.next, 0, none⟩) n c) ((noWl H).new B)) (w : H.c.wf) (hk : ∀ b G, H.c.next ≤ b → Gr H.c (Heap.c G) → G.c.get b = some B → XD P cf l R W (putL L d (.slice (some ⟨b, 0, none⟩) n c)) G Q) : XD P cf (⟨d, none, false, o⟩ :: l) R W L H Q := XD.nw (F := fun b => .slice (some ⟨b, 0, none⟩) n c) h w hk
theorem XD.nwpFp {B : Blk} (h : Op P cf L (noWl H) o (.pointer (some ⟨H.next, 0, none⟩)) ((noWl H).new B)) (ha : acts o = true) (w : H.c.wf) (hk : ∀ b G, H.c.next ≤ b → Gr H.c (Heap.c G) → G.c.get b = some B → XD P cf l R W (putL L d (.pointer (some ⟨b, 0, none⟩))) G Q) : XD P cf (⟨d, none, true, o⟩ :: l) R W L H Q := XD.nwFp (F := fun b => .pointer (some ⟨b, 0, none⟩)) h ha w hk
theorem XD.nwsFp {B : Blk} {n c : Nat} (h : Op P cf L (noWl H) o (.slice (some ⟨H.next, 0, none⟩) n c) ((noWl H).new B)) (ha : acts o = true) (w : H.c.wf) (hk : ∀ b G, H.c.next ≤ b → Gr H.c (Heap.c G) → G.c.get b = some B → XD P cf l R W (putL L d (.slice (some ⟨b, 0, none⟩) n c)) G Q) : XD P cf (⟨d, none, true, o⟩ :: l) R W L H Q := XD.nwFp (F := fun b => .slice (some ⟨b, 0, none⟩) n c) h ha w hk
/-- A look that may come ahead of others: its block is told. -/
theorem XD.ldFp {b off : Nat} {m : Option Nat} {own : Bool} {e : TypeId} {cs : List Value} (hx : av L x = some (.pointer (some ⟨b, off, none⟩))) (hb : H.c.get b = some (.cells own e cs)) (hv : partOf m off cs = some v) (hk : XD P cf l (b :: R) [] (putL L d v) H Q) : XD P cf (⟨d, none, true, .load m x⟩ :: l) R [] L H Q :=
  XD.opFp (o_get (H := noWl H) hx hb hv) (R' := b :: R) (W' := []) (fun T hT => by simp only [mayMove, acts, lookBlk, hT.ev hx, blockOf]; rfl) (by simpa [addWl, noWl] using hk)
theorem has_no {b : Nat} {R : List Nat} (h : ∀ q ∈ R, q ≠ b) : has b R = false := by
  induction R with
  | nil => rfl
  | cons c l ih =>
    unfold has
    cases hb : Nat.beq b c with
    | true => exact (h c List.mem_cons_self (Nat.eq_of_beq_eq_true hb).symm).elim
    | false => exact ih fun q hq => h q (List.mem_cons_of_mem _ hq)
/-- A store into a row of one's own. -/
theorem XO.stR {m k' e sz n : Nat} {cs cs' : List Value} (hr : Ow H.c e sz u n cs) (hn : 0 < n) (hx : av L x = some (ixV u k')) (hy : av L y = some v) (hl : (cellL v).length = m) (hs : (cellL v).all scalar = true) (hv : splice cs k' (cellL v) = some cs') (hlen : cs'.length = cs.length)
    (hk : ∀ G, Chg (fun b => blockOf u = some b) H.c (Heap.c G) → Ow G.c e sz u n cs' → XO P cf l (putL L d undef) G Q) : XO P cf (⟨d, none, fp, .store m x y⟩ :: l) L H Q := by
  rcases hr with ⟨_, rfl, _⟩ | ⟨b, c, rfl, h0, hg, hcl, hc⟩
  · omega
  · have hx : av L x = some (.pointer (some ⟨b, 0 + k', none⟩)) := by rw [hx]; simp only [ixV, add_none]
    refine XO.up (o_set (cs' := cs') hx hy hg hl hs (by rw [Nat.zero_add]; exact hv)) hg fun G g a => hk G (g.wide fun q hq => by rw [hq]; rfl) (.inr ⟨b, c, rfl, h0, a, by rw [hlen, hcl], ?_⟩)
    rcases hc with rfl | ⟨rfl, rfl⟩
    · exact .inl rfl
    · omega
theorem XO.stF {m k' e sz n : Nat} {cs cs' : List Value} (hr : Fw H.c e sz u n cs) (hx : av L x = some (ixV u k')) (hy : av L y = some v) (hl : (cellL v).length = m) (hs : (cellL v).all scalar = true) (hv : splice cs k' (cellL v) = some cs') (hlen : cs'.length = cs.length)
    (hk : ∀ G, Chg (fun b => blockOf u = some b) H.c (Heap.c G) → Fw G.c e sz u n cs' → XO P cf l (putL L d undef) G Q) : XO P cf (⟨d, none, fp, .store m x y⟩ :: l) L H Q := by
  obtain ⟨b, rfl, hg, hcl⟩ := hr
  have hx : av L x = some (.pointer (some ⟨b, 0 + k', none⟩)) := by rw [hx]; simp only [ixV, add_none]
  exact XO.up (o_set (cs' := cs') hx hy hg hl hs (by rw [Nat.zero_add]; exact hv)) hg fun G g a => hk G (g.wide fun q hq => by rw [hq]; rfl) ⟨b, rfl, a, by rw [hlen, hcl]⟩
theorem one_splice {cs : List Value} {k : Nat} {v : Value} (hk : k < cs.length) : splice cs (k * 1) [v] = some (cs.set k v) := by
  have hb : Nat.ble (k * 1 + [v].length) cs.length = true := Nat.ble_eq_true_of_le (by simp; omega)
  simp only [splice, hb]
  congr 1
  rw [List.set_eq_take_append_cons_drop, if_pos hk]
  simp
theorem flat_splice {α : Type} {enc : α → List Value} {q : Nat} (hlen : ∀ x, (enc x).length = q) : ∀ (xs : List α) (j : Nat) (y : α), j < xs.length → splice ((xs.map enc).flatten) (j * q) (enc y) = some (((xs.set j y).map enc).flatten) := by
  have key : ∀ (xs : List α) (j : Nat) (y : α), j < xs.length → ((xs.map enc).flatten).take (j * q) ++ enc y ++ ((xs.map enc).flatten).drop (j * q + (enc y).length) = ((xs.set j y).map enc).flatten := by
    intro xs
    induction xs with
    | nil => intro j y h; simp at h
    | cons x l ih =>
      intro j y h
      cases j with
      | zero =>
        rw [Nat.zero_mul, Nat.zero_add, List.take_zero, List.nil_append, List.set_cons_zero, List.map_cons, List.flatten_cons, List.map_cons, List.flatten_cons, hlen, ← hlen x, List.drop_left]
      | succ j =>
        have := ih j y (by simpa using h)
        rw [List.map_cons, List.flatten_cons, List.set_cons_succ, List.map_cons, List.flatten_cons, ← this, show (j + 1) * q = (enc x).length + j * q by rw [hlen, Nat.add_mul]; omega, List.take_length_add_append, Nat.add_assoc, List.drop_length_add_append]
        simp only [List.append_assoc]
  intro xs j y h
  have h2 : j * q + (enc y).length ≤ ((xs.map enc).flatten).length := by
    rw [flatLen hlen, hlen, show j * q + q = (j + 1) * q by rw [Nat.add_mul]; omega]
    exact Nat.mul_le_mul_right q h
  simp only [splice, Nat.ble_eq_true_of_le h2]
  rw [key xs j y h]
/-! ranges over strings -/
def nextP (s : ByteArray) (pos : Nat) : Nat := if pos < s.size then pos + (Utf8.decode s pos).2 else pos
def nextV (s : ByteArray) (pos : Nat) : Value := .tuple (if pos < s.size then #[.bool true, .int .i64 (pos : Int), .int .i32 (Utf8.decode s pos).1] else #[.bool false])
theorem next0 (s : ByteArray) (pos : Nat) : (if pos < s.size then #[Value.bool true, .int .i64 (pos : Int), .int .i32 (Utf8.decode s pos).1] else #[.bool false]).toList[0]? = some (.bool (decide (pos < s.size))) := by
  by_cases h : pos < s.size
  · rw [if_pos h, decide_eq_true h]; rfl
  · rw [if_neg h, decide_eq_false h]; rfl
theorem next1 {s : ByteArray} {pos : Nat} (h : pos < s.size) : (if pos < s.size then #[Value.bool true, .int .i64 (pos : Int), .int .i32 (Utf8.decode s pos).1] else #[.bool false]).toList[1]? = some (.int .i64 (pos : Int)) := by
  rw [if_pos h]; rfl
theorem next2 {s : ByteArray} {pos : Nat} (h : pos < s.size) : (if pos < s.size then #[Value.bool true, .int .i64 (pos : Int), .int .i32 (Utf8.decode s pos).1] else #[.bool false]).toList[2]? = some (.int .i32 (Utf8.decode s pos).1) := by
  rw [if_pos h]; rfl
theorem XO.nx {s : ByteArray} {b pos : Nat} (hx : av L x = some (.pointer (some ⟨b, 0, none⟩))) (hb : H.c.get b = some (.iter s pos))
    (hk : ∀ G, Chg (· = b) H.c (Heap.c G) → G.c.get b = some (.iter s (nextP s pos)) → XO P cf l (putL L d (nextV s pos)) G Q) : XO P cf (⟨d, none, fp, .next x⟩ :: l) L H Q := by
  by_cases hp : pos < s.size
  · refine XO.up (o_next_t hx hb hp) hb fun G g a => ?_
    have := hk G g (by rw [a]; unfold nextP; rw [if_pos hp])
    unfold nextV at this
    rw [if_pos hp] at this
    exact this
  · refine XO.op (o_next_f hx hb (by omega)) ?_
    have := hk H (Chg.refl _) (by rw [hb]; unfold nextP; rw [if_neg hp])
    unfold nextV at this
    rw [if_neg hp] at this
    exact this
/-! what is reckoned only where a test lets it -/
theorem Sb.refl (L : Lv) : Sb L L := fun _ _ h => h
theorem Sb.pt {K L : Lv} {n : Nat} {v : Value} (h : Sb K L) (hn : lk K n = none) : Sb K (putL L (some n) v) := fun m u hu => by
  show lk ((n, v) :: L) m = some u
  unfold lk
  cases hb : Nat.beq n m with
  | true => rw [← Nat.eq_of_beq_eq_true hb, hn] at hu; cases hu
  | false => exact h m u hu
theorem XO.mono {M : Lv → Heap → Prop} (h : XO P cf l L H M) (hi : ∀ L H, M L H → Q L H) : XO P cf l L H Q := fun T hT => by
  obtain ⟨T', H', L', h1, h2, h3⟩ := h T hT
  exact ⟨T', H', L', h1, h2, hi _ _ h3⟩
theorem XO.cut2 {l1 l2 : List AOper} {M : Lv → Heap → Prop} (h : XO P cf l1 L H M) (hk : ∀ L G, M L G → XO P cf l2 L G Q) : XO P cf (l1 ++ l2) L H Q := by
  have key : ∀ (l1 : List AOper) (T : Tr Value) (H : Heap), opsRun P cf (l1 ++ l2) T H = (opsRun P cf l1 T H).bind fun r => opsRun P cf l2 r.1 r.2 := by
    intro l1
    induction l1 with
    | nil => intro T H; rfl
    | cons o l1 ih =>
      intro T H
      simp only [List.cons_append, opsRun]
      split
      · split
        · exact ih _ _
        · rfl
      · exact ih _ _
  intro T hT
  obtain ⟨T1, H1, L1, h1, h2, h3⟩ := h T hT
  obtain ⟨T2, H2, L2, g1, g2, g3⟩ := hk L1 H1 h3 T1 h2
  exact ⟨T2, H2, L2, by rw [key, h1, Option.bind_some, g1], g2, g3⟩
theorem XO.sca {j g d : Nat} {a b : Bool} (hg : lk L g = some (.bool a))
    (hT : a = true → XO P cf (l.take j) ((g, .bool true) :: L) H fun L' H' => H' = H ∧ lk L' d = some (.bool b) ∧ Sb ((g, .bool true) :: L) L')
    (hF : a = false → XO P cf (l.take j) ((g, .bool false) :: L) H fun L' H' => H' = H ∧ lk L' d = some (.bool false) ∧ Sb ((g, .bool false) :: L) L')
    (hk : XO P cf (l.drop j) ((d, .bool (a && b)) :: L) H Q) : XO P cf l L H Q := by
  have hs : ∀ q, a = q → Sb ((g, .bool q) :: L) L := fun q e => by subst e; exact Sb.cons hg (Sb.refl L)
  have h1 : XO P cf (l.take j) L H fun L' H' => H' = H ∧ lk L' d = some (.bool (a && b)) ∧ Sb L L' := by
    have hz : Sb L ((g, .bool a) :: L) := fun n v h => by
      unfold lk
      cases hb : Nat.beq g n with
      | true => rw [← Nat.eq_of_beq_eq_true hb, hg] at h; exact h
      | false => exact h
    cases a with
    | true => exact XO.sb (hs true rfl) (XO.mono (hT rfl) fun L' H' h => ⟨h.1, h.2.1, fun n v hv => h.2.2 n v (hz n v hv)⟩)
    | false => exact XO.sb (hs false rfl) (XO.mono (hF rfl) fun L' H' h => ⟨h.1, h.2.1, fun n v hv => h.2.2 n v (hz n v hv)⟩)
  rw [← List.take_append_drop j l]
  exact XO.cut2 h1 fun L' G ⟨e, h2, h3⟩ => by subst e; exact XO.sb (Sb.cons h2 h3) hk
theorem XO.sco {j g d : Nat} {a b : Bool} (hg : lk L g = some (.bool a))
    (hF : a = false → XO P cf (l.take j) ((g, .bool false) :: L) H fun L' H' => H' = H ∧ lk L' d = some (.bool b) ∧ Sb ((g, .bool false) :: L) L')
    (hT : a = true → XO P cf (l.take j) ((g, .bool true) :: L) H fun L' H' => H' = H ∧ lk L' d = some (.bool true) ∧ Sb ((g, .bool true) :: L) L')
    (hk : XO P cf (l.drop j) ((d, .bool (a || b)) :: L) H Q) : XO P cf l L H Q := by
  have hs : ∀ q, a = q → Sb ((g, .bool q) :: L) L := fun q e => by subst e; exact Sb.cons hg (Sb.refl L)
  have h1 : XO P cf (l.take j) L H fun L' H' => H' = H ∧ lk L' d = some (.bool (a || b)) ∧ Sb L L' := by
    have hz : Sb L ((g, .bool a) :: L) := fun n v h => by
      unfold lk
      cases hb : Nat.beq g n with
      | true => rw [← Nat.eq_of_beq_eq_true hb, hg] at h; exact h
      | false => exact h
    cases a with
    | true => exact XO.sb (hs true rfl) (XO.mono (hT rfl) fun L' H' h => ⟨h.1, h.2.1, fun n v hv => h.2.2 n v (hz n v hv)⟩)
    | false => exact XO.sb (hs false rfl) (XO.mono (hF rfl) fun L' H' h => ⟨h.1, h.2.1, fun n v hv => h.2.2 n v (hz n v hv)⟩)
  rw [← List.take_append_drop j l]
  exact XO.cut2 h1 fun L' G ⟨e, h2, h3⟩ => by subst e; exact XO.sb (Sb.cons h2 h3) hk
/-! calls -/
/-- The call answers, and so, whatever was written before. -/
def Rn (cf : CallF) (f : Nat) (args : List Value) (C : HC) (R : Value → HC → Prop) : Prop := ∀ H : Heap, H.c = C → ∃ v G, cf f args H = some (v, G) ∧ R v G.c
/-- It answers v; memory stays just as it is. -/
def Pu (cf : CallF) (f : Nat) (args : List Value) (C : HC) (v : Value) : Prop := ∀ H : Heap, H.c = C → cf f args H = some (v, H)
/-- It answers v; memory grows. -/
abbrev Qu (cf : CallF) (f : Nat) (args : List Value) (C : HC) (v : Value) : Prop := Rn cf f args C fun u D => u = v ∧ Gr C D
theorem Rn.mono {f : Nat} {args : List Value} {C : HC} {R R' : Value → HC → Prop} (h : Rn cf f args C R) (hi : ∀ v D, R v D → R' v D) : Rn cf f args C R' := fun H hH => by
  obtain ⟨v, G, h1, h2⟩ := h H hH
  exact ⟨v, G, h1, hi _ _ h2⟩
theorem Pu.rn {f : Nat} {args : List Value} {C : HC} (h : Pu cf f args C v) : Rn cf f args C fun u D => u = v ∧ D = C := fun H hH => ⟨v, H, h H hH, rfl, hH⟩
theorem Pu.qu {f : Nat} {args : List Value} {C : HC} (h : Pu cf f args C v) : Qu cf f args C v := fun H hH => ⟨v, H, h H hH, rfl, by rw [hH]; exact Gr.refl _⟩
theorem Rn.enter {E : Env} {m f : Nat} {args : List Value} {C : HC} {R : Value → HC → Prop} {af : AFunc} (he : E.ext f = none) (hf : E.fn f = some af) (hl : Nat.ble args.length af.ntmps = true)
    (h : ∀ H : Heap, H.c = C → XC P (callN P E m) E.rounds af.body (argsL 0 args []) H (finQ af.results fun v G => R v G.c)) : Rn (callN P E (m + 1)) f args C R := fun H hH => Runs.enter he hf hl (h H hH)
theorem Pu.enter {E : Env} {m f : Nat} {args : List Value} {C : HC} {af : AFunc} (he : E.ext f = none) (hf : E.fn f = some af) (hl : Nat.ble args.length af.ntmps = true)
    (h : ∀ H : Heap, H.c = C → XC P (callN P E m) E.rounds af.body (argsL 0 args []) H (finQ af.results fun u G => u = v ∧ G = H)) : Pu (callN P E (m + 1)) f args C v := fun H hH => by
  obtain ⟨u, G, h1, rfl, rfl⟩ := Runs.enter he hf hl (h H hH)
  exact h1
theorem XO.pu {f : Nat} {args : List Arg} {vs : List Value} (h : Pu cf f vs H.c v) (ha : avs L args = some vs) (hk : XO P cf l (putL L d v) H Q) : XO P cf (⟨d, none, fp, .call (.c (.func (.func f) #[] #[])) args⟩ :: l) L H Q :=
  XO.op (o_call ha (h H rfl)) hk
theorem XO.ca {f : Nat} {args : List Arg} {vs : List Value} {R : Value → HC → Prop} (h : Rn cf f vs H.c R) (ha : avs L args = some vs) (hk : ∀ v G, R v (Heap.c G) → XO P cf l (putL L d v) G Q) : XO P cf (⟨d, none, fp, .call (.c (.func (.func f) #[] #[])) args⟩ :: l) L H Q := by
  obtain ⟨v, G, h1, h2⟩ := h H rfl
  exact XO.op (o_call ha h1) (hk v G h2)
theorem XD.pu {f : Nat} {args : List Arg} {vs : List Value} (h : Pu cf f vs H.c v) (ha : avs L args = some vs) (hk : XD P cf l R W (putL L d v) H Q) : XD P cf (⟨d, none, fp, .call (.c (.func (.func f) #[] #[])) args⟩ :: l) R W L H Q := by
  have h1 : Op P cf L (noWl H) (.call (.c (.func (.func f) #[] #[])) args) v (noWl H) := o_call ha (h (noWl H) rfl)
  cases fp with
  | false => exact XD.pure h1 hk
  | true => exact XD.opFp h1 (fun T hT => by simp only [mayMove, acts, noWl]; rfl) hk
theorem XD.ca {f : Nat} {args : List Arg} {vs : List Value} {S : Value → HC → Prop} (h : Rn cf f vs H.c S) (ha : avs L args = some vs) (hk : ∀ v G, S v (Heap.c G) → XD P cf l R W (putL L d v) G Q) : XD P cf (⟨d, none, false, .call (.c (.func (.func f) #[] #[])) args⟩ :: l) R W L H Q := by
  obtain ⟨v, G, h1, h2⟩ := h (noWl H) rfl
  exact XD.op (o_call ha h1) (hk v (addWl G H) h2)
theorem o_callv {f : Nat} {args : List Arg} {vs : List Value} {fc : Array Value} {H' : Heap} (hx : av L x = some (.func (.func f) #[] fc)) (ha : avs L args = some vs) (h : cf f (vs ++ fc.toList) H = some (v, H')) : Op P cf L H (.call x args) v H' := fun T hT => by
  have h1 := hT.evs ha
  simp only [opRun, oCall, h1, hT.ev hx]
  simpa using h
/-- A call of a closure: what it has caught stands behind the parameters. -/
theorem XO.cv {f : Nat} {args : List Arg} {vs : List Value} {fc : Array Value} {S : Value → HC → Prop} (h : Rn cf f (vs ++ fc.toList) H.c S) (hx : av L x = some (.func (.func f) #[] fc)) (ha : avs L args = some vs) (hk : ∀ v G, S v (Heap.c G) → XO P cf l (putL L d v) G Q) : XO P cf (⟨d, none, fp, .call x args⟩ :: l) L H Q := by
  obtain ⟨v, G, h1, h2⟩ := h H rfl
  exact XO.op (o_callv hx ha h1) (hk v G h2)
theorem XD.cv {f : Nat} {args : List Arg} {vs : List Value} {fc : Array Value} {S : Value → HC → Prop} (h : Rn cf f (vs ++ fc.toList) H.c S) (hx : av L x = some (.func (.func f) #[] fc)) (ha : avs L args = some vs) (hk : ∀ v G, S v (Heap.c G) → XD P cf l R W (putL L d v) G Q) : XD P cf (⟨d, none, false, .call x args⟩ :: l) R W L H Q := by
  obtain ⟨v, G, h1, h2⟩ := h (noWl H) rfl
  exact XD.op (o_callv hx ha h1) (hk v (addWl G H) h2)
/-- It answers v, and one block is written. -/
def Uc (cf : CallF) (f : Nat) (args : List Value) (C : HC) (v : Value) (b : Nat) (B : Blk) : Prop := ∀ H : Heap, H.c = C → cf f args H = some (v, H.upd b B)
theorem Uc.rn {f : Nat} {args : List Value} {C : HC} {b : Nat} {B B0 : Blk} (h : Uc cf f args C v b B) (hb : C.get b = some B0) : Rn cf f args C fun u D => u = v ∧ Chg (· = b) C D ∧ D.get b = some B := fun H hH => ⟨v, _, h H hH, rfl, by subst hH; exact chg_upd hb, at_upd⟩
theorem Uc.enter {E : Env} {m f : Nat} {args : List Value} {C : HC} {af : AFunc} {b : Nat} {B : Blk} (he : E.ext f = none) (hf : E.fn f = some af) (hl : Nat.ble args.length af.ntmps = true)
    (h : ∀ H : Heap, H.c = C → XC P (callN P E m) E.rounds af.body (argsL 0 args []) H (finQ af.results fun u G => u = v ∧ G = H.upd b B)) : Uc (callN P E (m + 1)) f args C v b B := fun H hH => by
  obtain ⟨u, G, h1, rfl, rfl⟩ := Runs.enter he hf hl (h H hH)
  exact h1
theorem XD.ucFp {f : Nat} {args : List Arg} {vs : List Value} {b : Nat} {B B0 : Blk} (h : Uc cf f vs H.c v b B) (ha : avs L args = some vs) (hb : H.c.get b = some B0) (hR : ∀ q ∈ R, q ≠ b) (hk : ∀ G W, Chg (· = b) H.c (Heap.c G) → G.c.get b = some B → XD P cf l R W (putL L d v) G Q) : XD P cf (⟨d, none, true, .call (.c (.func (.func f) #[] #[])) args⟩ :: l) R W L H Q := by
  have h1 : Op P cf L (noWl H) (.call (.c (.func (.func f) #[] #[])) args) v ((noWl H).upd b B) := o_call ha (h (noWl H) rfl)
  have hno := has_no hR
  exact XD.opFp h1 (R' := R) (W' := b :: W) (fun T hT => by
    show (match apart R [b] with | true => some (R, [b] ++ W) | false => none) = _
    have : apart R [b] = true := by
      show (match has b R with | true => false | false => apart R []) = true
      rw [hno]
      rfl
    rw [this]
    rfl) (hk _ _ (chg_upd (H := noWl H) hb) (at_upd (H := noWl H)))
/-! appends -/
theorem o_app {e size bytes : Nat} {zs : List Value} {zeros : Bool} {n m : Nat} {cs new : List Value} (hr : Ow H.c e size u n cs) (hx : av L x = some u) (hy : av L y = some w) (hn : ∀ T, newCells T H size zs zeros w = some (m, new)) (hm : 0 < m) (hl : new.length = m * size) (hs : new.all scalar = true) (hf : (n + m) * bytes ≤ room) (hf2 : n + m ≤ room) :
    ∃ H', Op P cf L H (.append e size bytes zs zeros x y) (.slice (some ⟨H.next, 0, none⟩) (n + m) U) H' ∧ H'.c.get H.next = some (.cells true e (cs ++ new)) ∧ (H.c.wf → Chg (fun b => blockOf u = some b) H.c H'.c) ∧ (H'.wl = H.wl ∨ ∃ b, blockOf u = some b ∧ H'.wl = b :: H.wl) := by
  have hfit : fits (n + m) bytes = true := by simp only [fits, Nat.ble_eq_true_of_le hf, Nat.ble_eq_true_of_le hf2]
  rcases hr with ⟨rfl, rfl, rfl⟩ | ⟨b, c, rfl, h0, hg, hcl, hc⟩
  · refine ⟨H.new (.cells true e new), o_append hx hy hn hs ?_, at_new, fun wf => (gr_new wf).wide fun _ q => q.elim, .inl rfl⟩
    obtain ⟨m, rfl⟩ : ∃ j, m = j + 1 := ⟨m - 1, by omega⟩
    rw [Nat.zero_add] at hfit ⊢
    simp only [appendTo, hfit, freshRow]
  · have hg : H.get b = some (.cells true e cs) := hg
    obtain ⟨m, rfl⟩ : ∃ j, m = j + 1 := ⟨m - 1, by omega⟩
    rcases hc with rfl | ⟨rfl, rfl⟩
    · refine ⟨(H.kill b).new (.cells true e (cs ++ new)), o_append hx hy hn hs ?_, at_new (H := H.kill b), fun wf => ?_, .inr ⟨b, rfl, rfl⟩⟩
      · have hb : Nat.beq U U = true := Nat.beq_refl U
        have hlc : lcut 0 (n * size) cs = some cs := by rw [← hcl]; exact lcutA cs
        simp only [appendTo, hg, Nat.beq_refl, hfit, hb, appU, hlc, freshRow]
        rfl
      · have h1 : Chg (fun q => blockOf (.slice (some ⟨b, 0, none⟩) n U) = some q) H.c (H.kill b).c := (chg_kill (H := H) (b := b)).wide fun q hq => by rw [hq]; rfl
        exact h1.trans ((gr_new (H := H.kill b) (h1.wf wf)).wide fun _ q => q.elim)
    · have hn0 : n = 0 := by omega
      subst hn0
      refine ⟨H.new (.cells true e new), o_append hx hy hn hs ?_, at_new, fun wf => (gr_new wf).wide fun _ q => q.elim, .inl rfl⟩
      have h0 : Nat.beq 0 U = false := rfl
      have h1 : Nat.ble (0 + (m + 1)) 0 = false := by simp [Nat.zero_add]; rfl
      have h2 : lcut 0 (0 * size) ([] : List Value) = some [] := by simp [lcut]
      simp only [appendTo, hg, Nat.beq_refl, hfit, h0, appX, h1, h2, freshRow, List.nil_append]
theorem XD.appFp {e size bytes : Nat} {zs : List Value} {n m : Nat} {cs new : List Value} (hr : Ow H.c e size u n cs) (hx : av L x = some u) (hy : av L y = some w) (hw : Rw H.c e size w m new) (hm : 0 < m) (hs : new.all scalar = true) (hf : (n + m) * bytes ≤ room) (hf2 : n + m ≤ room) (wf : H.c.wf) (hR : ∀ q ∈ R, blockOf u ≠ some q)
    (hk : ∀ b G W, H.c.next ≤ b → Chg (fun b => blockOf u = some b) H.c (Heap.c G) → G.c.get b = some (.cells true e (cs ++ new)) → Ow G.c e size (.slice (some ⟨b, 0, none⟩) (n + m) U) (n + m) (cs ++ new) → XD P cf l R W (putL L d (.slice (some ⟨b, 0, none⟩) (n + m) U)) G Q) : XD P cf (⟨d, none, true, .append e size bytes zs false x y⟩ :: l) R W L H Q := by
  have hl := hw.len
  have hn : ∀ T, newCells T (noWl H) size zs false w = some (m, new) := fun T => hw.fill (T := T) (H := noWl H) rfl
  have hr' : Ow (noWl H).c e size u n cs := hr
  obtain ⟨H', h1, h2, h3, h4⟩ := o_app (P := P) (cf := cf) hr' hx hy hn hm hl hs hf hf2
  have hk' := hk H.next (addWl H' H)
  have hwl : apart R H'.wl = true := by
    rcases h4 with h4 | ⟨b, hb, h4⟩
    · rw [h4]; rfl
    · rw [h4]
      show (match has b R with | true => false | false => apart R []) = true
      rw [has_no fun q hq e => hR q hq (by rw [hb, e])]
      rfl
  exact XD.opFp h1 (R' := R) (W' := H'.wl ++ W) (fun T hT => by simp only [mayMove, acts, hwl]) (hk' _ (Nat.le_refl _) (h3 wf) h2 (Ow.mk h2 (by rw [List.length_append, hr.rw.len, hl, Nat.add_mul]) (Nat.le_trans hf2 (by decide))))
/-- An append of nothing. -/
theorem o_app0 {e size bytes : Nat} {zs : List Value} {zeros : Bool} {n : Nat} {cs new : List Value} (hr : Ow H.c e size u n cs) (hx : av L x = some u) (hy : av L y = some w) (hn : ∀ T, newCells T H size zs zeros w = some (0, new)) (hs : new.all scalar = true) (hf : n * bytes ≤ room) (hf2 : n ≤ room) :
    Op P cf L H (.append e size bytes zs zeros x y) u H := by
  have hfit : fits (n + 0) bytes = true := by simp only [fits, Nat.add_zero, Nat.ble_eq_true_of_le hf, Nat.ble_eq_true_of_le hf2]
  refine o_append hx hy hn hs ?_
  rcases hr with ⟨rfl, rfl, rfl⟩ | ⟨b, c, rfl, h0, hg, hcl, hc⟩
  · rfl
  · have hg : H.get b = some (.cells true e cs) := hg
    rcases hc with rfl | ⟨rfl, rfl⟩
    · have hb : Nat.beq U U = true := Nat.beq_refl U
      simp only [appendTo, hg, Nat.beq_refl, hfit, hb, appU]
    · have hz : Nat.beq 0 U = false := rfl
      have hn0 : n = 0 := by omega
      subst hn0
      have h1 : Nat.ble (0 + 0) 0 = true := rfl
      simp only [appendTo, hg, Nat.beq_refl, hfit, hz, appX, h1]
/-- An append of any row, to one's own. -/
theorem XO.appR {e size bytes : Nat} {zs : List Value} {n m : Nat} {cs new : List Value} (hr : Ow H.c e size u n cs) (hw : Rw H.c e size w m new) (hx : av L x = some u) (hy : av L y = some w) (hs : new.all scalar = true) (hf : (n + m) * bytes ≤ room) (hf2 : n + m ≤ room) (wf : H.c.wf)
    (hk : ∀ v' G, Ow (Heap.c G) e size v' (n + m) (cs ++ new) → (∀ b, blockOf v' = some b → H.c.next ≤ b ∨ blockOf u = some b) → Chg (fun b => blockOf u = some b) H.c G.c → XO P cf l (putL L d v') G Q) : XO P cf (⟨d, none, fp, .append e size bytes zs false x y⟩ :: l) L H Q := by
  cases m with
  | zero =>
    have hnil : new = [] := List.length_eq_zero_iff.1 (by have := hw.len; simpa using this)
    subst hnil
    refine XO.op (o_app0 hr hx hy (fun T => hw.fill rfl) hs hf hf2) (hk u H ?_ (fun b hb => .inr hb) (Chg.refl _))
    rw [List.append_nil]
    exact hr
  | succ m =>
    obtain ⟨H', h1, h2, h3, -⟩ := o_app (P := P) (cf := cf) hr hx hy (fun T => hw.fill rfl) (Nat.succ_pos m) hw.len hs hf hf2
    exact XO.op h1 (hk _ H' (Ow.mk h2 (by rw [List.length_append, hr.rw.len, hw.len, ← Nat.add_mul]) (Nat.le_trans hf2 (by decide))) (fun b hb => by cases hb; exact .inl (Nat.le_refl _)) (h3 wf))
/-- An append to a row of one's own. -/
theorem XO.app {e size bytes : Nat} {zs : List Value} {n m : Nat} {cs new : List Value} (hr : Ow H.c e size u n cs) (hw : Rw H.c e size w m new) (hx : av L x = some u) (hy : av L y = some w) (hm : 0 < m) (hs : new.all scalar = true) (hf : (n + m) * bytes ≤ room) (hf2 : n + m ≤ room) (wf : H.c.wf)
    (hk : ∀ b G, H.c.next ≤ b → Chg (fun b => blockOf u = some b) H.c (Heap.c G) → G.c.get b = some (.cells true e (cs ++ new)) → Ow G.c e size (.slice (some ⟨b, 0, none⟩) (n + m) U) (n + m) (cs ++ new) → XO P cf l (putL L d (.slice (some ⟨b, 0, none⟩) (n + m) U)) G Q) : XO P cf (⟨d, none, fp, .append e size bytes zs false x y⟩ :: l) L H Q := by
  obtain ⟨H', h1, h2, h3, -⟩ := o_app (P := P) (cf := cf) hr hx hy (fun T => hw.fill rfl) hm hw.len hs hf hf2
  exact XO.op h1 (hk H.next H' (Nat.le_refl _) (h3 wf) h2 (Ow.mk h2 (by rw [List.length_append, hr.rw.len, hw.len, Nat.add_mul]) (Nat.le_trans hf2 (by decide))))
theorem XD.app {e size bytes : Nat} {zs : List Value} {n m : Nat} {cs new : List Value} (hr : Ow H.c e size u n cs) (hw : Rw H.c e size w m new) (hx : av L x = some u) (hy : av L y = some w) (hm : 0 < m) (hs : new.all scalar = true) (hf : (n + m) * bytes ≤ room) (hf2 : n + m ≤ room) (wf : H.c.wf)
    (hk : ∀ b G, H.c.next ≤ b → Chg (fun b => blockOf u = some b) H.c (Heap.c G) → G.c.get b = some (.cells true e (cs ++ new)) → Ow G.c e size (.slice (some ⟨b, 0, none⟩) (n + m) U) (n + m) (cs ++ new) → XD P cf l R W (putL L d (.slice (some ⟨b, 0, none⟩) (n + m) U)) G Q) : XD P cf (⟨d, none, false, .append e size bytes zs false x y⟩ :: l) R W L H Q := by
  have hr' : Ow (noWl H).c e size u n cs := hr
  obtain ⟨H', h1, h2, h3, -⟩ := o_app (P := P) (cf := cf) hr' hx hy (fun T => hw.fill (T := T) (H := noWl H) rfl) hm hw.len hs hf hf2
  exact XD.op h1 (hk H.next (addWl H' H) (Nat.le_refl _) (h3 wf) h2 (Ow.mk h2 (by rw [List.length_append, hr.rw.len, hw.len, Nat.add_mul]) (Nat.le_trans hf2 (by decide))))
/-! loops and joins -/
def app : Lv → Lv → Lv
  | [], K => K
  | p :: V, K => p :: app V K
variable {a b c : ACode} {C : AExit → Lv → Heap → Prop}
theorem XC.iten {x : Arg} {p : Prop} [Decidable p] (hx : av L x = some (.bool (!decide p))) (h1 : ¬p → XC P cf k a L H C) (h2 : p → XC P cf k b L H C) : XC P cf k (.cond x a b) L H C := by
  by_cases hp : p
  · exact XC.cond_f (by rw [hx, decide_eq_true hp]; rfl) (h2 hp)
  · exact XC.cond_t (by rw [hx, decide_eq_false hp]; rfl) (h1 hp)
theorem XC.pushIfn {x : Arg} {p : Prop} [Decidable p] (hx : av L x = some (.bool (!decide p))) (h1 : ¬p → XC P cf k (.seq a c) L H C) (h2 : p → XC P cf k (.seq b c) L H C) : XC P cf k (.seq (.cond x a b) c) L H C := by
  by_cases hp : p
  · exact XC.push_f (by rw [hx, decide_eq_true hp]; rfl) (h2 hp)
  · exact XC.push_t (by rw [hx, decide_eq_false hp]; rfl) (h1 hp)
/-- A loop: s tells what changes; V s what the places hold then; K what stays. -/
theorem XC.lp {σ : Type} (V : σ → Lv) (K : Lv) (I : σ → Heap → Prop) (μ : σ → Nat) (s : σ) (h0 : Sb (app (V s) K) L) (hI : I s H) (hm : μ s < k)
    (hb : ∀ s G, I s G → XC P cf k a (app (V s) K) G fun x L' H' => match x with
      | .normal => ∃ s', μ s' < μ s ∧ Sb (app (V s') K) L' ∧ I s' H'
      | x => C x L' H') : XC P cf k (.loop a) L H C :=
  XC.sb h0 (XC.loop (fun m L G => ∃ s, μ s = m ∧ L = app (V s) K ∧ I s G) ⟨s, rfl, rfl, hI⟩ hm fun m L G h => by
    obtain ⟨s, rfl, rfl, hI⟩ := h
    exact (hb s G hI).mono fun x L H hx => by
      cases x with
      | normal => obtain ⟨s', h1, h2, h3⟩ := hx; exact ⟨μ s', _, h1, h2, s', rfl, rfl, h3⟩
      | exit i => exact hx
      | ret => exact hx)
theorem XC.then_lp {σ : Type} (V : σ → Lv) (K : Lv) (I : σ → Heap → Prop) (μ : σ → Nat) (s : σ) (h0 : Sb (app (V s) K) L) (hI : I s H) (hm : μ s < k)
    (hb : ∀ s G, I s G → XC P cf k a (app (V s) K) G fun x L' H' => match x with
      | .normal => ∃ s', μ s' < μ s ∧ Sb (app (V s') K) L' ∧ I s' H'
      | .exit i => thenQ P cf k b C (.exit i) L' H'
      | .ret => C .ret L' H') : XC P cf k (.seq (.loop a) b) L H C :=
  XC.seq (XC.lp V K I μ s h0 hI hm fun s G h => (hb s G h).mono fun x L H hx => by cases x <;> exact hx)
/-- What comes behind a part, told once: s tells what the part did. -/
def joinQ {σ : Type} (V : σ → Lv) (K : Lv) (I : σ → Heap → Prop) (C : AExit → Lv → Heap → Prop) : AExit → Lv → Heap → Prop
  | .normal, L, H => ∃ s, Sb (app (V s) K) L ∧ I s H
  | .exit i, L, H => C (.exit i) L H
  | .ret, L, H => C .ret L H
theorem XC.jn {σ : Type} (V : σ → Lv) (K : Lv) (I : σ → Heap → Prop) (h : XC P cf k a L H (joinQ V K I C)) (hb : ∀ s G, I s G → XC P cf k b (app (V s) K) G C) : XC P cf k (.seq a b) L H C :=
  XC.seq (h.mono fun x L H hx => by
    cases x with
    | normal => obtain ⟨s, h1, h2⟩ := hx; exact XC.sb h1 (hb s H h2)
    | exit i => exact hx
    | ret => exact hx)
theorem join_n {σ : Type} {V : σ → Lv} {K : Lv} {I : σ → Heap → Prop} (s : σ) (h1 : Sb (app (V s) K) L) (h2 : I s H) : joinQ V K I C .normal L H := ⟨s, h1, h2⟩
theorem join_x {σ : Type} {V : σ → Lv} {K : Lv} {I : σ → Heap → Prop} {i : Nat} (h : C (.exit i) L H) : joinQ V K I C (.exit i) L H := h
theorem join_r {σ : Type} {V : σ → Lv} {K : Lv} {I : σ → Heap → Prop} (h : C .ret L H) : joinQ V K I C .ret L H := h
end
end Go.Proofs.Ytffokmamcempgaa.AM
