/- A machine of our own: rows, and what stays of a heap. -/
import Derived.Test.YtffokmamcempgaaAMY
namespace Go.Proofs.Ytffokmamcempgaa.AM
open Go Go.RowKit
set_option linter.unusedVariables false
set_option linter.unusedSimpArgs false

/-! what stays -/
/-- What was there is as it was. -/
structure Old (H H' : Heap) : Prop where
  next : H.next ≤ H'.next
  get : ∀ b, b < H.next → H'.get b = H.get b
  wf : WF H → WF H'
section
variable {H H' H'' : Heap} {b : Nat} {B C : Blk}
theorem Old.refl (H : Heap) : Old H H := ⟨Nat.le_refl _, fun _ _ => rfl, id⟩
theorem Old.trans (h : Old H H') (k : Old H' H'') : Old H H'' :=
  ⟨Nat.le_trans h.next k.next, fun b hb => by rw [k.get b (Nat.lt_of_lt_of_le hb h.next), h.get b hb], fun w => k.wf (h.wf w)⟩
theorem WF.lt (w : WF H) (h : H.get b = some B) : b < H.next := by
  by_cases hb : b < H.next
  · exact hb
  · rw [w b (by omega)] at h; cases h
theorem Old.new (H : Heap) (B : Blk) : Old H (H.new B) :=
  ⟨Nat.le_succ _, fun b hb => by rw [Heap.get_new, if_neg (by omega)], (Keeps.new H B).wf⟩
theorem Old.upd (h : Old H H') (hb : H.next ≤ b) (hg : H'.get b = some C) : Old H (H'.upd b B) :=
  ⟨h.next, fun c hc => by rw [Heap.get_upd, if_neg (by omega)]; exact h.get c hc, fun w => (Keeps.upd B hg).wf (h.wf w)⟩
theorem Old.kill (h : Old H H') (hb : H.next ≤ b) : Old H (H'.kill b) :=
  ⟨h.next, fun c hc => by rw [Heap.get_kill, if_neg (by omega)]; exact h.get c hc, fun w => (Keeps.kill b).wf (h.wf w)⟩
theorem Old.at (h : Old H H') (w : WF H) (hg : H.get b = some B) : H'.get b = some B := by rw [h.get b (w.lt hg), hg]
theorem WF.upd (w : WF H) (hg : H.get b = some C) : WF (H.upd b B) := (Keeps.upd B hg).wf w
theorem WF.new (w : WF H) : WF (H.new B) := (Keeps.new H B).wf w
theorem noHeap_wf : WF noHeap := fun b _ => rfl
theorem get_noWl : (noWl H).get b = H.get b := rfl
theorem get_addWl {G : Heap} : (addWl H G).get b = H.get b := rfl
theorem Old.noWl (H : Heap) : Old H (noWl H) := ⟨Nat.le_refl _, fun _ _ => rfl, fun w => w⟩
theorem Old.ofNoWl (h : Old (AM.noWl H) H') : Old H H' := ⟨h.next, h.get, h.wf⟩
theorem Old.addWl (h : Old H H') (G : Heap) : Old H (addWl H' G) := ⟨h.next, h.get, h.wf⟩
theorem get_upd_self : (H.upd b B).get b = some B := by rw [Heap.get_upd, if_pos rfl]
theorem get_upd_ne {c : Nat} (h : c ≠ b) : (H.upd b B).get c = H.get c := by rw [Heap.get_upd, if_neg h]
/-- What was there is as it was, but for one block. -/
structure But (H H' : Heap) (x : Nat) : Prop where
  next : H.next ≤ H'.next
  get : ∀ b, b < H.next → b ≠ x → H'.get b = H.get b
  wf : WF H → WF H'
theorem Old.but (h : Old H H') (x : Nat) : But H H' x := ⟨h.next, fun b hb _ => h.get b hb, h.wf⟩
theorem But.trans {x : Nat} (h : But H H' x) (k : But H' H'' x) : But H H'' x :=
  ⟨Nat.le_trans h.next k.next, fun b hb hx => by rw [k.get b (Nat.lt_of_lt_of_le hb h.next) hx, h.get b hb hx], fun w => k.wf (h.wf w)⟩
theorem But.upd {x : Nat} (hg : H.get x = some C) : But H (H.upd x B) x := ⟨Nat.le_refl _, fun b _ hb => get_upd_ne hb, fun w => w.upd hg⟩
theorem But.new {x : Nat} (hx : H.next ≤ x) (h : But H H' x) : Old H H' := ⟨h.next, fun b hb => h.get b hb (by omega), h.wf⟩
theorem But.addWl {x : Nat} (h : But H H' x) (G : Heap) : But H (AM.addWl H' G) x := ⟨h.next, h.get, h.wf⟩
theorem But.ofNoWl {x : Nat} (h : But (AM.noWl H) H' x) : But H H' x := ⟨h.next, h.get, h.wf⟩
theorem But.at {x : Nat} (h : But H H' x) (w : WF H) (hb : b ≠ x) (hg : H.get b = some B) : H'.get b = some B := by rw [h.get b (w.lt hg) hb, hg]
/-! rows -/
/-- A row of n elements of sz cells each. -/
def Row (H : Heap) (e sz : Nat) (v : Value) (n : Nat) (cs : List Value) : Prop :=
  (v = .slice none 0 0 ∧ n = 0 ∧ cs = []) ∨ ∃ b off cap own all, v = .slice (some ⟨b, off, none⟩) n cap ∧ H.get b = some (.cells own e all) ∧ lcut off (n * sz) all = some cs
variable {e sz n : Nat} {v : Value} {cs : List Value}
theorem Row.old (h : Row H e sz v n cs) (w : WF H) (o : Old H H') : Row H' e sz v n cs := by
  rcases h with h | ⟨b, off, cap, own, all, h1, h2, h3⟩
  · exact .inl h
  · exact .inr ⟨b, off, cap, own, all, h1, o.at w h2, h3⟩
theorem Row.but (h : Row H e sz v n cs) (w : WF H) {x : Nat} (o : But H H' x) (hx : ∀ own all, H.get x ≠ some (.cells own e all)) : Row H' e sz v n cs := by
  rcases h with h | ⟨b, off, cap, own, all, h1, h2, h3⟩
  · exact .inl h
  · exact .inr ⟨b, off, cap, own, all, h1, o.at w (fun q => by subst q; exact hx _ _ h2) h2, h3⟩
theorem Row.upd (h : Row H e sz v n cs) {c : Nat} (hc : ∀ own all, H.get c ≠ some (.cells own e all)) : Row (H.upd c B) e sz v n cs := by
  rcases h with h | ⟨b, off, cap, own, all, h1, h2, h3⟩
  · exact .inl h
  · exact .inr ⟨b, off, cap, own, all, h1, by rw [get_upd_ne (fun e => by subst e; exact hc _ _ h2)]; exact h2, h3⟩
theorem Row.len (h : Row H e sz v n cs) : cs.length = n * sz := by
  rcases h with ⟨_, rfl, rfl⟩ | ⟨b, off, cap, own, all, h1, h2, h3⟩
  · simp
  · exact (lcut_some h3).2
theorem Row.isSlice (h : Row H e sz v n cs) : ∃ a c, v = .slice a n c := by
  rcases h with ⟨rfl, rfl, _⟩ | ⟨b, off, cap, own, all, h1, h2, h3⟩
  · exact ⟨_, _, rfl⟩
  · exact ⟨_, _, h1⟩
theorem Row.look (h : Row H e sz v n cs) (hn : 0 < n) : ∃ b off cap own all, v = .slice (some ⟨b, off, none⟩) n cap ∧ H.get b = some (.cells own e all) ∧ ∀ k, k < n * sz → all[off + k]? = cs[k]? := by
  rcases h with ⟨_, rfl, _⟩ | ⟨b, off, cap, own, all, h1, h2, h3⟩
  · omega
  · refine ⟨b, off, cap, own, all, h1, h2, fun k hk => ?_⟩
    rw [(lcut_some h3).1, List.getElem?_take, if_pos hk, List.getElem?_drop]
theorem Row.fill (h : Row H e sz v n cs) {T : Tr Value} {zs : List Value} : newCells T H sz zs false v = Option.some (n, cs) := by
  rcases h with ⟨rfl, rfl, rfl⟩ | ⟨b, off, cap, own, all, rfl, h2, h3⟩
  · rfl
  · simp only [newCells, h2, h3, Option.map_some]
theorem lcut_all (l : List Value) : lcut 0 l.length l = Option.some l := by
  rw [lcut_of (by omega), List.drop_zero, List.take_length]
theorem Row.fresh (hl : cs.length = n * sz) {cap : Nat} (hg : H.get b = Option.some (.cells true e cs)) : Row H e sz (.slice (Option.some ⟨b, 0, none⟩) n cap) n cs :=
  .inr ⟨b, 0, cap, true, cs, rfl, hg, by rw [← hl]; exact lcut_all cs⟩
end
/-- The law of an index and a load, for rows whose elements are one cell. -/
theorem Row.one {H : Heap} {e n : Nat} {v : Value} {cs : List Value} (h : Row H e 1 v n cs) {i : Nat} (hi : i < n) : ∃ b off cap own all u, v = .slice (some ⟨b, off, none⟩) n cap ∧ H.get b = some (.cells own e all) ∧ cs[i]? = some u ∧ partOf none (off + i * 1) all = some u := by
  obtain ⟨b, off, cap, own, all, h1, h2, h3⟩ := h.look (by omega)
  have hl : i < cs.length := by rw [h.len]; omega
  exact ⟨b, off, cap, own, all, cs[i], h1, h2, List.getElem?_eq_getElem hl, by simp only [partOf, Nat.mul_one]; rw [h3 i (by omega)]; exact List.getElem?_eq_getElem hl⟩
/-- An append to an empty row that has no room. -/
theorem append_empty {H : Heap} {e size bytes b n : Nat} {new : List Value} (hg : H.get b = some (.cells true e [])) (hl : new.length = n * size) (hf : n * bytes ≤ room) (hn : n ≤ room) :
    ∃ v' H', appendTo H e size bytes (.slice (some ⟨b, 0, none⟩) 0 0) n new = some (v', H') ∧ Row H' e size v' n new ∧ Old H H' ∧ (0 < n → v' = .slice (some ⟨H.next, 0, none⟩) n U ∧ H' = H.new (.cells true e new)) := by
  have hfit : fits (0 + n) bytes = true := by simp only [fits, Nat.zero_add, Nat.ble_eq_true_of_le hf, Nat.ble_eq_true_of_le hn]
  have h0 : Nat.beq 0 U = false := rfl
  simp only [appendTo, hg, Nat.beq_refl, hfit, h0, appX]
  cases n with
  | zero =>
    have : new = [] := List.length_eq_zero_iff.1 (by simpa using hl)
    subst this
    exact ⟨_, _, rfl, .inr ⟨b, 0, 0, true, [], rfl, hg, by simp [lcut]⟩, Old.refl _, fun h => absurd h (by omega)⟩
  | succ n =>
    have h1 : Nat.ble (0 + (n + 1)) 0 = false := by simp [Nat.zero_add]; rfl
    have h2 : lcut 0 (0 * size) ([] : List Value) = some [] := by simp [lcut]
    simp only [h1, h2, freshRow, List.nil_append, Nat.zero_add]
    exact ⟨_, _, rfl, Row.fresh hl gn_self, Old.new _ _, fun _ => ⟨rfl, rfl⟩⟩
theorem splice_one {cs : List Value} {k : Nat} {v : Value} (hk : k < cs.length) : splice cs k [v] = some (cs.set k v) := by
  have hb : Nat.ble (k + [v].length) cs.length = true := Nat.ble_eq_true_of_le (by simp; omega)
  simp only [splice, hb]
  congr 1
  rw [List.set_eq_take_append_cons_drop, if_pos hk]
  simp
/-! numbers -/
theorem u64_pos (x : Int) : 0 ≤ IntKind.u64.wrap x ∧ IntKind.u64.wrap x < 18446744073709551616 := by
  simp [IntKind.wrap, IntKind.bits, IntKind.signed]
  omega
/-- x as a natural number, modulo n. -/
def lowN (x : Int) (n : Nat) : Nat := (IntKind.u64.wrap x).toNat % n
theorem low_tmod (x : Int) (n : Nat) : (IntKind.u64.wrap x).tmod (n : Int) = (lowN x n : Int) := by
  have h := u64_pos x
  obtain ⟨m, hm⟩ := Int.eq_ofNat_of_zero_le h.1
  rw [lowN, hm]
  rfl
theorem low_lt (x : Int) {n : Nat} (h : 0 < n) : lowN x n < n := Nat.mod_lt _ h
theorem xor_u8 (a b : UInt8) : IntKind.u8.wrap ((BitVec.ofInt IntKind.u8.bits (a.toNat : Int) ^^^ BitVec.ofInt IntKind.u8.bits (b.toNat : Int)).toNat : Int) = ((a ^^^ b).toNat : Int) := by
  have h1 : ∀ c : UInt8, BitVec.ofInt IntKind.u8.bits (c.toNat : Int) = c.toBitVec := fun c => by
    show BitVec.ofInt 8 (c.toNat : Int) = c.toBitVec
    simp
  have h3 : (BitVec.ofInt IntKind.u8.bits (a.toNat : Int) ^^^ BitVec.ofInt IntKind.u8.bits (b.toNat : Int)).toNat = (a ^^^ b).toNat := by rw [h1, h1]; rfl
  rw [h3]
  have := (a ^^^ b).toNat_lt
  exact wu8 (by omega) (by omega)
end Go.Proofs.Ytffokmamcempgaa.AM
