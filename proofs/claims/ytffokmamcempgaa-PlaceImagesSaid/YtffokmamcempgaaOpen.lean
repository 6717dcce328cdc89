/- How a row's arguments are opened into the printed kinds: by type, with what is known of sizes and ranges. -/
import Derived.Test.YtffokmamcempgaaWWords
import Derived.WalkKit
import Derived.ProofKit
import Derived.OpenShut
import Derived.ShutString
import Derived.ChangeOld
import Derived.Below
import Derived.SizedLaws
import Derived.Deep.Slices
namespace Go.Proofs.Ytffokmamcempgaa.Open
open Go.RowKit Go.Proofs.YtffokmamcempgaaW.PrintWords
open Go.ChangeShapes Go.WideShapes Go.ChangeAt
set_option linter.unusedVariables false

/-- Type t's cells open as kind d; F: what is then known. -/
def Opn {α : Type} (d : Kd α) (P : Program) (t : TypeId) (F : α → Prop) : Prop :=
  ∀ (H : Type) (enc : TypeId × Value → H) (w : World) (base : Nat) (spare : Nat → Bool) (held : Bool) (fuel : Nat) (cs : List Value) (x : DataW H × List MemPlace),
    DataW.trod enc P w base spare held fuel t cs = some x → (∀ n ∈ x.1.weights P t, n ≤ reachBytes) → ∃ a, d.K w a cs ∧ F a
/-- A struct's fields from the i-th on, which begins at cell off. -/
def Ofs {α : Type} (d : Kd α) (P : Program) (fs : Array Field) (i off : Nat) (F : α → Prop) : Prop :=
  ∀ (H : Type) (enc : TypeId × Value → H) (w : World) (base : Nat) (spare : Nat → Bool) (held : Bool) (fuel : Nat) (cs : List Value) (xs : List (DataW H × List MemPlace)),
    cs.length = off + d.sz → (∀ (j : Nat) (f : Field), fs[j]? = some f → DataW.trod enc P w base spare held fuel f.type ((cs.drop f.offset).take (P.cellsOf f.type)) = xs[j]?) → xs.length = fs.size →
    (∀ (j : Nat) (f : Field) (x : DataW H × List MemPlace), fs[j]? = some f → xs[j]? = some x → ∀ n ∈ x.1.weights P f.type, n ≤ reachBytes) → ∃ a, d.K w a (cs.drop off) ∧ F a

variable {P : Program} {t : TypeId}
theorem Opn.int {k : IntKind} (ht : P.underlying t = some (.int k)) : Opn (Kd.int k) P t (fun n => (Lit.int k n).wf = true) := by
  intro H enc w base spare held fuel cs x h _
  obtain ⟨n, rfl, _, hw⟩ := DataW.trod_int ht h
  exact ⟨n, rfl, hw⟩
theorem Opn.bool (ht : P.underlying t = some .bool) : Opn Kd.bool P t (fun _ => True) := by
  intro H enc w base spare held fuel cs x h _
  obtain ⟨n, rfl, _⟩ := DataW.trod_bool ht h
  exact ⟨n, rfl, trivial⟩
theorem Opn.string (ht : P.underlying t = some .string) : Opn Kd.string P t (fun s => s.size ≤ 140737488351232) := by
  intro H enc w base spare held fuel cs x h hw
  obtain ⟨s, rfl, rfl, _⟩ := DataW.trod_string ht h
  refine ⟨s, rfl, ?_⟩
  have h2 := hw s.data.toList.length (by simp [DataW.weights])
  rw [Array.length_toList] at h2
  exact h2
theorem Opn.slice {α : Type} {d : Kd α} {e : TypeId} {F : α → Prop} {B : Nat} (ht : P.underlying t = some (.slice e)) (hd : Opn d P e F) (hc : P.cellsOf e = d.sz) (hB : P.bytesOf e = B) :
    Opn (Kd.slice e d) P t (fun xs => xs.length * B ≤ 140737488351232 ∧ ∀ x ∈ xs, F x) := by
  intro H enc w base spare held fuel cs x h hw
  rcases Deep.open_slice ht h with ⟨rfl, rfl⟩ | ⟨a, len, cap, m, n, D, Pl, rfl, _, hl, hmx, hm, rfl, hel⟩
  · exact ⟨[], ⟨none, 0, rfl, Nat.le_refl _, rfl, by simp, fun h => absurd h (Nat.lt_irrefl 0)⟩, by simp, by simp⟩
  · have hle : len ≤ m := by rw [hm]; split <;> omega
    have hwt : ∀ i, i < m → ∀ q ∈ (D i).weights P e, q ≤ reachBytes := by
      intro i hi q hq
      refine hw q ?_
      simp only [DataW.weights, ht, List.mem_cons, List.mem_append]
      right
      have all : ∀ (l : List (DataW H)) (y : DataW H), y ∈ l → q ∈ y.weights P e → q ∈ DataW.weightsAll P e l := by
        intro l
        induction l with
        | nil => intro y hy; cases hy
        | cons z r ih =>
          intro y hy hq
          simp only [DataW.weightsAll, List.mem_append]
          rcases List.mem_cons.1 hy with rfl | hy
          · exact .inl hq
          · exact .inr (ih y hy hq)
      by_cases hil : i < len
      · exact .inl (all _ (D i) (List.mem_map.2 ⟨i, List.mem_range.2 hil, rfl⟩) hq)
      · exact .inr (all _ (D i) (List.mem_map.2 ⟨i - len, List.mem_range.2 (by omega), by rw [show len + (i - len) = i from by omega]⟩) hq)
    have hx : ∀ i, i < len → ∃ (v : α), (∃ cs', w.cells? base (a.add (i * d.sz)) d.sz = some cs' ∧ d.K w v cs') ∧ F v := by
      intro i hi
      obtain ⟨cs', h1, h2⟩ := hel i (by omega)
      obtain ⟨v, hv, hF⟩ := hd H enc w base spare held n cs' _ h2 (hwt i (by omega))
      rw [hc] at h1
      exact ⟨v, ⟨cs', h1, hv⟩, hF⟩
    have pick : ∀ n, n ≤ len → ∃ l : List α, l.length = n ∧ (∀ i v, l[i]? = some v → (∃ cs', w.cells? base (a.add (i * d.sz)) d.sz = some cs' ∧ d.K w v cs') ∧ F v) := by
      intro n
      induction n with
      | zero => exact fun _ => ⟨[], rfl, by simp⟩
      | succ n ih =>
        intro hn
        obtain ⟨l, hl, hp⟩ := ih (by omega)
        obtain ⟨v, hv⟩ := hx n (by omega)
        refine ⟨l ++ [v], by simp [hl], ?_⟩
        intro i u hu
        by_cases hi : i < l.length
        · rw [List.getElem?_append_left hi] at hu
          exact hp i u hu
        · rw [List.getElem?_append_right (by omega)] at hu
          have h0 : i - l.length = 0 := by
            rcases Nat.eq_zero_or_pos (i - l.length) with h | h
            · exact h
            · rw [List.getElem?_eq_none (by simp; omega)] at hu; cases hu
          rw [h0] at hu
          obtain rfl : v = u := by simpa using hu
          rw [show i = n by omega]
          exact hv
    obtain ⟨l, hll, hp⟩ := pick len (Nat.le_refl _)
    refine ⟨l, ⟨some a, cap, by rw [hll], by omega, ?_⟩, ?_, ?_⟩
    · refine ⟨rfl, by unfold maxLen at hmx; omega, fun _ => ⟨a, rfl, fun j p hj => ?_⟩⟩
      obtain ⟨⟨cs', h1, h2⟩, _⟩ := hp j p hj
      refine ⟨cs', d.K_len h2, h2, fun i u hu => ?_⟩
      obtain ⟨_, hlen, hcell⟩ := World.cells?_some h1
      have hi : i < d.sz := by
        rcases Nat.lt_or_ge i cs'.length with h | h
        · rw [hlen] at h; exact h
        · rw [List.getElem?_eq_none h] at hu; cases hu
      have h3 := hcell i hi
      rw [Deep.add_add] at h3
      rw [h3]
      exact hu
    · have h2 := hw (m * P.bytesOf e) (by simp only [DataW.weights, ht, List.mem_cons]; left; rw [List.length_map, List.length_map, List.length_range, List.length_range, show len + (m - len) = m by omega])
      rw [hB] at h2
      rw [hll]
      exact Nat.le_trans (Nat.mul_le_mul_right _ hle) h2
    · intro x hx
      obtain ⟨i, hi⟩ := List.getElem?_of_mem hx
      exact (hp i x hi).2
theorem each_mem {H : Type} {n : Nat} : ∀ {ts : List TypeId} {ds : List (DataW H)} {j : Nat} {t : TypeId} {d : DataW H}, ts[j]? = some t → ds[j]? = some d → n ∈ d.weights P t → n ∈ DataW.weightsEach P ts ds :=
  fun ht hd hn => DataW.weights_mem_each ht hd _ hn
theorem Opn.struct {α β : Type} {d : Kd α} {fs : Array Field} {F : α → Prop} (f : β → α) (g : α → β) (hfg : ∀ a, f (g a) = a) (ht : P.underlying t = some (.struct fs)) (hc : P.cellsOf t = d.sz) (ho : Ofs d P fs 0 0 F) :
    Opn (Kd.iso d f) P t (fun x => F (f x)) := by
  intro H enc w base spare held fuel cs x h hw
  obtain ⟨xs, n, rfl, rfl, hlen, hxl, hel⟩ := DataW.trod_struct ht h
  obtain ⟨a, hK, hF⟩ := ho H enc w base spare held n cs xs (by rw [hlen, hc]; simp) hel hxl (by
    intro j fl x hj hx n hn
    refine hw n ?_
    simp only [DataW.weights, ht]
    refine each_mem (j := j) (t := fl.type) (d := x.1) ?_ ?_ hn
    · rw [List.getElem?_map, Array.getElem?_toList, hj]; rfl
    · rw [List.getElem?_map, hx]; rfl)
  refine ⟨g a, ?_, ?_⟩
  · show d.K w (f (g a)) cs
    rw [hfg]
    simpa using hK
  · show F (f (g a))
    rw [hfg]
    exact hF
theorem Ofs.last {α : Type} {d : Kd α} {fs : Array Field} {i off : Nat} {F : α → Prop} {f : Field} (hf : fs[i]? = some f) (ho : f.offset = off) (hc : P.cellsOf f.type = d.sz) (hd : Opn d P f.type F) : Ofs d P fs i off F := by
  intro H enc w base spare held fuel cs xs hlen hel hxl hw
  have h1 := hel i f hf
  have hi : i < xs.length := by rw [hxl]; exact (Array.getElem?_eq_some_iff.1 hf).1
  rw [List.getElem?_eq_getElem hi] at h1
  obtain ⟨a, hK, hF⟩ := hd H enc w base spare held fuel _ _ h1 (hw i f _ hf (List.getElem?_eq_getElem hi))
  refine ⟨a, ?_, hF⟩
  rw [ho, hc, List.take_of_length_le (by rw [List.length_drop]; omega)] at hK
  exact hK
theorem Ofs.cons {α β : Type} {d : Kd α} {d2 : Kd β} {fs : Array Field} {i off : Nat} {F : α → Prop} {F2 : β → Prop} {f : Field} (hf : fs[i]? = some f) (ho : f.offset = off) (hc : P.cellsOf f.type = d.sz) (hd : Opn d P f.type F)
    (hr : Ofs d2 P fs (i + 1) (off + d.sz) F2) : Ofs (Kd.pair d d2) P fs i off (fun x => F x.1 ∧ F2 x.2) := by
  intro H enc w base spare held fuel cs xs hlen hel hxl hw
  have hlen2 : cs.length = off + d.sz + d2.sz := by rw [hlen]; show off + (d.sz + d2.sz) = _; omega
  have h1 := hel i f hf
  have hi : i < xs.length := by rw [hxl]; exact (Array.getElem?_eq_some_iff.1 hf).1
  rw [List.getElem?_eq_getElem hi] at h1
  obtain ⟨a, hK, hF⟩ := hd H enc w base spare held fuel _ _ h1 (hw i f _ hf (List.getElem?_eq_getElem hi))
  obtain ⟨b, hK2, hF2⟩ := hr H enc w base spare held fuel cs xs hlen2 hel hxl hw
  refine ⟨(a, b), ⟨_, _, ?_, hK, hK2⟩, hF, hF2⟩
  rw [ho, hc, ← List.drop_drop, List.take_append_drop]
end Go.Proofs.Ytffokmamcempgaa.Open
