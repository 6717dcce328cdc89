/- Contracts of text.Len, text.Runes (ranges over a string) and strings.Compare in the printed form; nothing is asked but sizes within the form's reach. -/
import Derived.Test.YtiobphijbpdolaaPx0
import Derived.Test.YtiobphijbpdolaaShelf
import Derived.Laws.RangeAny
import Derived.Lib.OthersKept
namespace Go.Proofs.Ytiobphijbpdolaa.P
open Go.RowKit Go.Proofs.YtiobphijbpdolaaW.PrintWords Go.Proofs.YtiobphijbpdolaaW.PrintLast Go.Proofs.YtiobphijbpdolaaW.PrintMore
set_option linter.unusedVariables false
set_option linter.unusedSimpArgs false

def strings_Compare.f (a0 a1 : ByteArray) : Option Int := some (Lib.compareBytes a0.data.toList a1.data.toList)
theorem strings_Compare.calls (a0 a1 : ByteArray) (r : Int) (w : World) (h : strings_Compare.f a0 a1 = some r) :
    Calls Try.prog 70 #[.string a0, .string a1] w fun e w' => e = .returned (.int .i64 r) ∧ Drawn0 w w' := by
  obtain rfl := Option.some.inj h
  exact (Try.strings_Compare a0 a1 w).mono fun e w' ⟨he, hw⟩ => ⟨he, by subst hw; exact Drawn0.refl _⟩

/-- a text's runes, as a range tells them: from a place on, so many at most -/
def runesFrom (s : ByteArray) : Nat → Nat → List Int
  | 0, _ => []
  | b + 1, pos => if pos < s.size then ((Utf8.decode s pos).1 : Int) :: runesFrom s b (pos + (Utf8.decode s pos).2) else []
def runesOf (s : ByteArray) : List Int := runesFrom s s.size 0
def lenOf (l : List Int) : Int := if l.contains 65533 then -1 else (l.length : Int)
def text_Len.f (a0 : ByteArray) : Option Int := if a0.size ≤ 140737488355328 then some (lenOf (runesOf a0)) else none
def text_Runes.f (a0 : ByteArray) : Option (List Int × Bool) :=
  if a0.size < 35184372088832 then (if (runesOf a0).contains 65533 then some ([], false) else some (runesOf a0, true)) else none

theorem runesFrom_end (s : ByteArray) (b pos : Nat) (h : ¬ pos < s.size) : runesFrom s b pos = [] := by
  cases b with
  | zero => rfl
  | succ b => simp [runesFrom, h]
theorem width_pos (s : ByteArray) (pos : Nat) (h : pos < s.size) : 1 ≤ (Utf8.decode s pos).2 := by
  by_cases ha : (s[pos]'h).toNat < 128
  · rw [decode_ascii s pos h ha]
    exact Nat.le_refl _
  · exact (decode_high s pos h (by omega)).2
theorem width_le (s : ByteArray) (pos : Nat) : (Utf8.decode s pos).2 ≤ 4 := by
  simp only [Utf8.decode]
  repeat' split
  all_goals simp
theorem runesFrom_length (s : ByteArray) (b pos : Nat) : (runesFrom s b pos).length ≤ s.size - pos := by
  induction b generalizing pos with
  | zero => simp [runesFrom]
  | succ b ih =>
    rw [runesFrom]
    split
    · rename_i h
      have := ih (pos + (Utf8.decode s pos).2)
      have := width_pos s pos h
      simp only [List.length_cons]
      omega
    · simp

def lg (l : List Int) (acc : Int) : Int := if l.contains 65533 then -1 else acc + (l.length : Int)
theorem lg_nil (acc : Int) : lg [] acc = acc := by simp [lg]
theorem lg_odd (l : List Int) (acc : Int) : lg (65533 :: l) acc = -1 := by simp [lg]
theorem lg_cons (x : Int) (l : List Int) (acc : Int) (h : (x == 65533) = false) : lg (x :: l) acc = lg l (acc + 1) := by
  have h2 : ¬ (65533 : Int) = x := fun e => by subst e; simp at h
  simp only [lg, List.contains_cons, beq_eq_false_iff_ne.2 h2, Bool.false_or, List.length_cons]
  split
  · rfl
  · omega
theorem below_iter {B : Nat} (w0 w : World) (hB : B ≤ w.heap.size) (h : Below B w0 w) (s : ByteArray) (p : Nat) : Below B w0 (w.iter s p) := by
  unfold World.iter
  exact h.alloc hB _

set_option maxRecDepth 100000 in
theorem text_Len.calls (a0 : ByteArray) (r : Int) (w : World) (h : text_Len.f a0 = some r) :
    Calls Try.prog 23 #[.string a0] w fun e w' => e = .returned (.int .i64 r) ∧ Below w.heap.size w w' := by
  unfold text_Len.f at h
  split at h
  case isFalse => cases h
  rename_i hs
  have HR : Hid (lg (runesFrom a0 a0.size 0) 0 = r) := by
    have h2 := Option.some.inj h
    have h3 : lg (runesFrom a0 a0.size 0) 0 = lenOf (runesOf a0) := by simp [lg, lenOf, runesOf]
    exact h3.trans h2
  clear h
  go_enter Try.func23, Try.ntmps23
  go_wp2
  go_loopw [3] (fun n w' => ∃ (pos b : Nat) (acc : Int), w' = w.iter a0 pos ∧ n = .int .i64 acc ∧ 0 ≤ acc ∧ acc ≤ pos ∧ pos ≤ a0.size + 4 ∧ Hid (lg (runesFrom a0 b pos) acc = r) ∧ a0.size ≤ pos + b) (fun _ w' => a0.size - w'.iterPos w.heap.size)
  case atStart => exact ⟨0, a0.size, 0, rfl, rfl, by omega, by omega, by omega, HR, by omega⟩
  case round =>
    clear HR
    obtain ⟨pos, b, acc, rfl, rfl, ha, hap, hps, hc, hb⟩ := hrel
    by_cases hp : pos < a0.size
    · have hnx : ∀ ty, (Instr.next (.pointer (some ⟨w.heap.size, 0, none⟩)) true ty).run Try.prog (w.iter a0 pos) = _ := fun ty => run_next_any w a0 pos ty hp
      have hwd := width_pos a0 pos hp
      have hw4 : (Utf8.decode a0 pos).2 ≤ 4 := width_le a0 pos
      cases b with
      | zero => omega
      | succ b =>
      have HC : Hid (lg (((Utf8.decode a0 pos).1 : Int) :: runesFrom a0 b (pos + (Utf8.decode a0 pos).2)) acc = r) := by
        have := hc.out
        rw [runesFrom, if_pos hp] at this
        exact this
      clear hc
      by_cases ho : (((Utf8.decode a0 pos).1 : Int) == 65533) = true
      · go_wp2
        go_ret
        have e : ((Utf8.decode a0 pos).1 : Int) = 65533 := by simpa using ho
        have := HC.out
        rw [e, lg_odd] at this
        subst this
        exact ⟨rfl, below_iter _ _ (Nat.le_refl _) (Below.refl _ _) _ _⟩
      · have ho' : (((Utf8.decode a0 pos).1 : Int) == 65533) = false := by simpa using ho
        clear ho
        have HC2 : Hid (lg (runesFrom a0 b (pos + (Utf8.decode a0 pos).2)) (acc + 1) = r) := by
          have := HC.out
          rw [lg_cons _ _ _ ho'] at this
          exact this
        clear HC
        go_wp2
        go_roundw
        case rel => exact ⟨pos + (Utf8.decode a0 pos).2, b, acc + 1, rfl, by go_num, by omega, by omega, by omega, HC2, by omega⟩
        case measure =>
          simp
          omega
    · have hnx : ∀ ty, (Instr.next (.pointer (some ⟨w.heap.size, 0, none⟩)) true ty).run Try.prog (w.iter a0 pos) = _ := fun ty => run_next_end w a0 pos ty hp
      go_wp2
      go_ret
      have := hc.out
      rw [runesFrom_end a0 b pos hp, lg_nil] at this
      subst this
      exact ⟨rfl, below_iter _ _ (Nat.le_refl _) (Below.refl _ _) _ _⟩

theorem R_iter {α : Type} {d : Kd α} {e : Nat} {w : World} {base : Nat} {ok : Nat → Prop} {v : Value} {xs : List α} (h : d.R e w base ok v xs) {k : Nat} {s : ByteArray} {pos : Nat} (hk : w.heap[k]? = some (.stringIter s pos)) (p : Nat) :
    d.R e (w.iterAt k s p) base ok v xs := by
  refine Kd.R_mono (Kd.R_step (Kd.R_bound h) (fun j hj _ => Lib.iterAt_other w k j s p ?_)) (fun _ hj => hj.1)
  obtain ⟨_, _, _, _, _, cells, hc⟩ := hj
  rintro rfl
  rw [hk] at hc
  cases hc

theorem iterPos_of (w : World) (k : Nat) (s : ByteArray) (pos : Nat) (hk : w.heap[k]? = some (.stringIter s pos)) : w.iterPos k = pos := by simp [World.iterPos, hk]

set_option maxHeartbeats 1000000 in
set_option maxRecDepth 100000 in
theorem text_Runes.calls (a0 : ByteArray) (r1 : List Int) (r2 : Bool) (w : World) (h : text_Runes.f a0 = some (r1, r2)) :
    Calls Try.prog 58 #[.string a0] w fun e w' => ∃ v0_ : Value, e = .returned (.tuple #[v0_, .bool r2]) ∧ Kd.R (Kd.int .i32) 21 w' w.heap.size (fun _ => True) v0_ r1 ∧ Below w.heap.size w w' := by
  unfold text_Runes.f at h
  split at h
  case isFalse => cases h
  rename_i hs
  go_enter Try.func58, Try.ntmps58
  go_wp2
  go_loopw [4] (fun v w' => ∃ (pos b : Nat) (acc : List Int), w'.heap[w.heap.size]? = some (.stringIter a0 pos) ∧ Kd.R (Kd.int .i32) 21 w' w.heap.size (fun _ => True) v acc ∧ Below w.heap.size w w' ∧ acc.length ≤ pos ∧ pos ≤ a0.size + 4 ∧ Hid (acc ++ runesFrom a0 b pos = runesOf a0) ∧ Hid (acc.contains 65533 = false) ∧ a0.size ≤ pos + b) (fun _ w' => a0.size - w'.iterPos w.heap.size)
  case atStart => exact ⟨0, a0.size, [], World.iter_heap _ _ _, Kd.R_nil _ _ _ _ _, below_iter _ _ (Nat.le_refl _) (Below.refl _ _) _ _, by simp, by omega, rfl, rfl, by omega⟩
  case round =>
    obtain ⟨pos, b, acc, hk, HO, HB, hap, hps, hc, hno, hb⟩ := hrel
    have HO' := Aside0.mk HO
    have HB' := Aside0.mk HB
    have hk' := Aside0.mk hk
    clear HO HB
    by_cases hp : pos < a0.size
    · have hnx : ∀ ty, (Instr.next (.pointer (some ⟨w.heap.size, 0, none⟩)) true ty).run Try.prog wr = _ := fun ty => Lib.run_next_any_at wr w.heap.size a0 pos ty hk hp
      clear hk
      have hwd := width_pos a0 pos hp
      have hw4 : (Utf8.decode a0 pos).2 ≤ 4 := width_le a0 pos
      have HO1 := Aside0.mk (R_iter HO'.out hk'.out (pos + (Utf8.decode a0 pos).2))
      have HB1 := Aside0.mk (Lib.below_iterAt HB'.out (Nat.le_refl _) a0 (pos + (Utf8.decode a0 pos).2))
      have hk1 := Aside0.mk (Lib.iterAt_heap wr w.heap.size a0 pos (pos + (Utf8.decode a0 pos).2) hk'.out)
      have hsz := Aside0.mk (iterPos_of wr _ _ _ hk'.out)
      generalize hW : wr.iterAt w.heap.size a0 (pos + (Utf8.decode a0 pos).2) = W1 at *
      clear hW HO' HB' hk'
      cases b with
      | zero => omega
      | succ b =>
      have HC : Hid (acc ++ (((Utf8.decode a0 pos).1 : Int) :: runesFrom a0 b (pos + (Utf8.decode a0 pos).2)) = runesOf a0) := by
        have := hc.out
        rw [runesFrom, if_pos hp] at this
        exact this
      clear hc
      by_cases ho : (((Utf8.decode a0 pos).1 : Int) == 65533) = true
      · go_wp2
        go_ret2
        have e : ((Utf8.decode a0 pos).1 : Int) = 65533 := by simpa using ho
        have h1 := HC.out
        rw [e] at h1
        rw [← h1, if_pos (by simp)] at h
        obtain ⟨rfl, rfl⟩ := Prod.mk.inj (Option.some.inj h)
        exact ⟨_, rfl, Kd.R_nil _ _ _ _ _, HB1.out⟩
      · have ho' : (((Utf8.decode a0 pos).1 : Int) == 65533) = false := by simpa using ho
        clear ho
        go_wp2_with (at_builtin; refine Kd.R_append (Kd.int .i32) (w0 := w) w.heap.size rfl (.tmp 14) (.tmp 16) 82 21 (.int .i32 0) 4 rfl Try.underlying82 info21 rfl (by decide) (by omega) _ acc ((Utf8.decode a0 pos).1 : Int) [.int .i32 ((Utf8.decode a0 pos).1 : Int)] (fun _ => True) (fun _ => False) rfl rfl ?aP (fun _ hk => hk.elim) ?aF ?aO ?aB ?aS ?aL ?_; (case aP => exact rfl); (case aB => exact HB1.out); (case aF => exact (fun _ _ => trivial)); (case aO => exact HO1.out); (case aS => exact HB1.out.size); (case aL => omega); intro v169 w12 ho hb1 hg hat; have n0_ := Aside0.mk hb1; have n1_ := Aside0.mk ho; have n2_ := Aside0.mk hg; clear ho hb1 hg hat)
        go_roundw
        case rel =>
          refine ⟨pos + (Utf8.decode a0 pos).2, b, acc ++ [((Utf8.decode a0 pos).1 : Int)], ?_, n1_.out, n0_.out, by simp; omega, by omega, ?_, ?_, by omega⟩
          · rw [n2_.out.block _ (Array.getElem?_eq_some_iff.1 hk1.out).1 ?_]
            · exact hk1.out
            · intro e
              obtain ⟨cells, hc⟩ := Kd.R_typed HO1.out _ e.symm
              rw [hk1.out] at hc
              cases hc
          · show _ = _
            rw [List.append_assoc]
            exact HC.out
          · show _ = _
            have h1 := hno.out
            have h2 : ¬ (65533 : Int) = ((Utf8.decode a0 pos).1 : Int) := fun e => by rw [← e] at ho'; simp at ho'
            simp only [List.contains_append, h1, Bool.false_or, List.contains_cons, List.contains_nil, Bool.or_false, beq_eq_false_iff_ne.2 h2]
        case measure =>
          rw [hsz.out]
          have : w12.iterPos w.heap.size = pos + (Utf8.decode a0 pos).2 := by
            refine iterPos_of _ _ a0 _ ?_
            rw [n2_.out.block _ (Array.getElem?_eq_some_iff.1 hk1.out).1 ?_]
            · exact hk1.out
            · intro e
              obtain ⟨cells, hc⟩ := Kd.R_typed HO1.out _ e.symm
              rw [hk1.out] at hc
              cases hc
          rw [this]
          omega
    · have hnx : ∀ ty, (Instr.next (.pointer (some ⟨w.heap.size, 0, none⟩)) true ty).run Try.prog wr = _ := fun ty => Lib.run_next_end_at wr w.heap.size a0 pos ty hk hp
      clear hk
      go_wp2
      go_ret2
      have h1 := hc.out
      rw [runesFrom_end a0 b pos hp, List.append_nil] at h1
      rw [← h1, if_neg (by rw [hno.out]; simp)] at h
      obtain ⟨rfl, rfl⟩ := Prod.mk.inj (Option.some.inj h)
      exact ⟨_, rfl, HO'.out, HB'.out⟩
end Go.Proofs.Ytiobphijbpdolaa.P
