/- Texts: how many runes, words, their order; by our machine's rules. -/
import Derived.Test.YtffokmamcempgaaEnvD
import Derived.Test.YtffokmamcempgaaQU
namespace Go.Proofs.Ytffokmamcempgaa.P
open Go Go.RowKit Go.Proofs.Ytffokmamcempgaa.AM
set_option linter.unusedVariables false
set_option linter.unusedSimpArgs false
set_option maxRecDepth 100000
section
variable {n : Nat} {C : HC}
theorem len_qu (w0 : C.wf) (s : ByteArray) (hs : s.size < 4611686018427387904) : Qu (cf (n + 1)) 71 [.string s] C (.int .i64 (lenL s.data.toList)) := by
  refine Rn.enter rfl rfl rfl fun H0 hH => ?_
  subst hH
  have g := Chg.refl (S := fun _ => False) H0.c
  refine XC.then_ops ?_
  refine XO.op (o_move rfl) <| XO.nil <| ?_
  refine XC.then_ops ?_
  refine XO.op (o_move rfl) <| XO.nil <| ?_
  refine XC.assoc ?_
  refine XC.then_ops ?_
  refine XO.op (o_move rfl) <| ?_
  refine XO.nwp (o_rangeS rfl) (g.wf w0) ?_
  intro b7 H1 n7 g1 a7
  have m7 := n7
  replace n7 := Nat.le_trans g.next n7
  replace g := g.tr g1
  refine XO.nil <| ?_
  refine XC.then_block ?_
  refine XC.lp (σ := Nat × Nat) (fun x => [(3, .int .i64 (x.2 : Int))]) [(7, .pointer (some ⟨b7, 0, none⟩))] (fun x G => G.c.get b7 = some (.iter s x.1) ∧ Gr H0.c G.c ∧ x.1 ≤ s.size ∧ x.2 ≤ x.1 ∧ lgL (s.data.toList.drop x.1) (x.2 : Int) = lenL s.data.toList) (fun x => s.size - x.1 + 1) (0, 0) (Sb.cons rfl (Sb.cons rfl (Sb.nil _))) ⟨a7, g, Nat.zero_le _, Nat.le_refl _, by rw [List.drop_zero]; exact lgL_zero _⟩ (by show s.size - 0 + 1 < 9223372036854775808; omega) ?_
  clear a7 g g1
  rintro ⟨pos, cnt⟩ G ⟨a7, g, hp, hc, hl⟩
  simp only at a7 g hp hc hl
  have hd := decode_dec s pos
  have hw := dec_width (s.data.toList.drop pos)
  refine XC.then_ops ?_
  refine XO.nx rfl (a7) ?_
  intro H2 g1 u8
  replace g := Chg.th g w0 g1 (fun q hq => .inr (hq ▸ n7))
  replace a7 := u8
  clear u8
  refine XO.op (o_extract rfl (next0 _ _)) <| XO.nil <| ?_
  refine XC.pushIf rfl (fun hc9 => ?_) (fun hc9 => ?_)
  · skip
    have hne : s.data.toList.drop pos ≠ [] := fun e => by
      have h2 := congrArg List.length e
      rw [List.length_drop] at h2
      have : s.data.toList.length = s.size := rfl
      simp at h2
      omega
    have hnp : nextP s pos = pos + (dec (s.data.toList.drop pos)).2 := by unfold nextP; rw [if_pos hc9, hd]
    have hdl : (s.data.toList.drop pos).drop (dec (s.data.toList.drop pos)).2 = s.data.toList.drop (nextP s pos) := by rw [List.drop_drop, hnp]
    refine XC.then_skip ?_
    refine XC.block ?_
    refine XC.then_ops ?_
    refine XO.op (o_extract rfl (next2 hc9)) <| XO.op (o_move rfl) <| XO.nil <| ?_
    refine XC.assoc ?_
    refine XC.then_ops ?_
    refine XO.op (o_move rfl) <| XO.op (o_eq rfl rfl) <| XO.nil <| ?_
    refine XC.pushIf rfl (fun hc12 => ?_) (fun hc12 => ?_)
    · skip
      refine XC.assoc ?_
      refine XC.then_ops ?_
      refine XO.op (o_move rfl) <| XO.nil <| ?_
      refine XC.then_ret ?_
      refine blk_r ?_
      refine blk_r ?_
      refine then_r ?_
      refine ⟨_, rfl, ?_⟩
      refine ⟨?_, g⟩
      rw [hd] at hc12
      rw [← hl, lgL_odd hne hc12]
      rfl
    · skip
      refine XC.then_skip ?_
      refine XC.ops ?_
      refine XO.op (o_move rfl) <| XO.op (o_add rfl rfl (w64 (by omega) (by omega))) <| XO.op (o_move rfl) <| XO.nil <| ?_
      refine blk_n ?_
      rw [hd] at hc12
      have hl2 : (dec (s.data.toList.drop pos)).2 ≤ s.size - pos := by
        have := (dec_one hne (fun e => hc12 (by rw [e]; rfl))).len
        rw [List.length_drop] at this
        exact this
      exact ⟨(nextP s pos, cnt + 1), by show s.size - nextP s pos + 1 < s.size - pos + 1; omega, Sb.cons rfl (Sb.cons rfl (Sb.nil _)), a7, g, by show nextP s pos ≤ s.size; omega, by show cnt + 1 ≤ nextP s pos; omega, by rw [← hl, lgL_step hne hc12, hdl]; rfl⟩
  · skip
    have hnil : s.data.toList.drop pos = [] := List.drop_of_length_le (by show s.size ≤ pos; omega)
    rw [hnil, lgL_nil] at hl
    refine XC.then_exit ?_
    refine blk_x rfl ?_
    refine then_n ?_
    refine XC.then_ops ?_
    refine XO.op (o_move rfl) <| XO.op (o_move rfl) <| XO.nil <| ?_
    refine XC.ret ?_
    refine ⟨_, rfl, ?_⟩
    exact ⟨by rw [hl]; rfl, g⟩
theorem word_qu (w0 : C.wf) (s : ByteArray) (hs : s.size < 4611686018427387904) : Qu (cf (n + 2)) 69 [.string s] C (.bool (isWordL s.data.toList)) := by
  refine Rn.enter rfl rfl rfl fun H0 hH => ?_
  subst hH
  have g := Chg.refl (S := fun _ => False) H0.c
  refine XC.then_ops ?_
  refine XO.op (o_move rfl) <| XO.nil <| ?_
  refine XC.then_ops ?_
  refine XO.op (o_move rfl) <| ?_
  refine XO.ca (len_qu w0 s hs) rfl ?_
  rintro v5 H1 ⟨rfl, g1⟩
  replace g := g.tr g1
  refine XO.op (o_move rfl) <| XO.nil <| ?_
  refine XC.then_ops ?_
  refine XO.op (o_move rfl) <| XO.op (o_geq rfl rfl rfl) <| XO.op (o_move rfl) <| ?_
  apply XO.sca (j := 3) (g := 8) (d := 11) (hg := rfl)
  · intro hg8
    refine XO.gt rfl <| XO.op (o_move rfl) <| XO.gt rfl <| XO.op (o_leq rfl rfl rfl) <| XO.op (o_pick_t rfl rfl) <| XO.nil <| ?_
    exact ⟨rfl, rfl, by repeat (first | exact Sb.refl _ | refine Sb.pt ?_ rfl)⟩
  · intro hg8
    refine XO.pass rfl rfl <| XO.pass rfl rfl <| XO.op (o_pick_f rfl rfl) <| XO.nil <| ?_
    exact ⟨rfl, rfl, by repeat (first | exact Sb.refl _ | refine Sb.pt ?_ rfl)⟩
  refine XO.op (o_move rfl) <| XO.nil <| ?_
  refine XC.ret ?_
  refine ⟨_, rfl, ?_⟩
  exact ⟨rfl, g⟩
end
end Go.Proofs.Ytffokmamcempgaa.P
