/- Cuts and shards (package part), and which words are good (package list): by our machine's rules. -/
import Derived.Test.YtffokmamcempgaaText
import Derived.Test.YtffokmamcempgaaQW
namespace Go.Proofs.Ytffokmamcempgaa.P
open Go Go.RowKit Go.Proofs.Ytffokmamcempgaa.AM
set_option linter.unusedVariables false
set_option linter.unusedSimpArgs false
set_option maxRecDepth 100000
def cmpB (a b : ByteArray) : Int := Lib.compareBytes a.data.toList b.data.toList
structure Ky where
  len : Int
  txt : ByteArray
def Ky.cs (k : Ky) : List Value := [.int .i64 k.len, .string k.txt]
theorem Ky.cs_len (k : Ky) : k.cs.length = 2 := rfl
def sgn (a b : Int) : Int := if a < b then -1 else if b < a then 1 else 0
def orL (l : List Int) : Int := (l.find? (· ≠ 0)).getD 0
def keyCmp (a b : Ky) : Int := orL [sgn a.len b.len, cmpB a.txt b.txt]
def keyLt (a b : Ky) : Bool := decide (keyCmp a b < 0)
abbrev sm (s : ByteArray) : Prop := s.size < 4611686018427387904
abbrev keyRow (C : HC) (v : Value) (l : List Ky) : Prop := Rw C 65 2 v l.length (l.map Ky.cs).flatten
abbrev strRow (C : HC) (v : Value) (l : List ByteArray) : Prop := Rw C 9 1 v l.length (l.map Value.string)
abbrev intRow (C : HC) (v : Value) (l : List Int) : Prop := Rw C 3 1 v l.length (l.map (Value.int .i64))
section
variable {n : Nat} {C : HC}
theorem cmp_pu (a b : ByteArray) : Pu (cf (n + 2)) 70 [.string a, .string b] C (.int .i64 (cmpB a b)) := by
  have hx : Pu (cf (n + 1)) 93 [.string a, .string b] C (.int .i64 (cmpB a b)) := fun H _ => by
    show some (Value.int .i64 (cmpL a.data.toList b.data.toList), H) = _
    rw [cmpL_eq]
    rfl
  refine Pu.enter rfl rfl rfl fun H0 hH => ?_
  subst hH
  refine XC.then_ops ?_
  refine XO.op (o_move rfl) <| XO.nil <| ?_
  refine XC.then_ops ?_
  refine XO.op (o_move rfl) <| XO.op (o_move rfl) <| XO.pu (hx) rfl <| XO.op (o_move rfl) <| XO.nil <| ?_
  refine XC.ret ?_
  refine ⟨_, rfl, ?_⟩
  exact ⟨rfl, rfl⟩
theorem nan_pu (a : Int) : Pu (cf (n + 1)) 117 [.int .i64 a] C (.bool false) := by
  refine Pu.enter rfl rfl rfl fun H0 hH => ?_
  subst hH
  refine XC.then_ops ?_
  refine XO.op (o_move rfl) <| XO.nil <| ?_
  refine XC.then_ops ?_
  refine XO.op (o_move rfl) <| XO.op (o_move rfl) <| XO.op (o_neq (q := false) rfl rfl (by simp)) <| XO.op (o_move rfl) <| XO.nil <| ?_
  refine XC.ret ?_
  refine ⟨_, rfl, ?_⟩
  exact ⟨rfl, rfl⟩
theorem sgn_pu (a b : Int) : Pu (cf (n + 2)) 108 [.int .i64 a, .int .i64 b] C (.int .i64 (sgn a b)) := by
  refine Pu.enter rfl rfl rfl fun H0 hH => ?_
  subst hH
  refine XC.then_ops ?_
  refine XO.op (o_move rfl) <| XO.nil <| ?_
  refine XC.then_ops ?_
  refine XO.op (o_move rfl) <| XO.pu (nan_pu a) rfl <| XO.op (o_move rfl) <| XO.nil <| ?_
  refine XC.then_ops ?_
  refine XO.op (o_move rfl) <| XO.pu (nan_pu b) rfl <| XO.op (o_move rfl) <| XO.nil <| ?_
  refine XC.assoc ?_
  refine XC.then_ops ?_
  refine XO.op (o_move rfl) <| XO.nil <| ?_
  refine XC.push_f (rfl) ?_
  refine XC.then_skip ?_
  refine XC.assoc ?_
  refine XC.then_ops ?_
  refine XO.op (o_move rfl) <| XO.nil <| ?_
  refine XC.push_f (rfl) ?_
  refine XC.then_skip ?_
  refine XC.assoc ?_
  refine XC.then_ops ?_
  refine XO.op (o_move rfl) <| XO.op (o_move rfl) <| XO.op (o_lss rfl rfl rfl) <| XO.nil <| ?_
  refine XC.pushIf rfl (fun hc16 => ?_) (fun hc16 => ?_)
  · skip
    refine XC.assoc ?_
    refine XC.then_ops ?_
    refine XO.op (o_move rfl) <| XO.nil <| ?_
    refine XC.then_ret ?_
    refine ⟨_, rfl, ?_⟩
    exact ⟨by unfold sgn; rw [if_pos hc16]; rfl, rfl⟩
  · skip
    refine XC.then_skip ?_
    refine XC.assoc ?_
    refine XC.then_ops ?_
    refine XO.op (o_move rfl) <| XO.op (o_move rfl) <| XO.op (o_gtr rfl rfl rfl) <| XO.nil <| ?_
    refine XC.pushIf rfl (fun hc19 => ?_) (fun hc19 => ?_)
    · skip
      refine XC.assoc ?_
      refine XC.then_ops ?_
      refine XO.op (o_move rfl) <| XO.nil <| ?_
      refine XC.then_ret ?_
      refine ⟨_, rfl, ?_⟩
      exact ⟨by unfold sgn; rw [if_neg hc16, if_pos hc19]; rfl, rfl⟩
    · skip
      refine XC.then_skip ?_
      refine XC.then_ops ?_
      refine XO.op (o_move rfl) <| XO.nil <| ?_
      refine XC.ret ?_
      refine ⟨_, rfl, ?_⟩
      exact ⟨by unfold sgn; rw [if_neg hc16, if_neg hc19]; rfl, rfl⟩
theorem or_pu {v : Value} {l : List Int} (hr : intRow C v l) (hl : l.length < 1000000) : Pu (cf (n + 1)) 107 [v] C (.int .i64 (orL l)) := by
  refine Pu.enter rfl rfl rfl fun H0 hH => ?_
  subst hH
  refine XC.then_ops ?_
  refine XO.op (o_move rfl) <| XO.nil <| ?_
  refine XC.then_ops ?_
  refine XO.op (o_move rfl) <| XO.nil <| ?_
  refine XC.assoc ?_
  refine XC.then_ops ?_
  refine XO.op (o_move rfl) <| XO.op (o_len hr rfl) <| XO.op (o_move rfl) <| XO.nil <| ?_
  refine XC.then_block ?_
  refine XC.lp (σ := Nat) (fun j => [(8, .int .i64 (j : Int))]) [(3, .int .i64 0), (6, v), (7, .int .i64 (l.length : Int))] (fun j G => G = H0 ∧ j ≤ l.length ∧ orL l = orL (l.drop j)) (fun j => l.length - j) 0 (Sb.cons rfl (Sb.cons rfl (Sb.cons rfl (Sb.cons rfl (Sb.nil _))))) ⟨rfl, Nat.zero_le _, by rw [List.drop_zero]⟩ (by show l.length - 0 < 9223372036854775808; omega) ?_
  rintro j G ⟨rfl, hj, he⟩
  refine XC.then_ops ?_
  refine XO.op (o_lss rfl rfl rfl) <| XO.nil <| ?_
  refine XC.pushIf rfl (fun hc9 => ?_) (fun hc9 => ?_)
  · skip
    have hj2 : j < l.length := by omega
    rw [List.drop_eq_getElem_cons hj2] at he
    refine XC.then_skip ?_
    refine XC.then_block ?_
    refine XC.then_ops ?_
    refine XO.op (o_ix hr rfl rfl hj2) <| XO.op (o_ld hr rfl (by simp only [Option.getD_none]; omega) (by omega) (one_cell hj2)) <| XO.op (o_move rfl) <| XO.nil <| ?_
    refine XC.then_ops ?_
    refine XO.op (o_move rfl) <| XO.op (o_move rfl) <| XO.op (o_ne rfl rfl) <| XO.nil <| ?_
    refine XC.ite rfl (fun hc14 => ?_) (fun hc14 => ?_)
    · skip
      refine XC.then_ops ?_
      refine XO.op (o_move rfl) <| XO.op (o_move rfl) <| XO.nil <| ?_
      refine XC.ret ?_
      refine blk_r ?_
      refine then_r ?_
      refine blk_r ?_
      refine then_r ?_
      refine ⟨_, rfl, ?_⟩
      refine ⟨?_, rfl⟩
      rw [he, orL, List.find?_cons_of_pos (by simpa using hc14)]
      rfl
    · skip
      refine XC.skip ?_
      refine blk_n ?_
      refine then_n ?_
      refine XC.ops ?_
      refine XO.op (o_add rfl rfl (w64 (by omega) (by omega))) <| XO.op (o_move rfl) <| XO.nil <| ?_
      exact ⟨j + 1, by show l.length - (j + 1) < l.length - j; omega, Sb.cons rfl (Sb.cons rfl (Sb.cons rfl (Sb.cons rfl (Sb.nil _)))), rfl, hj2, by rw [he, orL, List.find?_cons_of_neg (by simpa using hc14)]; rfl⟩
  · skip
    have hn : l.drop j = [] := List.drop_of_length_le (by omega)
    refine XC.then_exit ?_
    refine blk_x rfl ?_
    refine then_n ?_
    refine XC.then_ops ?_
    refine XO.op (o_move rfl) <| XO.op (o_move rfl) <| XO.nil <| ?_
    refine XC.ret ?_
    refine ⟨_, rfl, ?_⟩
    exact ⟨by rw [he, hn]; rfl, rfl⟩
theorem kcmp_qu (w0 : C.wf) (a b : Ky) : Qu (cf (n + 3)) 94 [.agg ⟨a.cs⟩, .agg ⟨b.cs⟩] C (.int .i64 (keyCmp a b)) := by
  refine Rn.enter rfl rfl rfl fun H0 hH => ?_
  subst hH
  have g := Chg.refl (S := fun _ => False) H0.c
  refine XC.then_ops ?_
  refine XO.nwp (o_box rfl) (g.wf w0) ?_
  intro b2 H1 n2 g1 a2
  have m2 := n2
  replace n2 := Nat.le_trans g.next n2
  replace g := g.tr g1
  have lt_a2 := HC.wf.lt (g.wf w0) a2
  refine XO.nwp (o_box rfl) (g.wf w0) ?_
  intro b3 H2 n3 g1 a3
  have m3 := n3
  replace n3 := Nat.le_trans g.next n3
  replace a2 := Gr.at g1 a2
  replace g := g.tr g1
  refine XO.op (o_move rfl) <| XO.nil <| ?_
  refine XC.then_draw ?_
  refine XD.pure (o_fieldAddr rfl) <| XD.pure (o_get rfl a2 rfl) <| XD.pure (o_fieldAddr rfl) <| XD.pure (o_get rfl a3 rfl) <| XD.pu (sgn_pu _ _) rfl <| XD.pure (o_fieldAddr rfl) <| XD.lk (o_get rfl a2 rfl) rfl fun R11 => XD.pure (o_fieldAddr rfl) <| XD.lk (o_get rfl a3 rfl) rfl fun R13 => XD.pu (cmp_pu _ _) rfl <| ?_
  have lt_a2 := HC.wf.lt (g.wf w0) a2
  have lt_a3 := HC.wf.lt (g.wf w0) a3
  refine XD.nws (o_buildSlice rfl rfl) (g.wf w0) ?_
  intro b15 H3 n15 g1 a15
  have m15 := n15
  replace n15 := Nat.le_trans g.next n15
  replace a2 := Gr.at g1 a2
  replace a3 := Gr.at g1 a3
  replace g := g.tr g1
  refine XD.pu (or_pu (l := [sgn a.len b.len, cmpB a.txt b.txt]) (Rw.fresh rfl (Nat.le_refl _) a15) (show 2 < 1000000 by decide)) rfl <| XD.pure (o_move rfl) <| XD.nil <| ?_
  refine XC.ret ?_
  refine ⟨_, rfl, ?_⟩
  exact ⟨rfl, g⟩
theorem kless_qu (w0 : C.wf) (a b : Ky) : Qu (cf (n + 4)) 72 [.agg ⟨a.cs⟩, .agg ⟨b.cs⟩] C (.bool (keyLt a b)) := by
  refine Rn.enter rfl rfl rfl fun H0 hH => ?_
  subst hH
  have g := Chg.refl (S := fun _ => False) H0.c
  refine XC.then_ops ?_
  refine XO.nwp (o_box rfl) (g.wf w0) ?_
  intro b2 H1 n2 g1 a2
  have m2 := n2
  replace n2 := Nat.le_trans g.next n2
  replace g := g.tr g1
  have lt_a2 := HC.wf.lt (g.wf w0) a2
  refine XO.nwp (o_box rfl) (g.wf w0) ?_
  intro b3 H2 n3 g1 a3
  have m3 := n3
  replace n3 := Nat.le_trans g.next n3
  replace a2 := Gr.at g1 a2
  replace g := g.tr g1
  refine XO.op (o_move rfl) <| XO.nil <| ?_
  refine XC.then_ops ?_
  refine XO.op (o_get rfl a2 rfl) <| XO.op (o_get rfl a3 rfl) <| ?_
  refine XO.ca (kcmp_qu (g.wf w0) a b) rfl ?_
  rintro v7 H3 ⟨rfl, g1⟩
  replace a2 := Gr.at g1 a2
  replace a3 := Gr.at g1 a3
  replace g := g.tr g1
  refine XO.op (o_lss rfl rfl rfl) <| XO.op (o_move rfl) <| XO.nil <| ?_
  refine XC.ret ?_
  refine ⟨_, rfl, ?_⟩
  exact ⟨rfl, g⟩
/-! which cuts a key is not below -/
def shardOf (l : List Ky) (k : Ky) : Nat := (l.filter fun c => !keyLt k c).length
theorem below_qu (w0 : C.wf) {v : Value} {l : List Ky} (hr : keyRow C v l) (hl : l.length < 1000000) (k : Ky) : Qu (cf (n + 5)) 83 [v, .agg ⟨k.cs⟩, .func (.func 72) #[] #[]] C (.int .i64 (shardOf l k)) := by
  refine Rn.enter rfl rfl rfl fun H0 hH => ?_
  subst hH
  have g := Chg.refl (S := fun _ => False) H0.c
  refine XC.then_ops ?_
  refine XO.nwp (o_box rfl) (g.wf w0) ?_
  intro b4 H1 n4 g1 a4
  have m4 := n4
  replace n4 := Nat.le_trans g.next n4
  replace g := g.tr g1
  refine XO.op (o_move rfl) <| XO.nil <| ?_
  refine XC.then_ops ?_
  refine XO.op (o_move rfl) <| XO.nil <| ?_
  refine XC.assoc ?_
  refine XC.then_ops ?_
  refine XO.op (o_move rfl) <| XO.op (o_len (hr.gr g) rfl) <| XO.op (o_move rfl) <| XO.nil <| ?_
  refine XC.then_block ?_
  refine XC.lp (σ := Nat) (fun j => [(12, .int .i64 (j : Int)), (7, .int .i64 (shardOf (l.take j) k : Int))]) [(10, v), (11, .int .i64 (l.length : Int)), (2, .func (.func 72) #[] #[]), (4, .pointer (some ⟨b4, 0, none⟩))] (fun j G => Gr H0.c G.c ∧ G.c.get b4 = some (.cells true 65 k.cs) ∧ j ≤ l.length) (fun j => l.length - j) 0 (Sb.cons rfl (Sb.cons rfl (Sb.cons rfl (Sb.cons rfl (Sb.cons rfl (Sb.cons rfl (Sb.nil _))))))) ⟨g, a4, Nat.zero_le _⟩ (by show l.length - 0 < 9223372036854775808; omega) ?_
  clear g a4 g1
  rintro j G ⟨g, a4, hj⟩
  have hb : (shardOf (l.take j) k : Int) ≤ j := by unfold shardOf; have := List.length_filter_le (fun c => !keyLt k c) (l.take j); rw [List.length_take] at this; omega
  refine XC.then_ops ?_
  refine XO.op (o_lss rfl rfl rfl) <| XO.nil <| ?_
  refine XC.pushIf rfl (fun hc13 => ?_) (fun hc13 => ?_)
  · skip
    have hj2 : j < l.length := by omega
    have hst : shardOf (l.take (j + 1)) k = shardOf (l.take j) k + (if keyLt k l[j] then 0 else 1) := by
      unfold shardOf
      rw [List.take_succ_eq_append_getElem hj2, List.filter_append, List.length_append]
      congr 1
      cases hq : keyLt k l[j] <;> simp [hq]
    refine XC.then_skip ?_
    refine XC.then_block ?_
    refine XC.then_ops ?_
    refine XO.op (o_ix (hr.gr g) rfl rfl hj2) <| XO.op (o_ld (hr.gr g) rfl (by show j * 2 + 2 ≤ _; omega) (by omega) (flat_part Ky.cs_len hj2)) <| ?_
    have lt_a4 := HC.wf.lt (g.wf w0) a4
    refine XO.nwp (o_new) (g.wf w0) ?_
    intro b9 H2 n9 g1 a9
    have m9 := n9
    replace n9 := Nat.le_trans g.next n9
    replace a4 := Gr.at g1 a4
    replace g := g.tr g1
    refine XO.up (o_set rfl rfl a9 rfl rfl rfl) (a9) ?_
    intro H3 g1 us1
    replace a4 := Chg.at g1 a4 (by show ¬ _ = _; omega)
    replace g := Chg.th g w0 g1 (fun q hq => .inr (hq ▸ n9))
    replace a9 := us1
    clear us1
    refine XO.nil <| ?_
    refine XC.then_ops ?_
    refine XO.op (o_move rfl) <| XO.op (o_get rfl a4 rfl) <| XO.op (o_get rfl a9 rfl) <| ?_
    refine XO.cv (kless_qu (g.wf w0) k l[j]) rfl rfl ?_
    rintro v19 H4 ⟨rfl, g1⟩
    replace a4 := Gr.at g1 a4
    replace a9 := Gr.at g1 a9
    replace g := g.tr g1
    refine XO.op (o_not rfl) <| XO.nil <| ?_
    refine XC.cond rfl (fun hc20 => ?_) (fun hc20 => ?_)
    · skip
      have hk : keyLt k l[j] = false := by simpa using hc20
      rw [hk] at hst
      simp only [Bool.false_eq_true, if_false] at hst
      refine XC.ops ?_
      refine XO.op (o_move rfl) <| XO.op (o_add rfl rfl (w64 (by omega) (by omega))) <| XO.op (o_move rfl) <| XO.nil <| ?_
      refine blk_n ?_
      refine then_n ?_
      refine XC.ops ?_
      refine XO.op (o_add rfl rfl (w64 (by omega) (by omega))) <| XO.op (o_move rfl) <| XO.nil <| ?_
      exact ⟨j + 1, by show l.length - (j + 1) < l.length - j; omega, Sb.cons rfl (Sb.cons (by rw [hst]; rfl) (Sb.cons rfl (Sb.cons rfl (Sb.cons rfl (Sb.cons rfl (Sb.nil _)))))), g, a4, hj2⟩
    · skip
      have hk : keyLt k l[j] = true := by simpa using hc20
      rw [hk] at hst
      simp only [if_true, Nat.add_zero] at hst
      refine XC.skip ?_
      refine blk_n ?_
      refine then_n ?_
      refine XC.ops ?_
      refine XO.op (o_add rfl rfl (w64 (by omega) (by omega))) <| XO.op (o_move rfl) <| XO.nil <| ?_
      exact ⟨j + 1, by show l.length - (j + 1) < l.length - j; omega, Sb.cons rfl (Sb.cons (by rw [hst]; rfl) (Sb.cons rfl (Sb.cons rfl (Sb.cons rfl (Sb.cons rfl (Sb.nil _)))))), g, a4, hj2⟩
  · skip
    refine XC.then_exit ?_
    refine blk_x rfl ?_
    refine then_n ?_
    refine XC.then_ops ?_
    refine XO.op (o_move rfl) <| XO.op (o_move rfl) <| XO.nil <| ?_
    refine XC.ret ?_
    refine ⟨_, rfl, ?_⟩
    exact ⟨by rw [List.take_of_length_le (by omega)]; rfl, g⟩
def ofL (l : List Ky) (w : ByteArray) : Int := if isWordL w.data.toList then (shardOf l ⟨lenL w.data.toList, w⟩ : Int) else -1
theorem of_qu (w0 : C.wf) {v : Value} {l : List Ky} (hr : keyRow C v l) (hl : l.length < 1000000) (w : ByteArray) (hw : sm w) : Qu (cf (n + 6)) 64 [v, .string w] C (.int .i64 (ofL l w)) := by
  refine Rn.enter rfl rfl rfl fun H0 hH => ?_
  subst hH
  have g := Chg.refl (S := fun _ => False) H0.c
  refine XC.then_ops ?_
  refine XO.op (o_move rfl) <| XO.nil <| ?_
  refine XC.assoc ?_
  refine XC.then_ops ?_
  refine XO.op (o_move rfl) <| ?_
  refine XO.ca (word_qu w0 w hw) rfl ?_
  rintro v6 H1 ⟨rfl, g1⟩
  replace g := g.tr g1
  refine XO.op (o_not rfl) <| XO.nil <| ?_
  refine XC.push rfl (fun hc7 => ?_) (fun hc7 => ?_)
  · skip
    refine XC.assoc ?_
    refine XC.then_ops ?_
    refine XO.op (o_move rfl) <| XO.nil <| ?_
    refine XC.then_ret ?_
    refine ⟨_, rfl, ?_⟩
    refine ⟨?_, g⟩
    have hk : isWordL w.data.toList = false := by simpa using hc7
    unfold ofL
    rw [hk]
    rfl
  · skip
    refine XC.then_skip ?_
    refine XC.then_ops ?_
    refine XO.op (o_move rfl) <| XO.op (o_move rfl) <| ?_
    refine XO.ca (len_qu (g.wf w0) w hw) rfl ?_
    rintro v10 H2 ⟨rfl, g1⟩
    replace g := g.tr g1
    refine XO.op (o_move rfl) <| XO.op (o_build rfl rfl) <| ?_
    refine XO.ca (below_qu (g.wf w0) (hr.gr g) hl ⟨lenL w.data.toList, w⟩) rfl ?_
    rintro v13 H3 ⟨rfl, g1⟩
    replace g := g.tr g1
    refine XO.op (o_move rfl) <| XO.nil <| ?_
    refine XC.ret ?_
    refine ⟨_, rfl, ?_⟩
    refine ⟨?_, g⟩
    have hk : isWordL w.data.toList = true := by simpa using hc7
    unfold ofL
    rw [hk]
    rfl
def inShard (l : List Ky) (s : Int) (w : ByteArray) : Bool := decide (0 ≤ ofL l w) && decide (ofL l w = s)
def sliceL (l : List Ky) (ws : List ByteArray) (s : Int) : List ByteArray := ws.filter (inShard l s)
/-- A row of one's own, of texts. -/
abbrev strOw (C : HC) (v : Value) (l : List ByteArray) : Prop := Ow C 9 1 v l.length (l.map Value.string)
abbrev intOw (C : HC) (v : Value) (l : List Int) : Prop := Ow C 3 1 v l.length (l.map (Value.int .i64))
/-- It answers a row of its own, that is new. -/
def newIn (C : HC) (v : Value) : Prop := inS (C.next ≤ ·) v
theorem newIn_nil {C : HC} : newIn C (.slice none 0 0) := fun b hb => by cases hb
theorem slice_rn (w0 : C.wf) {v u : Value} {l : List Ky} {ws : List ByteArray} (hr : keyRow C v l) (hu : strRow C u ws) (hl : l.length < 1000000) (hws : ws.length < 1000000) (hsm : ∀ w ∈ ws, sm w) (s : Int) :
    Rn (cf (n + 7)) 44 [v, u, .int .i64 s] C fun r D => strOw D r (sliceL l ws s) ∧ newIn C r ∧ Gr C D := by
  refine Rn.enter rfl rfl rfl fun H0 hH => ?_
  subst hH
  have g := Chg.refl (S := fun _ => False) H0.c
  have hroom : room = 70368744177664 := rfl
  refine XC.then_ops ?_
  refine XO.op (o_move rfl) <| XO.nil <| ?_
  refine XC.then_ops ?_
  refine XO.op (o_move rfl) <| XO.nil <| ?_
  refine XC.assoc ?_
  refine XC.then_ops ?_
  refine XO.op (o_move rfl) <| XO.op (o_len (hu.gr g) rfl) <| XO.op (o_move rfl) <| XO.nil <| ?_
  refine XC.then_block ?_
  refine XC.lp (σ := Nat × Value) (fun x => [(13, .int .i64 (x.1 : Int)), (7, x.2)]) [(11, u), (12, .int .i64 (ws.length : Int)), (0, v), (2, .int .i64 s)] (fun x G => Gr H0.c G.c ∧ strOw G.c x.2 (sliceL l (ws.take x.1) s) ∧ newIn H0.c x.2 ∧ x.1 ≤ ws.length) (fun x => ws.length - x.1) (0, .slice none 0 0) (Sb.cons rfl (Sb.cons rfl (Sb.cons rfl (Sb.cons rfl (Sb.cons rfl (Sb.cons rfl (Sb.nil _))))))) ⟨g, Ow.nil, newIn_nil, Nat.zero_le _⟩ (by show ws.length - 0 < 9223372036854775808; omega) ?_
  clear g
  rintro ⟨j, a⟩ G ⟨g, ha, hn, hj⟩
  simp only at ha hn hj
  refine XC.then_ops ?_
  refine XO.op (o_lss rfl rfl rfl) <| XO.nil <| ?_
  refine XC.pushIf rfl (fun hc14 => ?_) (fun hc14 => ?_)
  · skip
    have hj2 : j < ws.length := by omega
    have hst : sliceL l (ws.take (j + 1)) s = sliceL l (ws.take j) s ++ (if inShard l s ws[j] then [ws[j]] else []) := by
      unfold sliceL
      rw [List.take_succ_eq_append_getElem hj2, List.filter_append]
      congr 1
      cases hq : inShard l s ws[j] <;> simp [hq]
    have hle : (sliceL l (ws.take j) s).length ≤ j := by unfold sliceL; have := List.length_filter_le (inShard l s) (ws.take j); rw [List.length_take] at this; omega
    refine XC.then_skip ?_
    refine XC.then_block ?_
    refine XC.then_ops ?_
    refine XO.op (o_ix (hu.gr g) rfl rfl hj2) <| XO.op (o_ld (hu.gr g) rfl (by simp only [Option.getD_none]; omega) (by omega) (one_cell hj2)) <| XO.op (o_move rfl) <| XO.nil <| ?_
    refine XC.then_ops ?_
    refine XO.op (o_move rfl) <| XO.op (o_move rfl) <| ?_
    refine XO.ca (of_qu (g.wf w0) (hr.gr g) hl ws[j] (hsm _ (List.getElem_mem _))) rfl ?_
    rintro v19 H1 ⟨rfl, g1⟩
    replace ha := ha.gr g1
    replace g := g.tr g1
    refine XO.op (o_move rfl) <| XO.nil <| ?_
    refine XC.then_ops ?_
    refine XO.op (o_move rfl) <| XO.op (o_geq rfl rfl rfl) <| XO.op (o_move rfl) <| ?_
    apply XO.sca (j := 4) (g := 22) (d := 26) (hg := rfl)
    · intro hg22
      refine XO.gt rfl <| XO.op (o_move rfl) <| XO.gt rfl <| XO.op (o_move rfl) <| XO.gt rfl <| XO.op (o_eq rfl rfl) <| XO.op (o_pick_t rfl rfl) <| XO.nil <| ?_
      exact ⟨rfl, rfl, by repeat (first | exact Sb.refl _ | refine Sb.pt ?_ rfl)⟩
    · intro hg22
      refine XO.pass rfl rfl <| XO.pass rfl rfl <| XO.pass rfl rfl <| XO.op (o_pick_f rfl rfl) <| XO.nil <| ?_
      exact ⟨rfl, rfl, by repeat (first | exact Sb.refl _ | refine Sb.pt ?_ rfl)⟩
    refine XO.nil <| ?_
    refine XC.cond rfl (fun hc26 => ?_) (fun hc26 => ?_)
    · skip
      have hk : inShard l s ws[j] = true := hc26
      refine XC.ops ?_
      refine XO.op (o_move rfl) <| XO.op (o_move rfl) <| ?_
      have lt_ha := ha.rw.lt (g.wf w0)
      refine XO.nws (o_buildSlice rfl rfl) (g.wf w0) ?_
      intro b29 H2 n29 g1 a29
      have m29 := n29
      replace n29 := Nat.le_trans g.next n29
      replace ha := ha.gr g1
      replace g := g.tr g1
      have lt_ha := ha.rw.lt (g.wf w0)
      have lt_a29 := HC.wf.lt (g.wf w0) a29
      refine XO.app (ha) (Rw.fresh (n := 1) rfl (by decide) a29) rfl rfl (by omega) rfl (by omega) (by omega) (g.wf w0) ?_
      intro b30 H3 n30 g1 a30 o30
      have m30 := n30
      replace n30 := Nat.le_trans g.next n30
      replace g := Chg.th g w0 g1 (fun q hq => .inr (hn q hq))
      refine XO.op (o_move rfl) <| XO.nil <| ?_
      refine blk_n ?_
      refine then_n ?_
      refine XC.ops ?_
      refine XO.op (o_add rfl rfl (w64 (by omega) (by omega))) <| XO.op (o_move rfl) <| XO.nil <| ?_
      skip
      first
        | exact ⟨(j + 1, _), by show ws.length - (j + 1) < ws.length - j; omega, Sb.cons rfl (Sb.cons rfl (Sb.cons rfl (Sb.cons rfl (Sb.cons rfl (Sb.cons rfl (Sb.nil _)))))), g, by show strOw _ _ (sliceL l (ws.take (j + 1)) s); rw [hst]; exact ha, hn, hj2⟩
        | exact ⟨(j + 1, _), by show ws.length - (j + 1) < ws.length - j; omega, Sb.cons rfl (Sb.cons rfl (Sb.cons rfl (Sb.cons rfl (Sb.cons rfl (Sb.cons rfl (Sb.nil _)))))), g, by show strOw _ _ (sliceL l (ws.take (j + 1)) s); rw [hst, if_pos hk]; simp only [strOw, List.length_append, List.map_append]; exact o30, fun q hq => by cases hq; exact n30, hj2⟩
    · skip
      have hk : inShard l s ws[j] = false := hc26
      rw [hk] at hst
      simp only [Bool.false_eq_true, if_false, List.append_nil] at hst
      refine XC.skip ?_
      refine blk_n ?_
      refine then_n ?_
      refine XC.ops ?_
      refine XO.op (o_add rfl rfl (w64 (by omega) (by omega))) <| XO.op (o_move rfl) <| XO.nil <| ?_
      skip
      first
        | exact ⟨(j + 1, _), by show ws.length - (j + 1) < ws.length - j; omega, Sb.cons rfl (Sb.cons rfl (Sb.cons rfl (Sb.cons rfl (Sb.cons rfl (Sb.cons rfl (Sb.nil _)))))), g, by show strOw _ _ (sliceL l (ws.take (j + 1)) s); rw [hst]; exact ha, hn, hj2⟩
        | exact ⟨(j + 1, _), by show ws.length - (j + 1) < ws.length - j; omega, Sb.cons rfl (Sb.cons rfl (Sb.cons rfl (Sb.cons rfl (Sb.cons rfl (Sb.cons rfl (Sb.nil _)))))), g, by show strOw _ _ (sliceL l (ws.take (j + 1)) s); rw [hst, if_pos hk]; simp only [strOw, List.length_append, List.map_append]; exact o30, fun q hq => by cases hq; exact n30, hj2⟩
  · skip
    refine XC.then_exit ?_
    refine blk_x rfl ?_
    refine then_n ?_
    refine XC.then_ops ?_
    refine XO.op (o_move rfl) <| XO.op (o_move rfl) <| XO.nil <| ?_
    refine XC.ret ?_
    refine ⟨_, rfl, ?_⟩
    refine ⟨?_, hn, g⟩
    rw [List.take_of_length_le (by omega)] at ha
    exact ha
end
end Go.Proofs.Ytffokmamcempgaa.P
