/- A shard's image (packages pack, place), by our machine's rules. -/
import Derived.Test.YtffokmamcempgaaEnc
import Derived.Test.YtffokmamcempgaaPlace2
namespace Go.Proofs.Ytffokmamcempgaa.P
open Go Go.RowKit Go.Proofs.Ytffokmamcempgaa.AM
set_option linter.unusedVariables false
set_option linter.unusedSimpArgs false
set_option maxRecDepth 100000
/-- What a graph's image asks. -/
structure Packs (ls : List Str) : Prop where
  ok : wordsOk (ls.map bs) = 0
  tot : tot ls ≤ 100000
  runes : RunesOk (buildN ls)
  size : (encB (buildN ls)).length < 1000000
section
variable {n : Nat} {C : HC}
theorem pof_rn (w0 : C.wf) {v : Value} {ls : List Str} (hr : strRow C v (ls.map bs)) (hp : Packs ls) : Rn (cf (n + 100006)) 45 [v] C fun u D => ∃ r, u = .tuple #[r, .int .i64 0] ∧ bOw D r (encB (buildN ls)) ∧ newIn C r ∧ Gr C D := by
  have hB : ∀ {C : HC} (w0 : C.wf) {v : Value} (hr : strRow C v (ls.map bs)), Rn (cf (n + 100005)) 65 [v] C fun u D => ∃ gb, u = .tuple #[.pointer (some ⟨gb, 0, none⟩), .int .i64 0] ∧ Graphs D gb (buildN ls) ∧ Gr C D := @fun C w0 v hr => by
    rw [show n + 100005 = (n + 100000 - tot ls) + (tot ls + 1) + 4 by have := hp.tot; omega]
    exact build_rn w0 hr hp.ok hp.tot
  refine Rn.enter rfl rfl rfl fun H0 hH => ?_
  subst hH
  have g := Chg.refl (S := fun _ => False) H0.c
  refine XC.then_ops ?_
  refine XO.op (o_move rfl) <| XO.op (o_move rfl) <| XO.nil <| ?_
  refine XC.then_ops ?_
  refine XO.op (o_move rfl) <| ?_
  refine XO.ca (hB (g.wf w0) (hr.gr g)) rfl ?_
  rintro v8 H1 ⟨gb, rfl, hK, g1⟩
  have gp := g
  replace g := g.tr g1
  refine XO.op (o_move rfl) <| XO.op (o_extract rfl rfl) <| XO.op (o_extract rfl rfl) <| XO.op (o_move rfl) <| XO.op (o_move rfl) <| XO.nil <| ?_
  refine XC.assoc ?_
  refine XC.then_ops ?_
  refine XO.op (o_move rfl) <| XO.op (o_neq (q := false) rfl rfl rfl) <| XO.nil <| ?_
  refine XC.push_f (rfl) ?_
  refine XC.then_skip ?_
  refine XC.then_ops ?_
  refine XO.op (o_move rfl) <| ?_
  refine XO.ca (encode_rn (g.wf w0) hK hp.runes hp.size) rfl ?_
  rintro v15 H2 ⟨rv, rfl, ho, hon, g1⟩
  have gp := g
  replace g := g.tr g1
  refine XO.op (o_extract rfl rfl) <| XO.op (o_extract rfl rfl) <| XO.op (o_move rfl) <| XO.op (o_move rfl) <| XO.nil <| ?_
  refine XC.ret ?_
  refine ⟨_, rfl, ?_⟩
  exact ⟨rv, rfl, ho, hon.mono fun q hq => Nat.le_trans gp.next hq, g⟩
/-- A shard's words. -/
def shardL (c : Cf) (s : Int) : List Str := (sliceL c.ks c.ws s).map (·.data.toList)
theorem image_rn (w0 : C.wf) {c : Cf} (hc : CfAt C c) {s : Int} (hs : 0 ≤ s ∧ s < shardsN c) (hp : Packs (shardL c s)) : Rn (cf (n + 100007)) 13 [c.v, .int .i64 s] C fun u D => ∃ r, u = .tuple #[r, .int .i64 0] ∧ bOw D r (encB (buildN (shardL c s))) ∧ newIn C r ∧ Gr C D := by
  have hsl := shardsN_le c
  refine Rn.enter rfl rfl rfl fun H0 hH => ?_
  subst hH
  have g := Chg.refl (S := fun _ => False) H0.c
  refine XC.then_ops ?_
  refine XO.nwp (o_box rfl) (g.wf w0) ?_
  intro b2 H1 n2 g1 a2
  have m2 := n2
  replace n2 := Nat.le_trans g.next n2
  replace g := g.tr g1
  refine XO.op (o_move rfl) <| XO.op (o_move rfl) <| XO.nil <| ?_
  refine XC.assoc ?_
  refine XC.then_ops ?_
  refine XO.op (o_move rfl) <| XO.op (o_get (v := c.v) rfl a2 rfl) <| ?_
  refine XO.ca (shards_qu (g.wf w0) (hc.gr g)) rfl ?_
  rintro v8 H2 ⟨rfl, g1⟩
  replace a2 := Gr.at g1 a2
  replace g := g.tr g1
  refine XO.op (o_sub rfl rfl (w64 (by omega) (by omega))) <| XO.pu (within_pu _ _ _) rfl <| XO.op (o_not rfl) <| XO.nil <| ?_
  refine XC.push_f ((by rw [inB_iff.2 ⟨hs.1, by omega⟩]; rfl)) ?_
  refine XC.then_skip ?_
  refine XC.then_ops ?_
  refine XO.op (o_get (v := c.v) rfl a2 rfl) <| XO.op (o_move rfl) <| ?_
  refine XO.ca (words_rn (g.wf w0) (hc.gr g) s) rfl ?_
  rintro v14 H3 ⟨hw, hwn, g1⟩
  have gp := g
  replace a2 := Gr.at g1 a2
  replace g := g.tr g1
  refine XO.ca (pof_rn (n := n) (ls := shardL c s) (g.wf w0) (by rw [shardL, wl_map]; exact hw.rw) hp) rfl ?_
  rintro v15 H4 ⟨rv, rfl, ho, hon, g1⟩
  have gp := g
  replace a2 := Gr.at g1 a2
  replace g := g.tr g1
  refine XO.op (o_extract rfl rfl) <| XO.op (o_extract rfl rfl) <| XO.op (o_move rfl) <| XO.op (o_move rfl) <| XO.nil <| ?_
  refine XC.ret ?_
  refine ⟨_, rfl, ?_⟩
  exact ⟨rv, rfl, ho, hon.mono fun q hq => Nat.le_trans gp.next hq, g⟩
theorem image_no (w0 : C.wf) {c : Cf} (hc : CfAt C c) {s : Int} (hs : ¬ (0 ≤ s ∧ s < shardsN c)) : Rn (cf (n + 100007)) 13 [c.v, .int .i64 s] C fun u D => u = .tuple #[.slice none 0 0, .int .i64 4] ∧ Gr C D := by
  have hsl := shardsN_le c
  refine Rn.enter rfl rfl rfl fun H0 hH => ?_
  subst hH
  have g := Chg.refl (S := fun _ => False) H0.c
  refine XC.then_ops ?_
  refine XO.nwp (o_box rfl) (g.wf w0) ?_
  intro b2 H1 n2 g1 a2
  have m2 := n2
  replace n2 := Nat.le_trans g.next n2
  replace g := g.tr g1
  refine XO.op (o_move rfl) <| XO.op (o_move rfl) <| XO.nil <| ?_
  refine XC.assoc ?_
  refine XC.then_ops ?_
  refine XO.op (o_move rfl) <| XO.op (o_get (v := c.v) rfl a2 rfl) <| ?_
  refine XO.ca (shards_qu (g.wf w0) (hc.gr g)) rfl ?_
  rintro v8 H2 ⟨rfl, g1⟩
  replace a2 := Gr.at g1 a2
  replace g := g.tr g1
  refine XO.op (o_sub rfl rfl (w64 (by omega) (by omega))) <| XO.pu (within_pu _ _ _) rfl <| XO.op (o_not rfl) <| XO.nil <| ?_
  refine XC.push_t ((by rw [show inB s 0 ((shardsN c : Int) - 1) = false from Bool.eq_false_iff.2 fun q => by have := inB_iff.1 q; omega]; rfl)) ?_
  refine XC.assoc ?_
  refine XC.then_ops ?_
  refine XO.op (o_move rfl) <| XO.op (o_move rfl) <| XO.nil <| ?_
  refine XC.then_ret ?_
  refine ⟨_, rfl, ?_⟩
  exact ⟨rfl, g⟩
end
end Go.Proofs.Ytffokmamcempgaa.P
