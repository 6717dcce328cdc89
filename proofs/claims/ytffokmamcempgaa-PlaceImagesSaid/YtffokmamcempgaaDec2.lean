/- Images read back (package pack), by our machine's rules. -/
import Derived.Test.YtffokmamcempgaaDec
import Derived.Test.YtffokmamcempgaaMade2
namespace Go.Proofs.Ytffokmamcempgaa.P
open Go Go.RowKit Go.Proofs.Ytffokmamcempgaa.AM
set_option linter.unusedVariables false
set_option linter.unusedSimpArgs false
set_option maxRecDepth 100000
theorem bytesOf_cells : ∀ l : Str, bytesOf (byteCells l) = some l
  | [] => rfl
  | x :: l => by
    have ih := bytesOf_cells l
    unfold byteCells at ih ⊢
    rw [List.map_cons, bytesOf, ih]
    simp
theorem o_str {cf : CallF} {P : Program} {L : Lv} {H : Heap} {x : Arg} {v : Value} {l : Str} (hr : bRow H.c v l) (hx : av L x = some v) : AM.Op P cf L H (.str x) (sv l) H := fun T hT => by
  rcases hr with ⟨rfl, h1, h2⟩ | ⟨b, off, cap, own, all, rfl, h0, hg, h3⟩
  · have hl : l = [] := List.eq_nil_of_length_eq_zero (by simpa [byteCells] using congrArg List.length h2)
    subst hl
    simp only [opRun, hT.ev hx]
    rfl
  · have hg' : H.get b = some (.cells own 5 all) := hg
    rw [Nat.mul_one] at h3
    simp only [opRun, hT.ev hx, oStr, hg', h3, Option.bind_some, bytesOf_cells, Option.map_some]
    rfl
section
variable {P : Program} {cf : CallF} {l : List AOper} {L : Lv} {H : Heap} {Q : Lv → Heap → Prop} {d : Option Nat} {fp : Bool} {v : Value} {x : Arg}
theorem XO.cutB {bl : Str} {k : Nat} {κ : IntKind} {a : Arg} (hr : bRow H.c v bl) (hx : av L x = some v) (ha : av L a = some (.int κ (k : Int))) (hle : k ≤ bl.length)
    (hk : ∀ v', bRow H.c v' (bl.take k) → (∀ q, blockOf v' = some q → blockOf v = some q) → XO P cf l (putL L d v') H Q) : XO P cf (⟨d, none, fp, .cut 5 1 x none (some a) none⟩ :: l) L H Q := by
  refine XO.cut (lo := none) (hi := some k) hr hx rfl (by simp only [avN, ha, Option.bind_some]; rfl) (Nat.zero_le _) hle fun v' h1 h2 => hk v' ?_ h2
  simp only [Option.getD_some, Option.getD_none, Nat.mul_one, Nat.sub_zero, Nat.zero_mul, List.drop_zero] at h1
  have e : (bl.take k).length = k := by rw [List.length_take]; omega
  unfold bRow
  rw [e]
  simpa [byteCells, List.map_take] using h1
end
section
variable {n : Nat} {C : HC}
theorem decode_bad {v : Value} {b : Str} (w0 : C.wf) (hb : bRow C v b) (hl : b.length < 1000000) (h4 : 4 ≤ b.length) (hne : numL (b.drop (b.length - 4)) ≠ sumL (b.take (b.length - 4))) : Qu (cf (n + 5)) 39 [v] C (.tuple #[.pointer none, .int .i64 9]) := by
  have hs := sumL_lt (b.take (b.length - 4))
  have hnl := numL_lt (b.drop (b.length - 4))
  have hdl : (b.drop (b.length - 4)).length = 4 := by rw [List.length_drop]; omega
  have hd4 : ((b.drop (b.length - 4)).take 4) = b.drop (b.length - 4) := List.take_of_length_le (by omega)
  rw [hdl] at hnl
  refine Rn.enter rfl rfl rfl fun H0 hH => ?_
  subst hH
  have g := Chg.refl (S := fun _ => False) H0.c
  have hroom : room = 70368744177664 := rfl
  refine XC.then_ops ?_
  refine XO.op (o_move rfl) <| XO.op (o_move rfl) <| XO.nil <| ?_
  refine XC.then_ops ?_
  refine XO.op (o_move rfl) <| XO.op (o_len (hb.gr g) rfl) <| XO.op (o_sub (r := ((b.length - 4 : Nat) : Int)) rfl rfl (by rw [w64 (by omega) (by omega)]; omega)) <| XO.op (o_move rfl) <| XO.nil <| ?_
  refine XC.assoc ?_
  refine XC.then_ops ?_
  refine XO.op (o_move rfl) <| XO.op (o_lss (q := false) rfl rfl (decide_eq_false (by omega))) <| XO.nil <| ?_
  refine XC.push_f (rfl) ?_
  refine XC.then_skip ?_
  refine XC.assoc ?_
  refine XC.then_ops ?_
  refine XO.op (o_move rfl) <| XO.op (o_move rfl) <| XO.pu (num_pu (n := n + 3) (hb.gr g) hl (at_ := b.length - 4) (s := 4) (by decide) (by decide) (by omega)) rfl <| XO.op (o_move rfl) <| XO.op (o_extract rfl rfl) <| XO.op (o_extract rfl rfl) <| XO.op (o_move rfl) <| XO.op (o_move rfl) <| XO.nil <| ?_
  refine XC.assoc ?_
  refine XC.then_ops ?_
  refine XO.op (o_move rfl) <| XO.op (o_convI (r := (numL (b.drop (b.length - 4)) : Int)) rfl (by rw [hd4]; simp [IntKind.wrap, IntKind.bits, IntKind.signed]; omega)) <| XO.op (o_move rfl) <| XO.op (o_move rfl) <| ?_
  refine XO.cutB (k := b.length - 4) (hb.gr g) rfl rfl (by omega) ?_
  intro v25 r25 b25
  refine XO.pu (sum_pu (n := n + 1) r25 (by rw [List.length_take]; omega)) rfl <| XO.op (o_neq (q := true) rfl rfl (by rw [bne_iff_ne]; omega)) <| XO.nil <| ?_
  refine XC.push_t (rfl) ?_
  refine XC.assoc ?_
  refine XC.then_ops ?_
  refine XO.op (o_move rfl) <| XO.op (o_move rfl) <| XO.nil <| ?_
  refine XC.then_ret ?_
  refine ⟨_, rfl, ?_⟩
  exact ⟨rfl, g⟩
theorem head_ne : oBin Try.prog .neq 9 true (sv head) (.string ⟨#[73, 78, 75, 49]⟩) = some (.bool false) := by kernel_rfl
theorem encB_len (nds : List Nd) : (encB nds).length = (bodyB nds).length + 4 := by simp [encB, numB_len]
theorem bodyB_len (nds : List Nd) : (bodyB nds).length = 6 + (nds.flatMap ndB).length := by simp only [bodyB, List.length_append, numB_len]; rfl
theorem rows_snoc {nvs : List (Bool × Value)} {nds : List Nd} {i : Nat} {ev : Value} (hnl : nvs.length = i) (hi : i < nds.length) (h : ∀ (j : Nat) (h : j < nvs.length) (h2 : j < nds.length), nvs[j].1 = nds[j].fin ∧ edRow C nvs[j].2 nds[j].es) (he : edRow C ev nds[i].es) :
    ∀ (j : Nat) (h : j < (nvs ++ [(nds[i].fin, ev)]).length) (h2 : j < nds.length), (nvs ++ [(nds[i].fin, ev)])[j].1 = nds[j].fin ∧ edRow C (nvs ++ [(nds[i].fin, ev)])[j].2 nds[j].es := fun j hj h2 => by
  subst hnl
  by_cases hk : j < nvs.length
  · rw [List.getElem_append_left hk]
    exact h j hk h2
  · have hj2 : j = nvs.length := by simp at hj; omega
    subst hj2
    rw [List.getElem_append_right (Nat.le_refl _)]
    simp only [Nat.sub_self, List.getElem_cons_zero]
    exact ⟨trivial, he⟩
theorem decode_rn {v : Value} {ls : List Str} {rk : Nat → Nat} {f : Nat} (w0 : C.wf) (hs : Sound ls rk f) (hr : RunesOk (buildN ls)) (hb : bRow C v (encB (buildN ls))) (hl : (encB (buildN ls)).length < 1000000) (hsm : ∀ nd ∈ buildN ls, nd.es.length < 65536) :
    Rn (cf (n + 100051)) 39 [v] C fun u D => ∃ gb, u = .tuple #[.pointer (some ⟨gb, 0, none⟩), .int .i64 0] ∧ Graphs D gb (buildN ls) ∧ Gr C D := by
  have hM : ∀ {C : HC} (w0 : C.wf) {v : Value} {nvs : List (Bool × Value)} (hn : Rw C 97 2 v (buildN ls).length (nvs.map ndCs).flatten) (hl : nvs.length = (buildN ls).length)
    (he : ∀ (i : Nat) (h : i < nvs.length) (h2 : i < (buildN ls).length), nvs[i].1 = (buildN ls)[i].fin ∧ edRow C nvs[i].2 (buildN ls)[i].es), Rn (cf (n + 100050)) 60 [v] C fun u D => ∃ gb, u = .pointer (some ⟨gb, 0, none⟩) ∧ Graphs D gb (buildN ls) ∧ Gr C D := @fun C w0 v nvs hn hl he => made_rn w0 hs hn hl he fun nd h => by have := hsm nd h; omega
  have hto := hs.to1
  have hlen := hs.len
  have hpos := hs.pos
  generalize hN : buildN ls = nds at *
  have hel := encB_len nds
  have hbl := bodyB_len nds
  have htk : (encB nds).take (bodyB nds).length = bodyB nds := by rw [encB, List.take_left]
  have hdr : (encB nds).drop (bodyB nds).length = numB (sumL (bodyB nds) : Int) 4 := by rw [encB, List.drop_left]
  have hsl := sumL_lt (bodyB nds)
  have hnum : numL (((encB nds).drop (bodyB nds).length).take 4) = sumL (bodyB nds) := by
    rw [hdr, List.take_of_length_le (by rw [numB_len]; exact Nat.le_refl _)]
    exact numB_num (by omega) (by decide)
  have hcnt : numL (((bodyB nds).drop 4).take 2) = nds.length := by
    have h := @numB_take (nds.length : Int) 2 head (nds.flatMap ndB)
    rw [show head ++ numB (nds.length : Int) 2 ++ nds.flatMap ndB = bodyB nds from rfl, show head.length = 4 from rfl] at h
    rw [h]
    exact numB_num (by omega) (by decide)
  refine Rn.enter rfl rfl rfl fun H0 hH => ?_
  subst hH
  have g := Chg.refl (S := fun _ => False) H0.c
  have hroom : room = 70368744177664 := rfl
  refine XC.then_ops ?_
  refine XO.op (o_move rfl) <| XO.op (o_move rfl) <| XO.nil <| ?_
  refine XC.then_ops ?_
  refine XO.op (o_move rfl) <| XO.op (o_len (hb.gr g) rfl) <| XO.op (o_sub (r := ((bodyB nds).length : Int)) rfl rfl (by rw [w64 (by omega) (by omega)]; omega)) <| XO.op (o_move rfl) <| XO.nil <| ?_
  refine XC.assoc ?_
  refine XC.then_ops ?_
  refine XO.op (o_move rfl) <| XO.op (o_lss (q := false) rfl rfl (decide_eq_false (by omega))) <| XO.nil <| ?_
  refine XC.push_f (rfl) ?_
  refine XC.then_skip ?_
  refine XC.assoc ?_
  refine XC.then_ops ?_
  refine XO.op (o_move rfl) <| XO.op (o_move rfl) <| XO.pu (num_pu (hb.gr g) hl (at_ := (bodyB nds).length) (s := 4) (by decide) (by decide) (by omega)) rfl <| XO.op (o_move rfl) <| XO.op (o_extract rfl rfl) <| XO.op (o_extract rfl rfl) <| XO.op (o_move rfl) <| XO.op (o_move rfl) <| XO.nil <| ?_
  refine XC.assoc ?_
  refine XC.then_ops ?_
  refine XO.op (o_move rfl) <| XO.op (o_convI (r := (sumL (bodyB nds) : Int)) rfl (by rw [hnum]; simp [IntKind.wrap, IntKind.bits, IntKind.signed]; omega)) <| XO.op (o_move rfl) <| XO.op (o_move rfl) <| ?_
  refine XO.cutB (k := (bodyB nds).length) (hb.gr g) rfl rfl (by omega) ?_
  intro v25 r25 b25
  rw [htk] at r25
  refine XO.pu (sum_pu r25 (by omega)) rfl <| XO.op (o_neq (q := false) rfl rfl (by simp)) <| XO.nil <| ?_
  refine XC.push_f (rfl) ?_
  refine XC.then_skip ?_
  refine XC.assoc ?_
  refine XC.then_ops ?_
  refine XO.op (o_move rfl) <| XO.op (o_lss (q := false) rfl rfl (decide_eq_false (by omega))) <| XO.op (o_move rfl) <| ?_
  apply XO.sco (j := 5) (g := 30) (d := 35) (hg := rfl)
  · intro hg30
    refine XO.gt rfl <| XO.op (o_move rfl) <| XO.gt rfl <| ?_
    refine XO.cutB (k := 4) (hb.gr g) rfl rfl (by omega) ?_
    intro v32 r32 b32
    rw [show (encB nds).take 4 = head from rfl] at r32
    refine XO.gt rfl <| XO.op (o_str r32 rfl) <| XO.gt rfl <| XO.op (o_bin rfl rfl head_ne) <| XO.op (o_pick_f rfl rfl) <| XO.nil <| ?_
    exact ⟨rfl, rfl, by repeat (first | exact Sb.refl _ | refine Sb.pt ?_ rfl)⟩
  · intro hg30
    refine XO.pass rfl rfl <| XO.pass rfl rfl <| XO.pass rfl rfl <| XO.pass rfl rfl <| XO.op (o_pick_t rfl rfl) <| XO.nil <| ?_
    exact ⟨rfl, rfl, by repeat (first | exact Sb.refl _ | refine Sb.pt ?_ rfl)⟩
  refine XO.nil <| ?_
  refine XC.push_f (rfl) ?_
  refine XC.then_skip ?_
  refine XC.then_ops ?_
  refine XO.op (o_move rfl) <| XO.op (o_move rfl) <| ?_
  refine XO.cutB (k := (bodyB nds).length) (hb.gr g) rfl rfl (by omega) ?_
  intro v38 r38 b38
  rw [htk] at r38
  obtain ⟨p38, q38, h38⟩ := r38.sl
  refine XO.op (o_build (cs := rdCs v38 4) rfl (by show fillV [Value.slice none 0 0, .int .i64 0, .bool false] [(0, 1, v38), (1, 1, .int .i64 4)] = some [v38, .int .i64 4, .bool false]; rw [h38]; rfl)) <| ?_
  refine XO.nwp (o_box rfl) (g.wf w0) ?_
  intro b40 H1 n40 g1 a40
  have m40 := n40
  replace n40 := Nat.le_trans g.next n40
  replace g := g.tr g1
  refine XO.op (o_move rfl) <| XO.nil <| ?_
  refine XC.then_ops ?_
  refine XO.op (o_move rfl) <| XO.nil <| ?_
  refine XC.assoc ?_
  refine XC.then_ops ?_
  refine XO.op (o_move rfl) <| ?_
  refine XO.ca ((rnum_uc (r38.gr g) (by omega) (p := 4) (s := 2) a40 (by decide) (by decide) (by omega)).rn a40) rfl ?_
  rintro v42 H2 ⟨rfl, g2, hr1⟩
  replace g := Chg.th g w0 g2 (fun q hq => .inr (hq ▸ n40))
  replace a40 := hr1
  refine XO.op (o_move rfl) <| XO.nil <| ?_
  refine XC.then_block ?_
  refine XC.lp (σ := Nat × Value × List (Bool × Value)) (fun z => [(8, z.2.1), (43, .int .i64 (z.1 : Int))]) [(7, .pointer (some ⟨b40, 0, none⟩)), (42, .int .i64 (nds.length : Int)), (4, .int .i64 ((bodyB nds).length : Int))] (fun z G => Gr H0.c G.c ∧ G.c.get b40 = some (.cells true 92 (rdCs v38 (6 + ((nds.take z.1).flatMap ndB).length))) ∧ Ow G.c 97 2 z.2.1 z.1 (z.2.2.map ndCs).flatten ∧ z.2.2.length = z.1 ∧ (∀ (j : Nat) (h : j < z.2.2.length) (h2 : j < nds.length), z.2.2[j].1 = nds[j].fin ∧ edRow G.c z.2.2[j].2 nds[j].es) ∧ newIn H0.c z.2.1 ∧ z.1 ≤ nds.length) (fun z => nds.length - z.1) (0, .slice none 0 0, []) (Sb.cons rfl (Sb.cons rfl (Sb.cons rfl (Sb.cons (by show some (Value.int IntKind.i64 (numL (((bodyB nds).drop 4).take 2) : Int)) = _; rw [hcnt]) (Sb.cons rfl (Sb.nil _)))))) ⟨g, a40, Ow.nil, rfl, fun j h => absurd h (Nat.not_lt_zero _), inS_nil, Nat.zero_le _⟩ (by show nds.length - 0 < 9223372036854775808; omega) ?_
  clear g a40 hr1
  rintro ⟨i, lv, nvs⟩ G ⟨g, a40, ho, hnl, hej, hon, hil⟩
  simp only at a40 ho hnl hej hon hil
  refine XC.then_ops ?_
  refine XO.op (o_lss rfl rfl rfl) <| XO.nil <| ?_
  refine XC.pushIf rfl (fun hc44 => ?_) (fun hc44 => ?_)
  · skip
    have hi : i < nds.length := by omega
    have hpl : (head ++ numB (nds.length : Int) 2 ++ (nds.take i).flatMap ndB).length = 6 + ((nds.take i).flatMap ndB).length := by simp only [List.length_append, numB_len]; rfl
    have hst : (nds.take (i + 1)).flatMap ndB = (nds.take i).flatMap ndB ++ ndB nds[i] := by rw [List.take_succ_eq_append_getElem hi, List.flatMap_append]; simp
    have hbe : bodyB nds = (head ++ numB (nds.length : Int) 2 ++ (nds.take i).flatMap ndB) ++ ndB nds[i] ++ (nds.drop (i + 1)).flatMap ndB := by
      conv => lhs; rw [bodyB, ← List.take_append_drop (i + 1) nds, List.flatMap_append, hst, List.take_append_drop]
      simp only [List.append_assoc]
    rw [← hpl] at a40
    have hno := ho.rw.ne a40 (fun own ds e => by cases e)
    have hnd := List.getElem_mem hi
    refine XC.then_skip ?_
    refine XC.then_block ?_
    refine XC.assoc ?_
    refine XC.then_ops ?_
    refine XO.op (o_move rfl) <| XO.op (o_nilCheck rfl) <| XO.op (o_fieldAddr rfl) <| XO.op (o_get rfl a40 rfl) <| XO.nil <| ?_
    refine XC.push_f (rfl) ?_
    refine XC.then_skip ?_
    refine XC.ops ?_
    refine XO.op (o_move rfl) <| XO.op (o_move rfl) <| ?_
    refine XO.ca (rnode_rn (g.wf w0) (r38.gr g) (by omega) hbe a40 (hsm _ hnd) (fun e he => ⟨(hr _ hnd e he).1, (hr _ hnd e he).2, by have := (hto _ hnd e he).2; omega⟩)) rfl ?_
    rintro v51 H3 ⟨ev, rfl, he, hen, hr1, g2⟩
    have hej2 : ∀ (j : Nat) (h : j < nvs.length) (h2 : j < nds.length), nvs[j].1 = nds[j].fin ∧ edRow H3.c nvs[j].2 nds[j].es := fun j h h2 => ⟨(hej j h h2).1, (hej j h h2).2.chg g2 ((hej j h h2).2.ne a40 (fun own ds e => by cases e))⟩
    replace ho := ho.chg g2 hno
    replace g := Chg.th g w0 g2 (fun q hq => .inr (hq ▸ n40))
    replace a40 := hr1
    rw [hpl, Nat.add_assoc, ← List.length_append, ← hst] at a40
    obtain ⟨ep, eq, hev⟩ := he.rw.sl
    have hsc : (ndCs (nds[i].fin, ev)).all scalar = true := by
      show ([Value.bool nds[i].fin, ev]).all scalar = true
      rw [hev]
      rfl
    have her := he.rw
    have lt_a40 := HC.wf.lt (g.wf w0) a40
    have lt_ho := ho.rw.lt (g.wf w0)
    refine XO.nws (o_buildSlice rfl rfl) (g.wf w0) ?_
    intro b52 H4 n52 g1 a52
    have m52 := n52
    replace n52 := Nat.le_trans g.next n52
    replace a40 := Gr.at g1 a40
    replace ho := ho.gr g1
    replace g := g.tr g1
    have hne40 := ho.rw.ne a40 (fun own ds e => by cases e)
    have hall : ∀ (j : Nat) (h : j < nvs.length) (h2 : j < nds.length), nvs[j].1 = nds[j].fin ∧ edRow H4.c nvs[j].2 nds[j].es := fun j h h2 => ⟨(hej2 j h h2).1, by have := (hej2 j h h2).2.gr g1; exact this⟩
    have hnee : inS (fun q => ¬ blockOf lv = some q) ev := fun q hq hq2 => by
      obtain ⟨own, ds, hd⟩ := ho.rw.blk hq2
      exact (her.gr g1).ne hd (fun own ds e => by cases e) q hq rfl
    have hneall : ∀ (j : Nat) (h : j < nvs.length) (h2 : j < nds.length), inS (fun q => ¬ blockOf lv = some q) nvs[j].2 := fun j h h2 q hq hq2 => by
      obtain ⟨own, ds, hd⟩ := ho.rw.blk hq2
      exact (hall j h h2).2.ne hd (fun own ds e => by cases e) q hq rfl
    refine XO.app ho (Rw.fresh (n := 1) rfl (by decide) a52) rfl rfl (by omega) hsc (by omega) (by omega) (g.wf w0) ?_
    intro b53 H17 n53 g3 a53 o53
    replace n53 := Nat.le_trans g.next n53
    replace a40 := g3.at a40 (fun q => hne40 _ q rfl)
    have heq : edRow H17.c ev nds[i].es := (her.gr g1).chg g3 hnee
    have hall2 : ∀ (j : Nat) (h : j < nvs.length) (h2 : j < nds.length), nvs[j].1 = nds[j].fin ∧ edRow H17.c nvs[j].2 nds[j].es := fun j h h2 => ⟨(hall j h h2).1, (hall j h h2).2.chg g3 (hneall j h h2)⟩
    replace g := Chg.th g w0 g3 (fun q hq => .inr (hon q hq))
    have o9 : Ow H17.c 97 2 (.slice (some ⟨b53, 0, none⟩) (i + 1) U) (i + 1) ((nvs ++ [(nds[i].fin, ev)]).map ndCs).flatten := by
      rw [List.map_append, List.flatten_append, List.map_cons, List.map_nil, List.flatten_cons, List.flatten_nil, List.append_nil]
      exact o53
    clear o53 a53 ho
    refine XO.op (o_move rfl) <| XO.nil <| ?_
    refine blk_n ?_
    refine then_n ?_
    refine XC.ops ?_
    refine XO.op (o_add rfl rfl (w64 (by omega) (by omega))) <| XO.op (o_move rfl) <| XO.nil <| ?_
    exact ⟨(i + 1, _, nvs ++ [(nds[i].fin, ev)]), by show nds.length - (i + 1) < nds.length - i; omega, Sb.cons rfl (Sb.cons rfl (Sb.cons rfl (Sb.cons rfl (Sb.cons rfl (Sb.nil _))))), g, a40, o9, by simp [hnl], rows_snoc hnl hi hall2 heq, inS_at n53, hi⟩
  · skip
    have hil2 : i = nds.length := by omega
    rw [hil2, List.take_length] at a40
    rw [hil2] at ho
    refine XC.then_exit ?_
    refine blk_x rfl ?_
    refine then_n ?_
    refine XC.assoc ?_
    refine XC.then_ops ?_
    refine XO.op (o_move rfl) <| XO.op (o_nilCheck rfl) <| XO.op (o_fieldAddr rfl) <| XO.op (o_get rfl a40 rfl) <| XO.op (o_move rfl) <| ?_
    apply XO.sco (j := 7) (g := 59) (d := 66) (hg := rfl)
    · intro hg59
      refine XO.gt rfl <| XO.op (o_move rfl) <| XO.gt rfl <| XO.op (o_nilCheck rfl) <| XO.gt rfl <| XO.op (o_fieldAddr rfl) <| XO.gt rfl <| XO.op (o_get rfl a40 rfl) <| XO.gt rfl <| XO.op (o_move rfl) <| XO.gt rfl <| XO.op (o_neq (q := false) rfl rfl (by rw [hbl]; simp)) <| XO.op (o_pick_f rfl rfl) <| XO.nil <| ?_
      exact ⟨rfl, rfl, by repeat (first | exact Sb.refl _ | refine Sb.pt ?_ rfl)⟩
    · intro hg59
      refine XO.pass rfl rfl <| XO.pass rfl rfl <| XO.pass rfl rfl <| XO.pass rfl rfl <| XO.pass rfl rfl <| XO.pass rfl rfl <| XO.op (o_pick_t rfl rfl) <| XO.nil <| ?_
      exact ⟨rfl, rfl, by repeat (first | exact Sb.refl _ | refine Sb.pt ?_ rfl)⟩
    refine XO.nil <| ?_
    refine XC.push_f (rfl) ?_
    refine XC.then_skip ?_
    refine XC.then_ops ?_
    refine XO.op (o_move rfl) <| ?_
    refine XO.ca (hM (g.wf w0) ho.rw (by omega) hej) rfl ?_
    rintro v68 H5 ⟨gb, rfl, hG, g1⟩
    have gp := g
    replace a40 := Gr.at g1 a40
    replace ho := ho.gr g1
    replace g := g.tr g1
    refine XO.op (o_move rfl) <| XO.nil <| ?_
    refine XC.assoc ?_
    refine XC.then_ops ?_
    refine XO.op (o_move rfl) <| XO.op (o_eqNil rfl rfl rfl) <| XO.nil <| ?_
    refine XC.push_f (rfl) ?_
    refine XC.then_skip ?_
    refine XC.then_ops ?_
    refine XO.op (o_move rfl) <| XO.op (o_move rfl) <| XO.op (o_move rfl) <| XO.nil <| ?_
    refine XC.ret ?_
    refine ⟨_, rfl, ?_⟩
    exact ⟨gb, rfl, hG, g⟩
end
end Go.Proofs.Ytffokmamcempgaa.P