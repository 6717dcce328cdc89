/- Numbers in bytes (package code), and the check sum (package sum), by our machine's rules. -/
import Derived.Test.YtffokmamcempgaaText
import Derived.Test.YtffokmamcempgaaPart
import Derived.Test.YtffokmamcempgaaAMZ
namespace Go.Proofs.Ytffokmamcempgaa.P
open Go Go.RowKit Go.Proofs.Ytffokmamcempgaa.AM
set_option linter.unusedVariables false
set_option linter.unusedSimpArgs false
set_option maxRecDepth 100000
abbrev bRow (C : HC) (v : Value) (l : Str) : Prop := Rw C 5 1 v l.length (byteCells l)
abbrev bOw (C : HC) (v : Value) (l : Str) : Prop := Ow C 5 1 v l.length (byteCells l)
theorem bytes_scalar (l : Str) : (byteCells l).all scalar = true := by
  rw [List.all_eq_true]
  intro v hv
  obtain ⟨b, _, rfl⟩ := List.mem_map.1 hv
  rfl
theorem byteCells_append (a b : Str) : byteCells (a ++ b) = byteCells a ++ byteCells b := by simp [byteCells]
section
variable {n : Nat} {C : HC}
theorem clone_rn (w0 : C.wf) {v : Value} {l : Str} (hr : bRow C v l) (hl : l.length < 1000000000) : Rn (cf (n + 1)) 54 [v] C fun r D => bOw D r l ∧ newIn C r ∧ Gr C D := by
  rcases hr with ⟨rfl, hn, hc⟩ | ⟨b, off, cap, own, all, rfl, h0, hg, hcut⟩
  · skip
    refine Rn.enter rfl rfl rfl fun H0 hH => ?_
    subst hH
    have g := Chg.refl (S := fun _ => False) H0.c
    have hroom : room = 70368744177664 := rfl
    refine XC.then_ops ?_
    refine XO.op (o_move rfl) <| XO.nil <| ?_
    refine XC.assoc ?_
    refine XC.then_ops ?_
    refine XO.op (o_move rfl) <| XO.op (o_eqNil rfl rfl rfl) <| XO.nil <| ?_
    refine XC.push_t (rfl) ?_
    refine XC.assoc ?_
    refine XC.then_ops ?_
    refine XO.op (o_move rfl) <| XO.nil <| ?_
    refine XC.then_ret ?_
    refine ⟨_, rfl, ?_⟩
    exact ⟨.inl ⟨rfl, hn, hc⟩, inS_nil, g⟩
  · have hr : bRow C (.slice (some ⟨b, off, none⟩) l.length cap) l := .inr ⟨b, off, cap, own, all, rfl, h0, hg, hcut⟩
    refine Rn.enter rfl rfl rfl fun H0 hH => ?_
    subst hH
    have g := Chg.refl (S := fun _ => False) H0.c
    have hroom : room = 70368744177664 := rfl
    refine XC.then_ops ?_
    refine XO.op (o_move rfl) <| XO.nil <| ?_
    refine XC.assoc ?_
    refine XC.then_ops ?_
    refine XO.op (o_move rfl) <| XO.op (o_eqNil rfl rfl rfl) <| XO.nil <| ?_
    refine XC.push_f (rfl) ?_
    refine XC.then_skip ?_
    refine XC.then_ops ?_
    refine XO.nws (o_buildSlice rfl rfl) (g.wf w0) ?_
    intro b5 H1 n5 g1 a5
    have m5 := n5
    replace n5 := Nat.le_trans g.next n5
    replace g := g.tr g1
    refine XO.op (o_move rfl) <| ?_
    refine XO.appR (Ow.mk0 a5) (hr.gr g) rfl rfl (bytes_scalar l) (by omega) (by omega) (g.wf w0) ?_
    intro v7 H2 o7 hb g2
    replace g := Chg.th g w0 g2 (fun q hq => .inr (by cases hq; exact n5))
    refine XO.op (o_move rfl) <| XO.nil <| ?_
    refine XC.ret ?_
    refine ⟨_, rfl, ?_⟩
    refine ⟨?_, ?_, g⟩
    · rw [Nat.zero_add] at o7
      exact o7
    · intro q hq
      rcases hb q hq with h | h
      · have := m5
        have := lt_new a5 (g1.wf w0)
        exact Nat.le_trans (Nat.le_trans n5 (Nat.le_of_lt this)) h
      · cases h; exact n5
/-- The bytes of a number. -/
def numB (x : Int) (s : Nat) : Str := (List.range s).map fun i => UInt8.ofNat ((IntKind.u64.wrap x).toNat / 2 ^ (8 * (s - 1 - i)))
theorem numB_len (x : Int) (s : Nat) : (numB x s).length = s := by simp [numB]
theorem u8_wrap (m : Nat) : IntKind.u8.wrap (m : Int) = ((UInt8.ofNat m).toNat : Int) := by
  rw [UInt8.toNat_ofNat']
  simp [IntKind.wrap, IntKind.bits, IntKind.signed]
theorem u64_nat (x : Int) : IntKind.u64.wrap x = ((IntKind.u64.wrap x).toNat : Int) := by have := u64_pos x; omega
theorem put_rn (w0 : C.wf) {v : Value} {l : Str} (hr : bRow C v l) (hl : l.length < 1000000) (x : Int) {s : Nat} (hs : s ≤ 8) : Rn (cf (n + 2)) 85 [v, .int .i64 x, .int .i64 (s : Int)] C fun r D => bOw D r (l ++ numB x s) ∧ newIn C r ∧ Gr C D := by
  refine Rn.enter rfl rfl rfl fun H0 hH => ?_
  subst hH
  have g := Chg.refl (S := fun _ => False) H0.c
  have hroom : room = 70368744177664 := rfl
  refine XC.then_ops ?_
  refine XO.op (o_move rfl) <| XO.nil <| ?_
  refine XC.then_ops ?_
  refine XO.op (o_move rfl) <| ?_
  refine XO.ca (clone_rn (g.wf w0) (hr.gr g) (by omega)) rfl ?_
  rintro v10 H1 ⟨ha, hn, g1⟩
  have gp := g
  replace g := g.tr g1
  refine XO.op (o_move rfl) <| XO.nil <| ?_
  refine XC.then_ops ?_
  refine XO.op (o_move rfl) <| XO.op (o_max2 rfl) <| XO.op (o_min2 rfl) <| XO.op (o_move rfl) <| XO.nil <| ?_
  refine XC.assoc ?_
  refine XC.then_ops ?_
  refine XO.op (o_move rfl) <| XO.op (o_move rfl) <| XO.nil <| ?_
  refine XC.then_block ?_
  refine XC.lp (σ := Nat × Value) (fun y => [(15, .int .i64 (y.1 : Int)), (7, y.2)]) [(14, .int .i64 (s : Int)), (1, .int .i64 x), (2, .int .i64 (s : Int))] (fun y G => Gr H0.c G.c ∧ bOw G.c y.2 (l ++ (numB x s).take y.1) ∧ newIn H0.c y.2 ∧ y.1 ≤ s) (fun y => s - y.1) (0, v10) (Sb.cons rfl (Sb.cons rfl (Sb.cons (by show some (Value.int IntKind.i64 (min (max (s : Int) 0) 8)) = _; rw [show min (max (s : Int) 0) 8 = s by omega]) (Sb.cons rfl (Sb.cons (by show some (Value.int IntKind.i64 (min (max (s : Int) 0) 8)) = _; rw [show min (max (s : Int) 0) 8 = s by omega]) (Sb.nil _)))))) ⟨g, by simpa using ha, hn.mono fun q hq => Nat.le_trans gp.next hq, Nat.zero_le _⟩ (by show s - 0 < 9223372036854775808; omega) ?_
  clear g ha hn gp g1
  rintro ⟨j, a⟩ G ⟨g, ha, hn, hj⟩
  simp only at ha hn hj
  refine XC.then_ops ?_
  refine XO.op (o_lss rfl rfl rfl) <| XO.nil <| ?_
  refine XC.pushIf rfl (fun hc16 => ?_) (fun hc16 => ?_)
  · skip
    have hj2 : j < s := by omega
    have hpl := numB_len x s
    have hst : l ++ (numB x s).take (j + 1) = (l ++ (numB x s).take j) ++ [UInt8.ofNat ((IntKind.u64.wrap x).toNat / 2 ^ (8 * (s - 1 - j)))] := by
      rw [List.take_succ_eq_append_getElem (by omega), List.append_assoc]
      congr 3
      unfold numB
      rw [List.getElem_map, List.getElem_range]
    have hlen : (l ++ (numB x s).take j).length = l.length + j := by rw [List.length_append, List.length_take]; omega
    refine XC.then_skip ?_
    refine XC.then_block ?_
    refine XC.then_ops ?_
    refine XO.op (o_move rfl) <| XO.op (o_move rfl) <| XO.nil <| ?_
    refine XC.ops ?_
    refine XO.op (o_move rfl) <| XO.op (o_move rfl) <| XO.op (o_convI rfl (u64_nat x)) <| XO.op (o_move rfl) <| XO.op (o_sub (r := ((s - 1 : Nat) : Int)) rfl rfl (by rw [w64 (by omega) (by omega)]; omega)) <| XO.op (o_move rfl) <| XO.op (o_sub (r := ((s - 1 - j : Nat) : Int)) rfl rfl (by rw [w64 (by omega) (by omega)]; omega)) <| XO.op (o_mul (r := ((8 * (s - 1 - j) : Nat) : Int)) rfl rfl (by rw [w64 (by omega) (by omega)]; omega)) <| ?_
    refine XO.op (o_convI rfl (wu64 (by omega) (by omega))) <| XO.op (o_shr rfl rfl (by show _ ≤ 64; omega)) <| XO.op (o_convI rfl (u8_wrap _)) <| ?_
    have lt_ha := ha.rw.lt (g.wf w0)
    refine XO.nws (o_buildSlice rfl rfl) (g.wf w0) ?_
    intro b29 H2 n29 g1 a29
    have m29 := n29
    replace n29 := Nat.le_trans g.next n29
    replace ha := ha.gr g1
    replace g := g.tr g1
    have lt_ha := ha.rw.lt (g.wf w0)
    have lt_a29 := HC.wf.lt (g.wf w0) a29
    refine XO.app (ha) (Rw.fresh (n := 1) rfl (by decide) a29) rfl rfl (by omega) rfl (by omega) (by omega) (g.wf w0) ?_
    intro b30 H3 n30 g1 a30 o30
    have m30 := n30
    replace n30 := Nat.le_trans g.next n30
    replace g := Chg.th g w0 g1 (fun q hq => .inr (hn q hq))
    refine XO.op (o_move rfl) <| XO.nil <| ?_
    refine blk_n ?_
    refine then_n ?_
    refine XC.ops ?_
    refine XO.op (o_add rfl rfl (w64 (by omega) (by omega))) <| XO.op (o_move rfl) <| XO.nil <| ?_
    exact ⟨(j + 1, _), by show s - (j + 1) < s - j; omega, Sb.cons rfl (Sb.cons rfl (Sb.cons rfl (Sb.cons rfl (Sb.cons rfl (Sb.nil _))))), g, by simp only; rw [hst]; exact Ow.snoc o30 rfl, inS_at n30, hj2⟩
  · skip
    refine XC.then_exit ?_
    refine blk_x rfl ?_
    refine then_n ?_
    refine XC.then_ops ?_
    refine XO.op (o_move rfl) <| XO.op (o_move rfl) <| XO.nil <| ?_
    refine XC.ret ?_
    refine ⟨_, rfl, ?_⟩
    refine ⟨?_, hn, g⟩
    rw [List.take_of_length_le (by rw [numB_len]; omega)] at ha
    exact ha
/-! the check sum -/
def step (c : Nat) : Nat := if c % 2 = 1 then Nat.xor (c / 2) 3988292384 else c / 2
def itN : Nat → Nat → Nat
  | 0, c => c
  | k + 1, c => itN k (step c)
def turnN (c b : Nat) : Nat := itN 8 (Nat.xor c b)
theorem xor_lt {a b : Nat} (ha : a < 4294967296) (hb : b < 4294967296) : Nat.xor a b < 4294967296 := Nat.xor_lt_two_pow (n := 32) ha hb
theorem step_lt {c : Nat} (h : c < 4294967296) : step c < 4294967296 := by
  unfold step
  split
  · exact xor_lt (by omega) (by omega)
  · omega
theorem itN_lt : ∀ (k : Nat) {c : Nat}, c < 4294967296 → itN k c < 4294967296
  | 0, _, h => h
  | k + 1, _, h => itN_lt k (step_lt h)
theorem turnN_lt {c b : Nat} (hc : c < 4294967296) (hb : b < 4294967296) : turnN c b < 4294967296 := itN_lt 8 (xor_lt hc hb)
theorem turn_pu {c b : Nat} (hc : c < 4294967296) (hb : b < 256) : Pu (cf (n + 1)) 96 [.int .u32 (c : Int), .int .u8 (b : Int)] C (.int .u32 (turnN c b : Int)) := by
  have hx := xor_lt hc (show b < 4294967296 by omega)
  refine Pu.enter rfl rfl rfl fun H0 hH => ?_
  subst hH
  refine XC.then_ops ?_
  refine XO.op (o_move rfl) <| XO.nil <| ?_
  refine XC.then_ops ?_
  refine XO.op (o_move rfl) <| XO.op (o_move rfl) <| XO.op (o_convI (r := (b : Int)) rfl (by simp [IntKind.wrap, IntKind.bits, IntKind.signed]; omega)) <| XO.op (o_xorN rfl rfl (by show c ≤ 4294967295; omega) (by show b ≤ 4294967295; omega)) <| XO.op (o_move rfl) <| XO.nil <| ?_
  refine XC.assoc ?_
  refine XC.then_ops ?_
  refine XO.op (o_move rfl) <| XO.nil <| ?_
  refine XC.then_block ?_
  refine XC.lp (σ := Nat × Nat) (fun y => [(10, .int .i64 (y.1 : Int)), (0, .int .u32 (y.2 : Int))]) [] (fun y G => G = H0 ∧ y.1 ≤ 8 ∧ y.2 < 4294967296 ∧ itN (8 - y.1) y.2 = turnN c b) (fun y => 8 - y.1) (0, Nat.xor c b) (Sb.cons rfl (Sb.cons rfl (Sb.nil _))) ⟨rfl, Nat.zero_le _, hx, rfl⟩ (by show 8 - 0 < 9223372036854775808; omega) ?_
  rintro ⟨j, z⟩ G ⟨rfl, hj, hz, he⟩
  simp only at hj hz he
  refine XC.then_ops ?_
  refine XO.op (o_lss rfl rfl rfl) <| XO.nil <| ?_
  refine XC.pushIf rfl (fun hc11 => ?_) (fun hc11 => ?_)
  · skip
    have hj2 : j < 8 := by omega
    have hst : itN (8 - (j + 1)) (step z) = turnN c b := by rw [← he, show 8 - j = (8 - (j + 1)) + 1 by omega]; rfl
    have hs1 := step_lt hz
    have hland : Nat.land z 1 = z % 2 := Nat.and_one_is_mod z
    refine XC.then_skip ?_
    refine XC.then_block ?_
    refine XC.then_ops ?_
    refine XO.op (o_move rfl) <| XO.op (o_andN (b := 1) rfl rfl (by show z ≤ 4294967295; omega) (by show 1 ≤ 4294967295; omega)) <| XO.op (o_move rfl) <| XO.nil <| ?_
    refine XC.then_ops ?_
    refine XO.op (o_move rfl) <| XO.op (o_shr (b := 1) rfl rfl (by show 1 ≤ 32; omega)) <| XO.op (o_move rfl) <| XO.nil <| ?_
    refine XC.then_ops ?_
    refine XO.op (o_move rfl) <| XO.op (o_eq rfl rfl) <| XO.nil <| ?_
    refine XC.ite rfl (fun hc17 => ?_) (fun hc17 => ?_)
    · skip
      refine XC.ops ?_
      refine XO.op (o_move rfl) <| XO.op (o_xorN (b := 3988292384) rfl rfl (by show z / 2 ^ 1 ≤ 4294967295; omega) (by show 3988292384 ≤ 4294967295; omega)) <| XO.op (o_move rfl) <| XO.nil <| ?_
      refine blk_n ?_
      refine then_n ?_
      refine XC.ops ?_
      refine XO.op (o_add rfl rfl (w64 (by omega) (by omega))) <| XO.op (o_move rfl) <| XO.nil <| ?_
      rw [hland] at hc17
      first
        | have e : step z = Nat.xor (z / 2 ^ 1) 3988292384 := by unfold step; (rw [if_pos (by omega)]) <;> rfl
          exact ⟨(j + 1, step z), by show 8 - (j + 1) < 8 - j; omega, Sb.cons rfl (Sb.cons (by rw [e]; rfl) (Sb.nil _)), rfl, hj2, hs1, hst⟩
        | have e : step z = z / 2 ^ 1 := by unfold step; (rw [if_neg (by omega)]) <;> rfl
          exact ⟨(j + 1, step z), by show 8 - (j + 1) < 8 - j; omega, Sb.cons rfl (Sb.cons (by rw [e]; rfl) (Sb.nil _)), rfl, hj2, hs1, hst⟩
    · skip
      refine XC.skip ?_
      refine blk_n ?_
      refine then_n ?_
      refine XC.ops ?_
      refine XO.op (o_add rfl rfl (w64 (by omega) (by omega))) <| XO.op (o_move rfl) <| XO.nil <| ?_
      rw [hland] at hc17
      first
        | have e : step z = Nat.xor (z / 2 ^ 1) 3988292384 := by unfold step; (rw [if_pos (by omega)]) <;> rfl
          exact ⟨(j + 1, step z), by show 8 - (j + 1) < 8 - j; omega, Sb.cons rfl (Sb.cons (by rw [e]; rfl) (Sb.nil _)), rfl, hj2, hs1, hst⟩
        | have e : step z = z / 2 ^ 1 := by unfold step; (rw [if_neg (by omega)]) <;> rfl
          exact ⟨(j + 1, step z), by show 8 - (j + 1) < 8 - j; omega, Sb.cons rfl (Sb.cons (by rw [e]; rfl) (Sb.nil _)), rfl, hj2, hs1, hst⟩
  · skip
    refine XC.then_exit ?_
    refine blk_x rfl ?_
    refine then_n ?_
    refine XC.then_ops ?_
    refine XO.op (o_move rfl) <| XO.op (o_move rfl) <| XO.nil <| ?_
    refine XC.ret ?_
    refine ⟨_, rfl, ?_⟩
    refine ⟨?_, rfl⟩
    rw [← he, show 8 - j = 0 by omega]
    rfl
def crcF (c : Nat) (l : Str) : Nat := l.foldl (fun c b => turnN c b.toNat) c
theorem crcF_lt : ∀ (l : Str) {c : Nat}, c < 4294967296 → crcF c l < 4294967296
  | [], _, h => h
  | b :: l, _, h => crcF_lt l (turnN_lt h (by have := b.toNat_lt; omega))
def sumL (l : Str) : Nat := Nat.xor 4294967295 (crcF 4294967295 l)
theorem sumL_lt (l : Str) : sumL l < 4294967296 := xor_lt (by omega) (crcF_lt l (by omega))
theorem bytes_at (l : Str) {j : Nat} (hj : j < l.length) : partOf none (j * 1) (byteCells l) = some (.int .u8 (l[j].toNat)) := one_cell hj
theorem sum_pu {v : Value} {l : Str} (hr : bRow C v l) (hl : l.length < 1000000) : Pu (cf (n + 3)) 57 [v] C (.int .u32 (sumL l : Int)) := by
  have ha : Pu (cf (n + 2)) 78 [.int .u32 0, v] C (.int .u32 (sumL l : Int)) := by
    refine Pu.enter rfl rfl rfl fun H0 hH => ?_
    subst hH
    refine XC.then_ops ?_
    refine XO.op (o_move rfl) <| XO.nil <| ?_
    refine XC.then_ops ?_
    refine XO.op (o_move rfl) <| XO.op (o_cpl (a := 0) rfl (by omega)) <| XO.op (o_move rfl) <| XO.nil <| ?_
    refine XC.assoc ?_
    refine XC.then_ops ?_
    refine XO.op (o_move rfl) <| XO.op (o_len hr rfl) <| XO.op (o_move rfl) <| XO.nil <| ?_
    refine XC.then_block ?_
    refine XC.lp (σ := Nat) (fun j => [(11, .int .i64 (j : Int)), (0, .int .u32 (crcF 4294967295 (l.take j) : Int))]) [(9, v), (10, .int .i64 (l.length : Int))] (fun j G => G = H0 ∧ j ≤ l.length) (fun j => l.length - j) 0 (Sb.cons rfl (Sb.cons (by show some (Value.int IntKind.u32 ((Nat.xor 4294967295 0 : Nat) : Int)) = _; rw [show Nat.xor 4294967295 0 = 4294967295 by decide]; rfl) (Sb.cons rfl (Sb.cons rfl (Sb.nil _))))) ⟨rfl, Nat.zero_le _⟩ (by show l.length - 0 < 9223372036854775808; omega) ?_
    rintro j G ⟨rfl, hj⟩
    refine XC.then_ops ?_
    refine XO.op (o_lss rfl rfl rfl) <| XO.nil <| ?_
    refine XC.pushIf rfl (fun hc12 => ?_) (fun hc12 => ?_)
    · skip
      have hj2 : j < l.length := by omega
      have hst : crcF 4294967295 (l.take (j + 1)) = turnN (crcF 4294967295 (l.take j)) l[j].toNat := by unfold crcF; rw [List.take_succ_eq_append_getElem hj2, List.foldl_append]; rfl
      refine XC.then_skip ?_
      refine XC.then_block ?_
      refine XC.then_ops ?_
      refine XO.op (o_ix hr rfl rfl hj2) <| XO.op (o_ld hr rfl (by simp only [Option.getD_none]; omega) (by omega) (bytes_at l hj2)) <| XO.op (o_move rfl) <| XO.nil <| ?_
      refine XC.ops ?_
      refine XO.op (o_move rfl) <| XO.op (o_move rfl) <| XO.pu (turn_pu (crcF_lt _ (by omega)) l[j].toNat_lt) rfl <| XO.op (o_move rfl) <| XO.nil <| ?_
      refine blk_n ?_
      refine then_n ?_
      refine XC.ops ?_
      refine XO.op (o_add rfl rfl (w64 (by omega) (by omega))) <| XO.op (o_move rfl) <| XO.nil <| ?_
      exact ⟨j + 1, by show l.length - (j + 1) < l.length - j; omega, Sb.cons rfl (Sb.cons (by rw [hst]; rfl) (Sb.cons rfl (Sb.cons rfl (Sb.nil _)))), rfl, hj2⟩
    · skip
      have hz : l.take j = l := List.take_of_length_le (by omega)
      refine XC.then_exit ?_
      refine blk_x rfl ?_
      refine then_n ?_
      refine XC.then_ops ?_
      refine XO.op (o_move rfl) <| XO.op (o_cpl rfl (crcF_lt _ (by omega))) <| XO.op (o_move rfl) <| XO.nil <| ?_
      refine XC.ret ?_
      refine ⟨_, rfl, ?_⟩
      refine ⟨?_, rfl⟩
      rw [hz]
      rfl
  refine Pu.enter rfl rfl rfl fun H0 hH => ?_
  subst hH
  refine XC.then_ops ?_
  refine XO.op (o_move rfl) <| XO.nil <| ?_
  refine XC.then_ops ?_
  refine XO.op (o_move rfl) <| XO.pu (ha) rfl <| XO.op (o_move rfl) <| XO.nil <| ?_
  refine XC.ret ?_
  refine ⟨_, rfl, ?_⟩
  exact ⟨rfl, rfl⟩
def numL (l : Str) : Nat := l.foldl (fun c b => c * 256 + b.toNat) 0
theorem numL_snoc (l : Str) (b : UInt8) : numL (l ++ [b]) = numL l * 256 + b.toNat := by unfold numL; rw [List.foldl_append]; rfl
theorem numF_lt : ∀ (l : Str) (c : Nat), l.foldl (fun c b => c * 256 + b.toNat) c < (c + 1) * 256 ^ l.length
  | [], c => by simp
  | b :: l, c => by
    have h := numF_lt l (c * 256 + b.toNat)
    have hb := b.toNat_lt
    rw [List.foldl_cons, List.length_cons, Nat.pow_succ]
    refine Nat.lt_of_lt_of_le h ?_
    rw [Nat.mul_comm (256 ^ l.length) 256, ← Nat.mul_assoc]
    exact Nat.mul_le_mul_right _ (by omega)
theorem numL_lt (l : Str) : numL l < 256 ^ l.length := by have := numF_lt l 0; simpa [numL] using this
theorem num_no_pu {v : Value} {l : Str} (hr : bRow C v l) (hl : l.length < 1000000) {at_ s : Nat} (hs : 1 ≤ s) (hs4 : s ≤ 4) (ha : at_ ≤ l.length) (hn : ¬ at_ + s ≤ l.length) : Pu (cf (n + 1)) 56 [v, .int .i64 (at_ : Int), .int .i64 (s : Int)] C (.tuple #[.int .i64 0, .bool false]) := by
  refine Pu.enter rfl rfl rfl fun H0 hH => ?_
  subst hH
  refine XC.then_ops ?_
  refine XO.op (o_move rfl) <| XO.op (o_move rfl) <| XO.nil <| ?_
  refine XC.assoc ?_
  refine XC.then_ops ?_
  refine XO.op (o_move rfl) <| XO.op (o_lss rfl rfl rfl) <| XO.op (o_move rfl) <| ?_
  apply XO.sco (j := 3) (g := 12) (d := 15) (hg := rfl)
  · intro hg12
    refine XO.gt rfl <| XO.op (o_move rfl) <| XO.gt rfl <| XO.op (o_gtr rfl rfl rfl) <| XO.op (o_pick_f rfl rfl) <| XO.nil <| ?_
    exact ⟨rfl, rfl, by repeat (first | exact Sb.refl _ | refine Sb.pt ?_ rfl)⟩
  · intro hg12
    refine XO.pass rfl rfl <| XO.pass rfl rfl <| XO.op (o_pick_t rfl rfl) <| XO.nil <| ?_
    exact ⟨rfl, rfl, by repeat (first | exact Sb.refl _ | refine Sb.pt ?_ rfl)⟩
  refine XO.op (o_move rfl) <| ?_
  apply XO.sco (j := 3) (g := 16) (d := 19) (hg := rfl)
  · intro hg16
    refine XO.gt rfl <| XO.op (o_move rfl) <| XO.gt rfl <| XO.op (o_lss rfl rfl rfl) <| XO.op (o_pick_f rfl rfl) <| XO.nil <| ?_
    exact ⟨rfl, rfl, by repeat (first | exact Sb.refl _ | refine Sb.pt ?_ rfl)⟩
  · intro hg16
    refine XO.pass rfl rfl <| XO.pass rfl rfl <| XO.op (o_pick_t rfl rfl) <| XO.nil <| ?_
    exact ⟨rfl, rfl, by repeat (first | exact Sb.refl _ | refine Sb.pt ?_ rfl)⟩
  refine XO.op (o_move rfl) <| ?_
  apply XO.sco (j := 5) (g := 20) (d := 25) (hg := rfl)
  · intro hg20
    refine XO.gt rfl <| XO.op (o_move rfl) <| XO.gt rfl <| XO.op (o_move rfl) <| XO.gt rfl <| XO.op (o_len hr rfl) <| XO.gt rfl <| XO.op (o_gtr rfl rfl rfl) <| XO.op (o_pick_f rfl rfl) <| XO.nil <| ?_
    exact ⟨rfl, rfl, by repeat (first | exact Sb.refl _ | refine Sb.pt ?_ rfl)⟩
  · intro hg20
    refine XO.pass rfl rfl <| XO.pass rfl rfl <| XO.pass rfl rfl <| XO.pass rfl rfl <| XO.op (o_pick_t rfl rfl) <| XO.nil <| ?_
    exact ⟨rfl, rfl, by repeat (first | exact Sb.refl _ | refine Sb.pt ?_ rfl)⟩
  refine XO.op (o_move rfl) <| ?_
  apply XO.sco (j := 7) (g := 26) (d := 33) (hg := rfl)
  · intro hg26
    refine XO.gt rfl <| XO.op (o_move rfl) <| XO.gt rfl <| XO.op (o_move rfl) <| XO.gt rfl <| XO.op (o_len hr rfl) <| XO.gt rfl <| XO.op (o_move rfl) <| XO.gt rfl <| XO.op (o_sub rfl rfl (w64 (by omega) (by omega))) <| XO.gt rfl <| XO.op (o_gtr rfl rfl rfl) <| XO.op (o_pick_f rfl rfl) <| XO.nil <| ?_
    exact ⟨rfl, rfl, by repeat (first | exact Sb.refl _ | refine Sb.pt ?_ rfl)⟩
  · intro hg26
    refine XO.pass rfl rfl <| XO.pass rfl rfl <| XO.pass rfl rfl <| XO.pass rfl rfl <| XO.pass rfl rfl <| XO.pass rfl rfl <| XO.op (o_pick_t rfl rfl) <| XO.nil <| ?_
    exact ⟨rfl, rfl, by repeat (first | exact Sb.refl _ | refine Sb.pt ?_ rfl)⟩
  refine XO.nil <| ?_
  refine XC.push_t ((by show some (Value.bool (((((decide ((s : Int) < 1) || decide (8 < (s : Int))) || decide ((at_ : Int) < 0)) || decide ((l.length : Int) < (at_ : Int)))) || decide ((l.length : Int) - (at_ : Int) < (s : Int)))) = some (.bool true); rw [decide_eq_true (show (l.length : Int) - (at_ : Int) < (s : Int) by omega), Bool.or_true])) ?_
  refine XC.assoc ?_
  refine XC.then_ops ?_
  refine XO.op (o_move rfl) <| XO.op (o_move rfl) <| XO.nil <| ?_
  refine XC.then_ret ?_
  refine ⟨_, rfl, ?_⟩
  exact ⟨rfl, rfl⟩
theorem num_pu {v : Value} {l : Str} (hr : bRow C v l) (hl : l.length < 1000000) {at_ s : Nat} (hs : 1 ≤ s) (hs4 : s ≤ 4) (hn : at_ + s ≤ l.length) : Pu (cf (n + 1)) 56 [v, .int .i64 (at_ : Int), .int .i64 (s : Int)] C (.tuple #[.int .i64 (numL ((l.drop at_).take s) : Int), .bool true]) := by
  refine Pu.enter rfl rfl rfl fun H0 hH => ?_
  subst hH
  refine XC.then_ops ?_
  refine XO.op (o_move rfl) <| XO.op (o_move rfl) <| XO.nil <| ?_
  refine XC.assoc ?_
  refine XC.then_ops ?_
  refine XO.op (o_move rfl) <| XO.op (o_lss rfl rfl rfl) <| XO.op (o_move rfl) <| ?_
  apply XO.sco (j := 3) (g := 12) (d := 15) (hg := rfl)
  · intro hg12
    refine XO.gt rfl <| XO.op (o_move rfl) <| XO.gt rfl <| XO.op (o_gtr rfl rfl rfl) <| XO.op (o_pick_f rfl rfl) <| XO.nil <| ?_
    exact ⟨rfl, rfl, by repeat (first | exact Sb.refl _ | refine Sb.pt ?_ rfl)⟩
  · intro hg12
    refine XO.pass rfl rfl <| XO.pass rfl rfl <| XO.op (o_pick_t rfl rfl) <| XO.nil <| ?_
    exact ⟨rfl, rfl, by repeat (first | exact Sb.refl _ | refine Sb.pt ?_ rfl)⟩
  refine XO.op (o_move rfl) <| ?_
  apply XO.sco (j := 3) (g := 16) (d := 19) (hg := rfl)
  · intro hg16
    refine XO.gt rfl <| XO.op (o_move rfl) <| XO.gt rfl <| XO.op (o_lss rfl rfl rfl) <| XO.op (o_pick_f rfl rfl) <| XO.nil <| ?_
    exact ⟨rfl, rfl, by repeat (first | exact Sb.refl _ | refine Sb.pt ?_ rfl)⟩
  · intro hg16
    refine XO.pass rfl rfl <| XO.pass rfl rfl <| XO.op (o_pick_t rfl rfl) <| XO.nil <| ?_
    exact ⟨rfl, rfl, by repeat (first | exact Sb.refl _ | refine Sb.pt ?_ rfl)⟩
  refine XO.op (o_move rfl) <| ?_
  apply XO.sco (j := 5) (g := 20) (d := 25) (hg := rfl)
  · intro hg20
    refine XO.gt rfl <| XO.op (o_move rfl) <| XO.gt rfl <| XO.op (o_move rfl) <| XO.gt rfl <| XO.op (o_len hr rfl) <| XO.gt rfl <| XO.op (o_gtr rfl rfl rfl) <| XO.op (o_pick_f rfl rfl) <| XO.nil <| ?_
    exact ⟨rfl, rfl, by repeat (first | exact Sb.refl _ | refine Sb.pt ?_ rfl)⟩
  · intro hg20
    refine XO.pass rfl rfl <| XO.pass rfl rfl <| XO.pass rfl rfl <| XO.pass rfl rfl <| XO.op (o_pick_t rfl rfl) <| XO.nil <| ?_
    exact ⟨rfl, rfl, by repeat (first | exact Sb.refl _ | refine Sb.pt ?_ rfl)⟩
  refine XO.op (o_move rfl) <| ?_
  apply XO.sco (j := 7) (g := 26) (d := 33) (hg := rfl)
  · intro hg26
    refine XO.gt rfl <| XO.op (o_move rfl) <| XO.gt rfl <| XO.op (o_move rfl) <| XO.gt rfl <| XO.op (o_len hr rfl) <| XO.gt rfl <| XO.op (o_move rfl) <| XO.gt rfl <| XO.op (o_sub rfl rfl (w64 (by omega) (by omega))) <| XO.gt rfl <| XO.op (o_gtr rfl rfl rfl) <| XO.op (o_pick_f rfl rfl) <| XO.nil <| ?_
    exact ⟨rfl, rfl, by repeat (first | exact Sb.refl _ | refine Sb.pt ?_ rfl)⟩
  · intro hg26
    refine XO.pass rfl rfl <| XO.pass rfl rfl <| XO.pass rfl rfl <| XO.pass rfl rfl <| XO.pass rfl rfl <| XO.pass rfl rfl <| XO.op (o_pick_t rfl rfl) <| XO.nil <| ?_
    exact ⟨rfl, rfl, by repeat (first | exact Sb.refl _ | refine Sb.pt ?_ rfl)⟩
  refine XO.nil <| ?_
  refine XC.push_f ((by show some (Value.bool (((((decide ((s : Int) < 1) || decide (8 < (s : Int))) || decide ((at_ : Int) < 0)) || decide ((l.length : Int) < (at_ : Int)))) || decide ((l.length : Int) - (at_ : Int) < (s : Int)))) = some (.bool false); rw [decide_eq_false (show ¬ (s : Int) < 1 by omega), decide_eq_false (show ¬ 8 < (s : Int) by omega), decide_eq_false (show ¬ (at_ : Int) < 0 by omega), decide_eq_false (show ¬ (l.length : Int) < (at_ : Int) by omega), decide_eq_false (show ¬ (l.length : Int) - (at_ : Int) < (s : Int) by omega)]; rfl)) ?_
  refine XC.then_skip ?_
  refine XC.then_ops ?_
  refine XO.op (o_move rfl) <| XO.nil <| ?_
  refine XC.assoc ?_
  refine XC.then_ops ?_
  refine XO.op (o_move rfl) <| XO.op (o_move rfl) <| XO.nil <| ?_
  refine XC.then_block ?_
  refine XC.lp (σ := Nat) (fun j => [(35, .int .i64 (j : Int)), (8, .int .u64 (numL ((l.drop at_).take j) : Int))]) [(34, .int .i64 (s : Int)), (0, v), (1, .int .i64 (at_ : Int))] (fun j G => G = H0 ∧ j ≤ s) (fun j => s - j) 0 (Sb.cons rfl (Sb.cons rfl (Sb.cons rfl (Sb.cons rfl (Sb.cons rfl (Sb.nil _)))))) ⟨rfl, Nat.zero_le _⟩ (by show s - 0 < 9223372036854775808; omega) ?_
  rintro j G ⟨rfl, hj⟩
  refine XC.then_ops ?_
  refine XO.op (o_lss rfl rfl rfl) <| XO.nil <| ?_
  refine XC.pushIf rfl (fun hc36 => ?_) (fun hc36 => ?_)
  · skip
    have hj2 : j < s := by omega
    have hdl : j < (l.drop at_).length := by rw [List.length_drop]; omega
    have hst : numL ((l.drop at_).take (j + 1)) = numL ((l.drop at_).take j) * 256 + l[at_ + j].toNat := by rw [List.take_succ_eq_append_getElem hdl, numL_snoc, List.getElem_drop]
    have hlt := numL_lt ((l.drop at_).take j)
    have hb := l[at_ + j].toNat_lt
    have hlt2 : numL ((l.drop at_).take j) < 16777216 := by
      refine Nat.lt_of_lt_of_le hlt ?_
      rw [List.length_take, Nat.min_eq_left (by omega)]
      exact Nat.pow_le_pow_right (n := 256) (by omega) (show j ≤ 3 by omega)
    have hor : Nat.lor (numL ((l.drop at_).take j) * 2 ^ 8) l[at_ + j].toNat = numL ((l.drop at_).take (j + 1)) := by
      have := Nat.two_pow_add_eq_or_of_lt (i := 8) hb (numL ((l.drop at_).take j))
      rw [hst, Nat.mul_comm _ (2 ^ 8)]
      exact this.symm.trans (by omega)
    refine XC.then_skip ?_
    refine XC.then_block ?_
    refine XC.then_ops ?_
    refine XO.op (o_move rfl) <| XO.op (o_move rfl) <| XO.nil <| ?_
    refine XC.ops ?_
    refine XO.op (o_move rfl) <| XO.op (o_shl (b := 8) rfl rfl (by show 8 ≤ 64; omega) (by show _ ≤ 18446744073709551615; omega)) <| XO.op (o_move rfl) <| XO.op (o_move rfl) <| XO.op (o_move rfl) <| XO.op (o_add (r := ((at_ + j : Nat) : Int)) rfl rfl (by rw [w64 (by omega) (by omega)]; omega)) <| XO.op (o_ix hr rfl rfl (show at_ + j < l.length by omega)) <| ?_
    refine XO.op (o_ld hr rfl (by simp only [Option.getD_none]; omega) (by omega) (bytes_at l (show at_ + j < l.length by omega))) <| XO.op (o_convI (r := (l[at_ + j].toNat : Int)) rfl (wu64 (by omega) (by omega))) <| XO.op (o_or rfl rfl (by show _ ≤ 18446744073709551615; omega) (by show _ ≤ 18446744073709551615; omega)) <| ?_
    refine XO.op (o_move rfl) <| XO.nil <| ?_
    refine blk_n ?_
    refine then_n ?_
    refine XC.ops ?_
    refine XO.op (o_add rfl rfl (w64 (by omega) (by omega))) <| XO.op (o_move rfl) <| XO.nil <| ?_
    exact ⟨j + 1, by show s - (j + 1) < s - j; omega, Sb.cons rfl (Sb.cons (by rw [← hor]; rfl) (Sb.cons rfl (Sb.cons rfl (Sb.cons rfl (Sb.nil _))))), rfl, hj2⟩
  · skip
    have hjs : j = s := by omega
    subst hjs
    have hlt := numL_lt ((l.drop at_).take j)
    have hlt2 : numL ((l.drop at_).take j) < 4294967296 := by
      refine Nat.lt_of_lt_of_le hlt ?_
      rw [List.length_take, Nat.min_eq_left (by rw [List.length_drop]; omega)]
      exact Nat.pow_le_pow_right (n := 256) (by omega) hs4
    refine XC.then_exit ?_
    refine blk_x rfl ?_
    refine then_n ?_
    refine XC.then_ops ?_
    refine XO.op (o_move rfl) <| XO.op (o_convI rfl (by first | exact w64 (by omega) (by omega) | rfl)) <| XO.op (o_move rfl) <| XO.op (o_move rfl) <| XO.nil <| ?_
    refine XC.ret ?_
    refine ⟨_, rfl, ?_⟩
    exact ⟨rfl, rfl⟩
theorem numB_num {x s : Nat} (h : x < 256 ^ s) (hs : s ≤ 7) : numL (numB (x : Int) s) = x := by
  have hp : 256 ^ s ≤ 256 ^ 7 := Nat.pow_le_pow_right (by omega) hs
  have hw : (IntKind.u64.wrap (x : Int)).toNat = x := by rw [wu64 (by omega) (by omega)]; rfl
  have key : ∀ k, k ≤ s → numL ((List.range k).map fun i => UInt8.ofNat (x / 2 ^ (8 * (s - 1 - i)))) = x / 256 ^ (s - k) := by
    intro k
    induction k with
    | zero => intro _; rw [Nat.sub_zero, Nat.div_eq_of_lt h]; rfl
    | succ k ih =>
      intro hk
      rw [List.range_succ, List.map_append, List.map_cons, List.map_nil, numL_snoc, ih (by omega), UInt8.toNat_ofNat']
      have e1 : 2 ^ (8 * (s - 1 - k)) = 256 ^ (s - (k + 1)) := by rw [Nat.pow_mul, show s - 1 - k = s - (k + 1) by omega]
      have e2 : 256 ^ (s - k) = 256 ^ (s - (k + 1)) * 256 := by rw [← Nat.pow_succ, show (s - (k + 1)).succ = s - k by omega]
      rw [e1, e2, ← Nat.div_div_eq_div_mul]
      have := Nat.div_add_mod (x / 256 ^ (s - (k + 1))) 256
      omega
  have := key s (Nat.le_refl _)
  unfold numB
  rw [hw, this, Nat.sub_self, Nat.pow_zero, Nat.div_one]
end
end Go.Proofs.Ytffokmamcempgaa.P
