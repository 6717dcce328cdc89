/- A machine of our own: rules for its operations. -/
import Derived.Test.YtffokmamcempgaaAMX
namespace Go.Proofs.Ytffokmamcempgaa.AM
open Go Go.RowKit
set_option linter.unusedVariables false
set_option linter.unusedSimpArgs false

/-! whole numbers -/
theorem Tr_nat (a : Nat) : (Int.ofNat a) = (a : Int) := rfl
section
variable {P : Program}
theorem oBin_slow {op : BinOp} {t : TypeId} {lit : Bool} {k : IntKind} {a b : Int} {v : Value} (hs : isShift op = false) (h : slow P op t (.int k a) (.int k b) = some v) (hq : ∀ (a b : Nat) (u : Value), bin1 op k a b = some u → slow P op t (.int k (.ofNat a)) (.int k (.ofNat b)) = some u) :
    oBin P op t lit (.int k a) (.int k b) = some v := by
  have hk : kindB k k = true := by cases k <;> rfl
  have e : oBin P op t lit (.int k a) (.int k b) = binII P op t k k a b := rfl
  rw [e]
  cases a with
  | ofNat a =>
    cases b with
    | ofNat b =>
      simp only [binII, binNN, hs, hk, orSlow]
      cases hb : bin1 op k a b with
      | none => exact h
      | some u => rw [hq a b u hb] at h; exact h
    | negSucc b => exact h
  | negSucc a => exact h
theorem slow_bin {op : BinOp} {t : TypeId} {k : IntKind} {a b : Nat} {u : Value} (hs : isShift op = false) (h : bin1 op k a b = some u) (hp : ∃ v, slow P op t (.int k (.ofNat a)) (.int k (.ofNat b)) = some v) : slow P op t (.int k (.ofNat a)) (.int k (.ofNat b)) = some u := by
  obtain ⟨v, hv⟩ := hp
  rw [hv]
  unfold slow at hv
  simp only [plainV, Option.bind_eq_some_iff] at hv
  obtain ⟨v', h1, h2⟩ := hv
  split at h2 <;> cases h2
  have w : World := ⟨#[], fun _ _ => 0, 0, default, #[]⟩
  have h3 := pr_run h1 w
  rw [bin1_run h hs w] at h3
  cases h3
  rfl
theorem pr_pure {α : Type} (a : α) : pr P (pure a : Sem α) = some a := rfl
theorem slow_of {op : BinOp} {t : TypeId} {x y v : Value} (hx : plainV 8 x = true) (hy : plainV 8 y = true) (hv : plainV 1 v = true) (h : pr P (binOp op t x y) = some v) : slow P op t x y = some v := by
  simp only [slow, hx, hy, h, Option.bind_some, hv]
section
variable {t : TypeId} {lit : Bool} {k : IntKind} {a b : Int}
theorem slow_add : slow P .add t (.int k a) (.int k b) = some (.int k (k.wrap (a + b))) := slow_of rfl rfl rfl (by simp only [binOp, Op.intArith, ne_eq, not_true_eq_false, if_false, pr_pure, gt_iff_lt, ge_iff_le])
theorem slow_sub : slow P .sub t (.int k a) (.int k b) = some (.int k (k.wrap (a - b))) := slow_of rfl rfl rfl (by simp only [binOp, Op.intArith, ne_eq, not_true_eq_false, if_false, pr_pure, gt_iff_lt, ge_iff_le])
theorem slow_mul : slow P .mul t (.int k a) (.int k b) = some (.int k (k.wrap (a * b))) := slow_of rfl rfl rfl (by simp only [binOp, Op.intArith, ne_eq, not_true_eq_false, if_false, pr_pure, gt_iff_lt, ge_iff_le])
theorem slow_quo (h : b ≠ 0) : slow P .quo t (.int k a) (.int k b) = some (.int k (k.wrap (a.tdiv b))) := slow_of rfl rfl rfl (by simp only [binOp, Op.intDiv, ne_eq, not_true_eq_false, if_false, h, pr_pure, gt_iff_lt, ge_iff_le])
theorem slow_rem (h : b ≠ 0) : slow P .rem t (.int k a) (.int k b) = some (.int k (a.tmod b)) := slow_of rfl rfl rfl (by simp only [binOp, Op.intDiv, ne_eq, not_true_eq_false, if_false, h, pr_pure, gt_iff_lt, ge_iff_le])
theorem slow_eql : slow P .eql t (.int k a) (.int k b) = some (.bool (a == b)) := slow_of rfl rfl rfl (by simp only [binOp, Op.intCmp, ne_eq, not_true_eq_false, if_false, pr_pure, gt_iff_lt, ge_iff_le])
theorem slow_neq : slow P .neq t (.int k a) (.int k b) = some (.bool (a != b)) := slow_of rfl rfl rfl (by simp only [binOp, Op.intCmp, ne_eq, not_true_eq_false, if_false, pr_pure, gt_iff_lt, ge_iff_le])
theorem slow_lss : slow P .lss t (.int k a) (.int k b) = some (.bool (decide (a < b))) := slow_of rfl rfl rfl (by simp only [binOp, Op.intCmp, ne_eq, not_true_eq_false, if_false, pr_pure, gt_iff_lt, ge_iff_le])
theorem slow_leq : slow P .leq t (.int k a) (.int k b) = some (.bool (decide (a ≤ b))) := slow_of rfl rfl rfl (by simp only [binOp, Op.intCmp, ne_eq, not_true_eq_false, if_false, pr_pure, gt_iff_lt, ge_iff_le])
theorem slow_gtr : slow P .gtr t (.int k a) (.int k b) = some (.bool (decide (b < a))) := slow_of rfl rfl rfl (by simp only [binOp, Op.intCmp, ne_eq, not_true_eq_false, if_false, pr_pure, gt_iff_lt, ge_iff_le])
theorem slow_geq : slow P .geq t (.int k a) (.int k b) = some (.bool (decide (b ≤ a))) := slow_of rfl rfl rfl (by simp only [binOp, Op.intCmp, ne_eq, not_true_eq_false, if_false, pr_pure, gt_iff_lt, ge_iff_le])
theorem slow_xor : slow P .xor t (.int k a) (.int k b) = some (.int k (k.wrap ((BitVec.ofInt k.bits a ^^^ BitVec.ofInt k.bits b).toNat))) := slow_of rfl rfl rfl (by simp only [binOp, Op.intBits, ne_eq, not_true_eq_false, if_false, pr_pure, gt_iff_lt, ge_iff_le])
theorem slow_and : slow P .and t (.int k a) (.int k b) = some (.int k (k.wrap ((BitVec.ofInt k.bits a &&& BitVec.ofInt k.bits b).toNat))) := slow_of rfl rfl rfl (by simp only [binOp, Op.intBits, ne_eq, not_true_eq_false, if_false, pr_pure, gt_iff_lt, ge_iff_le])
theorem oBin_add : oBin P .add t lit (.int k a) (.int k b) = some (.int k (k.wrap (a + b))) := oBin_slow rfl slow_add fun a b u h => slow_bin rfl h ⟨_, slow_add⟩
theorem oBin_sub : oBin P .sub t lit (.int k a) (.int k b) = some (.int k (k.wrap (a - b))) := oBin_slow rfl slow_sub fun a b u h => slow_bin rfl h ⟨_, slow_sub⟩
theorem oBin_mul : oBin P .mul t lit (.int k a) (.int k b) = some (.int k (k.wrap (a * b))) := oBin_slow rfl slow_mul fun a b u h => slow_bin rfl h ⟨_, slow_mul⟩
theorem oBin_eql : oBin P .eql t lit (.int k a) (.int k b) = some (.bool (a == b)) := oBin_slow rfl slow_eql fun a b u h => slow_bin rfl h ⟨_, slow_eql⟩
theorem oBin_neq : oBin P .neq t lit (.int k a) (.int k b) = some (.bool (a != b)) := oBin_slow rfl slow_neq fun a b u h => slow_bin rfl h ⟨_, slow_neq⟩
theorem oBin_lss : oBin P .lss t lit (.int k a) (.int k b) = some (.bool (decide (a < b))) := oBin_slow rfl slow_lss fun a b u h => slow_bin rfl h ⟨_, slow_lss⟩
theorem oBin_leq : oBin P .leq t lit (.int k a) (.int k b) = some (.bool (decide (a ≤ b))) := oBin_slow rfl slow_leq fun a b u h => slow_bin rfl h ⟨_, slow_leq⟩
theorem oBin_gtr : oBin P .gtr t lit (.int k a) (.int k b) = some (.bool (decide (b < a))) := oBin_slow rfl slow_gtr fun a b u h => slow_bin rfl h ⟨_, slow_gtr⟩
theorem oBin_geq : oBin P .geq t lit (.int k a) (.int k b) = some (.bool (decide (b ≤ a))) := oBin_slow rfl slow_geq fun a b u h => slow_bin rfl h ⟨_, slow_geq⟩
theorem oBin_xor : oBin P .xor t lit (.int k a) (.int k b) = some (.int k (k.wrap ((BitVec.ofInt k.bits a ^^^ BitVec.ofInt k.bits b).toNat))) := oBin_slow rfl slow_xor fun a b u h => slow_bin rfl h ⟨_, slow_xor⟩
theorem oBin_and : oBin P .and t lit (.int k a) (.int k b) = some (.int k (k.wrap ((BitVec.ofInt k.bits a &&& BitVec.ofInt k.bits b).toNat))) := oBin_slow rfl slow_and fun a b u h => slow_bin rfl h ⟨_, slow_and⟩
theorem oBin_rem (h : b ≠ 0) : oBin P .rem t lit (.int k a) (.int k b) = some (.int k (a.tmod b)) := oBin_slow rfl (slow_rem h) fun a b u h => slow_bin rfl h (by
  unfold bin1 remN at h
  cases b with
  | zero => cases h
  | succ c => exact ⟨_, slow_rem (by simp only [Int.ofNat_eq_natCast]; omega)⟩)
theorem oBin_quo (h : b ≠ 0) : oBin P .quo t lit (.int k a) (.int k b) = some (.int k (k.wrap (a.tdiv b))) := oBin_slow rfl (slow_quo h) fun a b u h => slow_bin rfl h (by
  unfold bin1 quoN at h
  cases b with
  | zero => cases h
  | succ c => exact ⟨_, slow_quo (by simp only [Int.ofNat_eq_natCast]; omega)⟩)
end
theorem w64 {z : Int} (h0 : -9223372036854775808 ≤ z) (h1 : z < 9223372036854775808) : IntKind.i64.wrap z = z := by
  simp [IntKind.wrap, IntKind.bits, IntKind.signed]
  omega
theorem wu64 {z : Int} (h0 : 0 ≤ z) (h1 : z < 18446744073709551616) : IntKind.u64.wrap z = z := by
  simp [IntKind.wrap, IntKind.bits, IntKind.signed]
  omega
theorem wu8 {z : Int} (h0 : 0 ≤ z) (h1 : z < 256) : IntKind.u8.wrap z = z := by
  simp [IntKind.wrap, IntKind.bits, IntKind.signed]
  omega
/-! operations -/
section
variable {cf : CallF} {L : Lv} {H : Heap} {x y z : Arg} {k : IntKind} {a b r : Int} {t : TypeId} {lit : Bool} {u v w : Value} {q : Bool}
theorem o_move (h : av L x = some v) : Op P cf L H (.move x) v H := fun T hT => by simp only [opRun, hT.ev h]
theorem o_pick_t (hz : av L z = some (.bool true)) (hx : av L x = some v) : Op P cf L H (.pick z x y) v H := fun T hT => by simp only [opRun, hT.ev hz, hT.ev hx, oPick, up]
theorem o_pick_f (hz : av L z = some (.bool false)) (hy : av L y = some v) : Op P cf L H (.pick z x y) v H := fun T hT => by simp only [opRun, hT.ev hz, hT.ev hy, oPick, up]
theorem o_add (hx : av L x = some (.int k a)) (hy : av L y = some (.int k b)) (h : k.wrap (a + b) = r) : Op P cf L H (.bin .add t lit x y) (.int k r) H := fun T hT => by simp only [opRun, hT.ev hx, hT.ev hy, oBin_add, up, h]
theorem o_sub (hx : av L x = some (.int k a)) (hy : av L y = some (.int k b)) (h : k.wrap (a - b) = r) : Op P cf L H (.bin .sub t lit x y) (.int k r) H := fun T hT => by simp only [opRun, hT.ev hx, hT.ev hy, oBin_sub, up, h]
theorem o_mul (hx : av L x = some (.int k a)) (hy : av L y = some (.int k b)) (h : k.wrap (a * b) = r) : Op P cf L H (.bin .mul t lit x y) (.int k r) H := fun T hT => by simp only [opRun, hT.ev hx, hT.ev hy, oBin_mul, up, h]
theorem o_rem (hx : av L x = some (.int k a)) (hy : av L y = some (.int k b)) (h0 : b ≠ 0) (h : a.tmod b = r) : Op P cf L H (.bin .rem t lit x y) (.int k r) H := fun T hT => by simp only [opRun, hT.ev hx, hT.ev hy, oBin_rem h0, up, h]
theorem o_quo (hx : av L x = some (.int k a)) (hy : av L y = some (.int k b)) (h0 : b ≠ 0) (h : k.wrap (a.tdiv b) = r) : Op P cf L H (.bin .quo t lit x y) (.int k r) H := fun T hT => by simp only [opRun, hT.ev hx, hT.ev hy, oBin_quo h0, up, h]
theorem o_xor (hx : av L x = some (.int k a)) (hy : av L y = some (.int k b)) (h : k.wrap ((BitVec.ofInt k.bits a ^^^ BitVec.ofInt k.bits b).toNat) = r) : Op P cf L H (.bin .xor t lit x y) (.int k r) H := fun T hT => by simp only [opRun, hT.ev hx, hT.ev hy, oBin_xor, up, h]
theorem o_eql (hx : av L x = some (.int k a)) (hy : av L y = some (.int k b)) (h : (a == b) = q) : Op P cf L H (.bin .eql t lit x y) (.bool q) H := fun T hT => by simp only [opRun, hT.ev hx, hT.ev hy, oBin_eql, up, h]
theorem o_neq (hx : av L x = some (.int k a)) (hy : av L y = some (.int k b)) (h : (a != b) = q) : Op P cf L H (.bin .neq t lit x y) (.bool q) H := fun T hT => by simp only [opRun, hT.ev hx, hT.ev hy, oBin_neq, up, h]
theorem o_lss (hx : av L x = some (.int k a)) (hy : av L y = some (.int k b)) (h : decide (a < b) = q) : Op P cf L H (.bin .lss t lit x y) (.bool q) H := fun T hT => by simp only [opRun, hT.ev hx, hT.ev hy, oBin_lss, up, h]
theorem o_leq (hx : av L x = some (.int k a)) (hy : av L y = some (.int k b)) (h : decide (a ≤ b) = q) : Op P cf L H (.bin .leq t lit x y) (.bool q) H := fun T hT => by simp only [opRun, hT.ev hx, hT.ev hy, oBin_leq, up, h]
theorem o_gtr (hx : av L x = some (.int k a)) (hy : av L y = some (.int k b)) (h : decide (b < a) = q) : Op P cf L H (.bin .gtr t lit x y) (.bool q) H := fun T hT => by simp only [opRun, hT.ev hx, hT.ev hy, oBin_gtr, up, h]
theorem o_geq (hx : av L x = some (.int k a)) (hy : av L y = some (.int k b)) (h : decide (b ≤ a) = q) : Op P cf L H (.bin .geq t lit x y) (.bool q) H := fun T hT => by simp only [opRun, hT.ev hx, hT.ev hy, oBin_geq, up, h]
theorem o_bin {op : BinOp} (hx : av L x = some u) (hy : av L y = some w) (h : oBin P op t lit u w = some v) : Op P cf L H (.bin op t lit x y) v H := fun T hT => by simp only [opRun, hT.ev hx, hT.ev hy, h, up]
theorem o_not (hx : av L x = some (.bool q)) : Op P cf L H (.un .not x) (.bool !q) H := fun T hT => by simp only [opRun, hT.ev hx, oUn, plainV, Op.unary, pr_pure, Option.bind_some, up]
theorem o_eqNil {κ : NilK} {neg : Bool} (hx : av L x = some u) (hy : av L y = some w) (h : oEqNil κ neg u w = some v) : Op P cf L H (.eqNil κ neg x y) v H := fun T hT => by simp only [opRun, hT.ev hx, hT.ev hy, h, up]
theorem o_convI {k' : IntKind} (hx : av L x = some (.int k' a)) (h : k.wrap a = r) : Op P cf L H (.convI k x) (.int k r) H := fun T hT => by
  simp only [opRun, hT.ev hx, oConvI, up]
  subst h
  unfold convN
  split
  · rename_i m
    split
    · rename_i hm
      rw [wrap_nat k m (Nat.le_of_ble_eq_true hm)]
    · rfl
  · rfl
theorem o_iface {t : TypeId} (hx : av L x = some v) : Op P cf L H (.iface t x) (.iface t v) H := fun T hT => by simp only [opRun, hT.ev hx]
theorem add_none (b o n : Nat) : (⟨b, o, none⟩ : Addr).add n = ⟨b, o + n, none⟩ := by
  unfold Addr.add
  split
  · rename_i h; simp only [h, Nat.add_zero]
  · rfl
theorem o_fieldAddr {off b o : Nat} (hx : av L x = some (.pointer (some ⟨b, o, none⟩))) : Op P cf L H (.fieldAddr off x) (.pointer (some ⟨b, o + off, none⟩)) H := fun T hT => by simp only [opRun, hT.ev hx, oFieldAddr, up, add_none]
theorem o_field {n : Option Nat} {off : Nat} {cs : Array Value} (hx : av L x = some (.agg cs)) (h : partOf n off cs.toList = some v) : Op P cf L H (.field n off x) v H := fun T hT => by simp only [opRun, hT.ev hx, oField, h, up]
theorem o_extract {vs : Array Value} {i : Nat} (hx : av L x = some (.tuple vs)) (h : vs.toList[i]? = some v) : Op P cf L H (.extract x i) v H := fun T hT => by simp only [opRun, hT.ev hx, oExtract, h, up]
theorem o_assertT {zero : Value} {ok : Bool} (hx : av L x = some u) (h : oAssertT t zero ok u = some v) : Op P cf L H (.assertT t zero ok x) v H := fun T hT => by simp only [opRun, hT.ev hx, h, up]
theorem o_nilCheck {p : Addr} (hx : av L x = some (.pointer (some p))) : Op P cf L H (.nilCheck x) (.pointer (some p)) H := fun T hT => by simp only [opRun, hT.ev hx, oNilCheck, up]
theorem o_indexAddr {size b off len cap i : Nat} {κ : IntKind} (hx : av L x = some (.slice (some ⟨b, off, none⟩) len cap)) (hy : av L y = some (.int κ (i : Int))) (hi : i < len) : Op P cf L H (.indexAddr size x y) (.pointer (some ⟨b, off + i * size, none⟩)) H := fun T hT => by
  have : Nat.blt i len = true := Nat.ble_eq_true_of_le hi
  simp only [opRun, hT.ev hx, hT.ev hy, natOf, ← Tr_nat, oIndexAddr, this, up, add_none]
/-- Parts of an aggregate. -/
def fillA (L : Lv) : List (Nat × Nat × Arg) → Option (List (Nat × Nat × Value))
  | [] => some []
  | (o, n, x) :: l => (av L x).bind fun v => (fillA L l).map ((o, n, v) :: ·)
theorem fill_eq {T : Tr Value} (hT : TL T L) : ∀ (l : List (Nat × Nat × Arg)) (cs : List Value) {ps : List (Nat × Nat × Value)}, fillA L l = some ps → fillL T cs l = fillV cs ps
  | [], cs, ps, h => by simp only [fillA, Option.some.injEq] at h; subst h; rfl
  | (o, n, x) :: l, cs, ps, h => by
    simp only [fillA, Option.bind_eq_some_iff, Option.map_eq_some_iff] at h
    obtain ⟨v, h1, qs, h2, rfl⟩ := h
    simp only [fillL, fillV, hT.ev h1]
    split
    · congr 1; funext cs; exact fill_eq hT l cs h2
    · rfl
theorem o_build {zs cs : List Value} {parts : List (Nat × Nat × Arg)} {ps : List (Nat × Nat × Value)} (h1 : fillA L parts = some ps) (h2 : fillV zs ps = some cs) : Op P cf L H (.build zs parts) (.agg ⟨cs⟩) H := fun T hT => by
  simp only [opRun, oBuild, fill_eq hT parts zs h1, h2, Option.map_some, up]
theorem o_buildSlice {e len : Nat} {zs cs : List Value} {parts : List (Nat × Nat × Arg)} {ps : List (Nat × Nat × Value)} (h1 : fillA L parts = some ps) (h2 : fillV zs ps = some cs) :
    Op P cf L H (.buildSlice e len zs parts) (.slice (some ⟨H.next, 0, none⟩) len len) (H.new (.cells true e cs)) := fun T hT => by
  simp only [opRun, oBuildSlice, fill_eq hT parts zs h1, h2, Option.bind_some, freshRow]
theorem o_new {e : TypeId} {zs : List Value} : Op P cf L H (.new e zs) (.pointer (some ⟨H.next, 0, none⟩)) (H.new (.cells true e zs)) := fun T hT => by simp only [opRun, fresh]
theorem o_box {e : TypeId} (hx : av L x = some v) : Op P cf L H (.box e x) (.pointer (some ⟨H.next, 0, none⟩)) (H.new (.cells true e (cellL v))) := fun T hT => by simp only [opRun, hT.ev hx, fresh]
theorem o_load {n : Option Nat} {b off : Nat} {own : Bool} {e : TypeId} {cs : List Value} (hx : av L x = some (.pointer (some ⟨b, off, none⟩))) (hb : H.get b = some (.cells own e cs)) (hv : partOf n off cs = some v) : Op P cf L H (.load n x) v H := fun T hT => by
  simp only [opRun, hT.ev hx, oLoad, hb, hv, up]
theorem o_store {n b off : Nat} {e : TypeId} {cs cs' : List Value} (hx : av L x = some (.pointer (some ⟨b, off, none⟩))) (hy : av L y = some v) (hb : H.get b = some (.cells true e cs)) (hl : (cellL v).length = n) (hs : (cellL v).all scalar = true) (hv : splice cs off (cellL v) = some cs') :
    Op P cf L H (.store n x y) undef (H.upd b (.cells true e cs')) := fun T hT => by
  have : Nat.beq (cellL v).length n = true := by rw [hl]; exact Nat.beq_refl n
  simp only [opRun, hT.ev hx, hT.ev hy, oStore, hb, this, hs, hv, Option.map_some]
theorem o_lenStr {s : ByteArray} (hx : av L x = some (.string s)) : Op P cf L H (.len .str x) (.int .i64 (s.size : Int)) H := fun T hT => by simp only [opRun, hT.ev hx, oLen]; rfl
theorem o_lenRow {p : Option Addr} {n c : Nat} (hx : av L x = some (.slice p n c)) : Op P cf L H (.len .row x) (.int .i64 (n : Int)) H := fun T hT => by simp only [opRun, hT.ev hx, oLen]; rfl
theorem o_lenMap {b clock : Nat} {es : List MapEntry} (hx : av L x = some (.map (some b))) (hb : H.get b = some (.map es clock)) : Op P cf L H (.len .map x) (.int .i64 (es.length : Int)) H := fun T hT => by simp only [opRun, hT.ev hx, oLen, hb]; rfl
theorem o_makeMap : Op P cf L H .makeMap (.map (some H.next)) (H.new (.map [] 0)) := fun T hT => by simp only [opRun]
theorem o_makeSlice {e size bytes l c : Nat} {zs : List Value} {κ κ' : IntKind} (hx : av L x = some (.int κ (l : Int))) (hy : av L y = some (.int κ' (c : Int))) (hl : l ≤ c) (hb : c * bytes ≤ room) (hc : c ≤ room) :
    Op P cf L H (.makeSlice e size bytes zs x y) (.slice (some ⟨H.next, 0, none⟩) l c) (H.new (.cells true e (List.replicate c zs).flatten)) := fun T hT => by
  simp only [opRun, hT.ev hx, hT.ev hy, natOf, ← Tr_nat, oMakeSlice, Nat.ble_eq_true_of_le hl, Nat.ble_eq_true_of_le hb, Nat.ble_eq_true_of_le hc, freshRow]
theorem o_call {f : Nat} {args : List Arg} {vs : List Value} {H' : Heap} (ha : avs L args = some vs) (h : cf f vs H = some (v, H')) : Op P cf L H (.call (.c (.func (.func f) #[] #[])) args) v H' := fun T hT => by
  have h1 := hT.evs ha
  simp only [opRun, oCall, h1, show (Arg.c (.func (.func f) #[] #[])).ev T = .func (.func f) #[] #[] from rfl]
  simpa using h
theorem o_lookup {κ : KeyK} {e : TypeId} {zero : Value} {ok : Bool} {H' : Heap} (hx : av L x = some u) (hy : av L y = some w) (h : oLookup P H κ e zero ok u w = some (v, H')) : Op P cf L H (.lookup κ e zero ok x y) v H' := fun T hT => by simp only [opRun, hT.ev hx, hT.ev hy, h]
theorem o_mapSet {κ : KeyK} {e : TypeId} {H' : Heap} {s : Value} (hx : av L x = some u) (hy : av L y = some w) (hz : av L z = some s) (h : oMapSet P H κ e u w s = some (v, H')) : Op P cf L H (.mapSet κ e x y z) v H' := fun T hT => by simp only [opRun, hT.ev hx, hT.ev hy, hT.ev hz, h]
theorem o_append {e size bytes : Nat} {zs : List Value} {zeros : Bool} {H' : Heap} {n : Nat} {new : List Value} (hx : av L x = some u) (hy : av L y = some w) (hn : ∀ T, newCells T H size zs zeros w = some (n, new)) (hs : new.all scalar = true) (h : appendTo H e size bytes u n new = some (v, H')) :
    Op P cf L H (.append e size bytes zs zeros x y) v H' := fun T hT => by
  simp only [opRun, hT.ev hx, hT.ev hy, oAppend, hn T, Option.bind_some, hs, h]
end
end
end Go.Proofs.Ytffokmamcempgaa.AM
