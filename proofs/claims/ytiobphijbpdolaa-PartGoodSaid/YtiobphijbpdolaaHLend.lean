/- Contracts of law 0's LendKeys and KeptKeys: a copy of cuts with three marked places behind it. -/
import Derived.Test.YtiobphijbpdolaaPx0
import Derived.Test.YtiobphijbpdolaaPut
import Derived.IntWalk
import Derived.Laws.AppendOwn
import Derived.Laws.MakeOwn
import Derived.Deep.WholeRow
namespace Go.Proofs.Ytiobphijbpdolaa.P
open Go.RowKit Go.Proofs.YtiobphijbpdolaaW.PrintWords Go.Proofs.YtiobphijbpdolaaW.PrintLast Go.Proofs.YtiobphijbpdolaaW.PrintMore
set_option linter.unusedVariables false
set_option linter.unusedSimpArgs false

def keyCells (l : List S24) : List Value := l.flatMap fun x => [.int .i64 x.f0, .string x.f1]
theorem keyCells_length (l : List S24) : (keyCells l).length = 2 * l.length := by
  induction l with
  | nil => rfl
  | cons x l ih => simp only [keyCells, List.flatMap_cons, List.length_append, List.length_cons, List.length_nil] at ih ⊢; omega
theorem keyCells_at (l : List S24) (j : Nat) (h : j < l.length) : (keyCells l)[2 * j]? = some (.int .i64 l[j].f0) ∧ (keyCells l)[2 * j + 1]? = some (.string l[j].f1) := by
  induction l generalizing j with
  | nil => simp at h
  | cons x l ih =>
    cases j with
    | zero => exact ⟨rfl, rfl⟩
    | succ j =>
      have := ih j (by simpa using h)
      have e : keyCells (x :: l) = .int .i64 x.f0 :: .string x.f1 :: keyCells l := rfl
      rw [e]
      constructor
      · rw [show 2 * (j + 1) = 2 * j + 1 + 1 by omega]; simpa using this.1
      · rw [show 2 * (j + 1) + 1 = 2 * j + 1 + 1 + 1 by omega]; simpa using this.2
theorem add_one (ad : Addr) (n : Nat) : ad.add (n + 1) = ⟨(ad.add n).block, (ad.add n).off + 1, none⟩ := by
  unfold Addr.add
  rw [if_neg (by omega)]
  by_cases h : n = 0
  · subst h; simp
  · rw [if_neg h]; simp [Nat.add_assoc]
/-- The cells that cuts are read from. -/
theorem keys_inner {w : World} {ad : Addr} {l : List S24} (h : Kd.C k24 w (some ad) l.length l) : ∀ j u, (keyCells l)[j]? = some u → w.cell? (ad.add j) = some u := by
  intro j u hu
  have hlt : j < (keyCells l).length := (List.getElem?_eq_some_iff.1 hu).1
  rw [keyCells_length] at hlt
  obtain ⟨q, r, hq, hr⟩ : ∃ q r, j = 2 * q + r ∧ r < 2 := ⟨j / 2, j % 2, by omega, by omega⟩
  obtain ⟨ad2, e1, h0, h1⟩ := at_T24 h (q : Int) (by omega) (by omega)
  cases e1
  have hrd : rd_T24 l (q : Int) = l[q]'(by omega) := by simp [rd_T24, show q < l.length by omega]
  rw [hrd] at h0 h1
  have hc := keyCells_at l q (by omega)
  simp only [Int.toNat_natCast] at h0 h1
  rcases (show r = 0 ∨ r = 1 by omega) with rfl | rfl
  · rw [hq, Nat.add_zero] at hu ⊢
    rw [hc.1] at hu
    cases hu
    rw [Nat.mul_comm]
    exact h0
  · rw [hq] at hu ⊢
    rw [hc.2] at hu
    cases hu
    rw [Nat.mul_comm]
    rw [add_one]
    exact h1

def mark : S24 := ⟨-7, ⟨#[]⟩⟩
/-- A block that holds cuts and nothing else. -/
def KeyBlk (w : World) (g : Nat) (l : List S24) : Prop := w.heap[g]? = some (.cells (keyCells l).toArray 24 (0, 0))
section
variable {P : Program} {ops : Array Oper} {rest : List Oper} {o : Oper} {a : Act} {Q : Exit → Act → World → Prop}
theorem make_room_event (W : World) (hgd : o.guard = none) (t e : TypeId) (x y : Operand) (ho : o.op = .makeSlice t x y) (m : Nat) (hx : a.eval x = .int .i64 0) (hy : a.eval y = .int .i64 (m : Int)) {i0 : TypeInfo} {z : Value} (ht : P.underlying t = some (.slice e)) (hi : P.info? e = some i0) (hz : i0.zero = some z) (hb : (i0.bytes : Int) * (m : Int) ≤ 281474976710656) (hm : m ≤ 1000000)
    (h : wpList P ops Q rest (a.put o.dst (.slice (some ⟨W.heap.size, 0, none⟩) 0 m)) (W.alloc (.cells (madeCells z.cells (m * i0.size)) e))) : wpList P ops Q (o :: rest) a W := by
  have hr := run_make (P := P) W t e i0 z ht hi hz .i64 .i64 0 (m : Int) (Int.le_refl _) (by omega) hb (by omega)
  refine Kd.event_run hgd (w1 := W.alloc (.cells (madeCells z.cells (m * i0.size)) e)) (v := .slice (some ⟨W.heap.size, 0, none⟩) 0 m) ?_ h
  simp only [Int.toNat_natCast, Int.toNat_zero] at hr
  simp [execOp, ho, hx, hy, hr]
theorem append_room_event (W : World) (hgd : o.guard = none) (t e : TypeId) (x y : Operand) (ho : o.op = .call { callee := .builtin .append, args := #[x, y], argTypes := #[t, t] }) {i0 : TypeInfo} (ht : P.underlying t = some (.slice e)) (hi : P.info? e = some i0)
    (g cap : Nat) (cur : Array Value) (hg : W.heap[g]? = some (.cells cur e (0, 0))) (ad : Addr) (m c : Nat) (news : List Value) (hl : news.length = m * i0.size) (hnews : ∀ j u, news[j]? = some u → W.cell? (ad.add j) = some u) (h1 : ∀ u ∈ news, u.oneCell' = true) (hroom : m ≤ cap) (hfit : news.length ≤ cur.size)
    (hx : a.eval x = .slice (some ⟨g, 0, none⟩) 0 cap) (hy : a.eval y = .slice (some ad) m c)
    (h : wpList P ops Q rest (a.put o.dst (.slice (some ⟨g, 0, none⟩) m cap)) (W.setRow g (news ++ cur.toList.drop news.length).toArray)) : wpList P ops Q (o :: rest) a W := by
  have hr := run_append_room (P := P) W t o.type e i0 ht hi g 0 cap cur hg ad m c news hl hnews h1 (by omega) (by omega)
  simp only [Nat.zero_mul, Nat.zero_add, List.take_zero, List.nil_append] at hr
  refine wpList_plain hgd fun K hK => ?_
  unfold Oper.wp execOp
  simp only [ho, resolve, invoke, builtin, Sem.run_bind, Sem.run_pure, Result.andThen_ok, List.map_toArray, List.map_cons, List.map_nil, hx, hy, hr]
  exact hK _ _ h
theorem append_none_event (W : World) (hgd : o.guard = none) (t e : TypeId) (x y : Operand) (ho : o.op = .call { callee := .builtin .append, args := #[x, y], argTypes := #[t, t] }) {i0 : TypeInfo} (ht : P.underlying t = some (.slice e)) (hi : P.info? e = some i0)
    (ad : Addr) (cap c m : Nat) (hm : m = 0) (hx : a.eval x = .slice (some ad) 0 cap) (hy : a.eval y = .slice none m c)
    (h : wpList P ops Q rest (a.put o.dst (.slice (some ad) m cap)) W) : wpList P ops Q (o :: rest) a W := by
  subst hm
  have hr : (Builtin.append_ #[t, t] o.type #[.slice (some ad) 0 cap, .slice none 0 c]).run P W = .ok (.slice (some ad) 0 cap) W := by
    simp [Builtin.append_, run_underlying ht, sizeOf, typeInfo, hi, Builtin.lenOf, Builtin.firstCells, loadCells, loadCellsFrom, storeCells]
  refine wpList_plain hgd fun K hK => ?_
  unfold Oper.wp execOp
  simp only [ho, resolve, invoke, builtin, Sem.run_bind, Sem.run_pure, Result.andThen_ok, List.map_toArray, List.map_cons, List.map_nil, hx, hy, hr]
  exact hK _ _ h
end
theorem keyCells_append (a b : List S24) : keyCells (a ++ b) = keyCells a ++ keyCells b := by simp [keyCells]
theorem keyCells_cons (x : S24) (l : List S24) : keyCells (x :: l) = .int .i64 x.f0 :: .string x.f1 :: keyCells l := rfl
theorem made_keys (m : Nat) : (madeCells #[.int .i64 0, .string ⟨#[]⟩] (m * 2)).toList = keyCells (List.replicate m z24) := by
  refine List.ext_getElem? fun j => ?_
  by_cases h : j < m * 2
  · obtain ⟨q, r, hq, hr⟩ : ∃ q r, j = 2 * q + r ∧ r < 2 := ⟨j / 2, j % 2, by omega, by omega⟩
    have hc := keyCells_at (List.replicate m z24) q (by rw [List.length_replicate]; omega)
    have hl : (madeCells #[.int .i64 0, .string ⟨#[]⟩] (m * 2)).toList[j]? = some ((#[.int .i64 0, .string ⟨#[]⟩] : Array Value)[j % 2]!) := by
      simp [madeCells, h]
    rw [hl]
    rcases (show r = 0 ∨ r = 1 by omega) with rfl | rfl
    · rw [hq, Nat.add_zero, hc.1, show 2 * q % 2 = 0 by omega]
      simp [z24]
    · rw [hq, hc.2, show (2 * q + 1) % 2 = 1 by omega]
      simp [z24]
  · rw [List.getElem?_eq_none (by simp [madeCells]; omega), List.getElem?_eq_none (by rw [keyCells_length, List.length_replicate]; omega)]
theorem set_key (a b : List S24) (x y : S24) : ((keyCells (a ++ x :: b)).toArray.setIfInBounds (2 * a.length) (.int .i64 y.f0)).setIfInBounds (2 * a.length + 1) (.string y.f1) = (keyCells (a ++ y :: b)).toArray := by
  simp only [List.setIfInBounds_toArray]
  congr 1
  rw [keyCells_append, keyCells_append, keyCells_cons, keyCells_cons]
  rw [List.set_append_right _ _ (by rw [keyCells_length]; omega), keyCells_length, show 2 * a.length - 2 * a.length = 0 by omega, List.set_cons_zero]
  rw [List.set_append_right _ _ (by rw [keyCells_length]; omega), keyCells_length, show 2 * a.length + 1 - 2 * a.length = 1 by omega]
  rfl
/-- The cut of a block's spare room. -/
theorem cut_room (t e : TypeId) (kl kh : IntKind) {P : Program} {i : TypeInfo} (ht : P.underlying t = some (.slice e)) (hi : P.info? e = some i) (size : Nat) (hsz : i.size = size) (A : Option Addr) (n c : Nat) (lo hi' : Int) (h0 : 0 ≤ lo) (h1 : lo ≤ hi') (h2 : hi' ≤ c) :
    ∀ W : World, (Instr.slice t (.slice A n c) (some (.int kl lo)) (some (.int kh hi')) none).run P W = .ok (.slice (if c = lo.toNat then A else A.map (·.add (lo.toNat * size))) (hi'.toNat - lo.toNat) (c - lo.toNat)) W := by
  intro W
  have hel : P.elem t = e := by simp [Program.elem, ht]
  have hu : P.underlying t = some (.slice (P.elem t)) := by rw [hel]; exact ht
  rw [run_slice_lh W t A n c hu kl kh lo hi' h0 h1 h2, hel]
  simp [sizeOf, typeInfo, hi, hsz, sliced, Result.andThen]

set_option maxHeartbeats 4000000 in
set_option maxRecDepth 100000 in
theorem lend_calls (A0 : Option Addr) (c0 : Nat) (l0 : List S24) (w : World) (hr0 : Kd.C k24 w A0 l0.length l0) (hc0 : l0.length ≤ c0) (hl : l0.length ≤ 1000) :
    Calls Try.prog 15 #[.slice A0 l0.length c0] w fun e w' => ∃ g n c, e = .returned (.slice (some ⟨g, 0, none⟩) n c) ∧ n = l0.length ∧ c = l0.length + 3 ∧ w.heap.size ≤ g ∧ KeyBlk w' g (l0 ++ [mark, mark, mark]) ∧ Below w.heap.size w w' := by
  have hu24 := Try.underlying24
  have HR0 := Aside0.mk hr0
  clear hr0
  obtain ⟨i0, hi0, hz0, hz1, hz2⟩ := info_parts info24
  obtain ⟨n, hn⟩ : ∃ n, n = l0.length := ⟨_, rfl⟩
  obtain ⟨c, hc⟩ : ∃ c, c = l0.length + 3 := ⟨_, rfl⟩
  have wc : IntKind.i64.wrap ((l0.length : Int) + 3) = (c : Int) := by rw [hc]; exact IntWalk.i64_in _ (by omega)
  have wcb : wrap64 ((l0.length : Int) + 3) = (c : Int) := by rw [← i64_w]; exact wc
  have HC := Aside0.mk hc
  clear hc hn
  have hz0' : i0.zero = some (.agg #[.int .i64 0, .string ⟨#[]⟩]) := hz0
  have HMK := Aside0.mk (made_keys c)
  have HSZ := Aside0.mk hz1
  have hA : (∃ ad, A0 = some ad) ∨ (A0 = none ∧ l0 = []) := by
    cases A0 with
    | some ad => exact Or.inl ⟨ad, rfl⟩
    | none =>
      refine Or.inr ⟨rfl, ?_⟩
      rcases Nat.eq_zero_or_pos l0.length with h | h
      · exact List.length_eq_zero_iff.1 h
      · obtain ⟨ad, e, _⟩ := HR0.out.2.2 h
        cases e
  have hcut := cut_room (P := Try.prog) 22 24 .i64 .i64 Try.underlying22 hi0 2 hz1 (some ⟨w.heap.size, 0, none⟩) l0.length c (l0.length : Int) (c : Int) (by omega) (by have := HC.out; omega) (by omega)
  have hpa : (if c = l0.length then (some ⟨w.heap.size, 0, none⟩ : Option Addr) else (some ⟨w.heap.size, 0, none⟩ : Option Addr).map (·.add (l0.length * 2))) = some ⟨w.heap.size, l0.length * 2, none⟩ := by
    rw [if_neg (by have := HC.out; omega)]
    simp only [Option.map_some, Addr.add]
    by_cases h : l0.length * 2 = 0
    · rw [if_pos h, h]
    · rw [if_neg h, Nat.zero_add]
  simp only [Int.toNat_natCast] at hcut
  rw [hpa, show c - l0.length = 3 by have := HC.out; omega] at hcut
  clear hpa
  obtain ⟨g, hg⟩ : ∃ g, g = w.heap.size := ⟨_, rfl⟩
  rw [← hg] at hcut
  have HG := Aside0.mk hg
  rcases hA with ⟨ad, rfl⟩ | ⟨rfl, hl0⟩
  case' inl =>
    go_enter Try.func15, Try.ntmps15
    go_upto_region 3 with (first | ((with_reducible refine gate_dst (N := 9) rfl ?_); refine make_room_event _ rfl 22 24 _ _ rfl c rfl rfl Try.underlying22 hi0 hz0 (by rw [hz2]; have := HC.out; omega) (by have := HC.out; omega) ?_) | (at_builtin; refine append_room_event _ rfl 22 24 _ _ rfl Try.underlying22 hi0 w.heap.size c _ (heap_alloc_new w _) ad l0.length c0 (keyCells l0) (by rw [keyCells_length, HSZ.out, Nat.mul_comm]) (keys_inner (Kd.C_below HR0.out (below_alloc (Below.refl _ _) _))) (by intro u hu; simp only [keyCells, List.mem_flatMap] at hu; obtain ⟨x, _, hx⟩ := hu; simp at hx; rcases hx with rfl | rfl <;> rfl) (by have := HC.out; omega) (by rw [keyCells_length]; simp [madeCells]; have := HC.out; omega) rfl rfl ?_))
    have hw2 : (w.alloc (.cells (madeCells #[.int .i64 0, .string ⟨#[]⟩] (c * 2)) 24)).setRow w.heap.size (keyCells l0 ++ (madeCells #[.int .i64 0, .string ⟨#[]⟩] (c * 2)).toList.drop (keyCells l0).length).toArray = w.alloc (.cells (keyCells (l0 ++ List.replicate 3 z24)).toArray 24) := by
      rw [World.setRow_alloc_new, HMK.out, keyCells_length, keyCells_append]
      congr 3
      have e : List.replicate c z24 = List.replicate l0.length z24 ++ List.replicate 3 z24 := by rw [HC.out, List.replicate_append_replicate]
      rw [e, keyCells_append, List.drop_left' (by rw [keyCells_length, List.length_replicate])]
    rw [hw2]
    clear hw2
  case' inr =>
    have HL0 := Aside0.mk hl0
    clear hl0
    go_enter Try.func15, Try.ntmps15
    go_upto_region 3 with (first | ((with_reducible refine gate_dst (N := 9) rfl ?_); refine make_room_event _ rfl 22 24 _ _ rfl c rfl rfl Try.underlying22 hi0 hz0 (by rw [hz2]; have := HC.out; omega) (by have := HC.out; omega) ?_) | (at_builtin; refine append_none_event _ rfl 22 24 _ _ rfl Try.underlying22 hi0 ⟨w.heap.size, 0, none⟩ c c0 l0.length (by rw [HL0.out]; rfl) rfl rfl ?_))
    have hw2 : w.alloc (.cells (madeCells #[.int .i64 0, .string ⟨#[]⟩] (c * 2)) 24) = w.alloc (.cells (keyCells (l0 ++ List.replicate 3 z24)).toArray 24) := by
      congr 2
      have h3 : c = 3 := by rw [HC.out, HL0.out]; rfl
      rw [HL0.out, List.nil_append, ← h3, ← HMK.out]
    rw [hw2]
    clear hw2
  all_goals
    rw [← HG.out]
    obtain ⟨w2, hw⟩ : ∃ W, W = w.alloc (.cells (keyCells (l0 ++ List.replicate 3 z24)).toArray 24) := ⟨_, rfl⟩
    rw [← hw]
    have HK := Aside0.mk (show KeyBlk w2 g (l0 ++ [] ++ List.replicate 3 z24) by rw [hw, hg, List.append_nil]; exact heap_alloc_new _ _)
    have HB := Aside0.mk (show Below w.heap.size w w2 by rw [hw]; exact below_alloc (Below.refl _ _) _)
    have HGB := Aside0.mk (show w.heap.size ≤ g by omega)
    clear hw hg
    go_wp2
    go_loopw [5] (fun v5 w3 => ∃ (a b : List S24), v5 = .int .i64 (a.length : Int) ∧ Aside0 (a = List.replicate a.length mark) ∧ Aside0 (a.length + b.length = 3) ∧ Aside0 (KeyBlk w3 g (l0 ++ a ++ b)) ∧ Aside0 (Below w.heap.size w w3)) (fun v5 _ => 3 - (intOf v5).toNat)
    case atStart => exact ⟨[], List.replicate 3 z24, rfl, ⟨rfl⟩, ⟨rfl⟩, HK, HB⟩
    case round =>
      clear HK HB
      obtain ⟨a, b, rfl, HA, HAB, HK, HB⟩ := hrel
      by_cases hlt : a.length < 3
      · cases b with
        | nil => exact absurd HAB.out (by simp; omega)
        | cons x b =>
        have hk := HK.out
        unfold KeyBlk at hk
        have hlen : (l0 ++ a).length = l0.length + a.length := List.length_append
        have hxx : (l0 ++ a ++ x :: b)[l0.length + a.length]'(by simp) = x := by
          rw [List.getElem_append_right (by simp)]
          simp
        have hc := keyCells_at (l0 ++ a ++ x :: b) (l0.length + a.length) (by simp)
        rw [hxx] at hc
        have f0 := blk_frozen hk (l0.length * 2 + a.length * 2)
        have f1 := blk_frozen hk (l0.length * 2 + a.length * 2 + 1)
        have c0' : wr.cell? ⟨g, l0.length * 2 + a.length * 2, none⟩ = some (.int .i64 x.f0) := by
          rw [blk_cell hk, List.getElem?_toArray, show l0.length * 2 + a.length * 2 = 2 * (l0.length + a.length) by omega]
          exact hc.1
        have c1' : wr.cell? ⟨g, l0.length * 2 + a.length * 2 + 1, none⟩ = some (.string x.f1) := by
          rw [blk_cell hk, List.getElem?_toArray, show l0.length * 2 + a.length * 2 + 1 = 2 * (l0.length + a.length) + 1 by omega]
          exact hc.2
        obtain ⟨i, hi⟩ : ∃ i : Int, i = (a.length : Int) := ⟨_, rfl⟩
        have HI := Aside0.mk hi
        rw [← hi]
        have d1 : decide (i < 3) = true := decide_eq_true (by omega)
        have p1 : (0 ≤ i) = True := eq_true (by omega)
        have p2 : (i < 3) = True := eq_true (by omega)
        have hin : i.toNat = a.length := by omega
        have wi : IntKind.i64.wrap (i + 1) = i + 1 := IntWalk.i64_in _ (by omega)
        have wib : wrap64 (i + 1) = i + 1 := by rw [← i64_w]; exact wi
        clear hi hc hk hlt
        have HN := Aside0.mk (show KeyBlk ((wr.setCell ⟨g, l0.length * 2 + a.length * 2, none⟩ (.int .i64 (-7))).setCell ⟨g, l0.length * 2 + a.length * 2 + 1, none⟩ (.string ⟨#[]⟩)) g (l0 ++ (a ++ [mark]) ++ b) by
          have h2 := blk_set (blk_set HK.out (l0.length * 2 + a.length * 2) (.int .i64 (-7))) (l0.length * 2 + a.length * 2 + 1) (.string ⟨#[]⟩)
          have h3 := set_key (l0 ++ a) b x mark
          rw [List.length_append, show 2 * (l0.length + a.length) = l0.length * 2 + a.length * 2 by omega] at h3
          unfold KeyBlk
          rw [h2, show l0 ++ (a ++ [mark]) ++ b = l0 ++ a ++ mark :: b by simp, ← h3]
          rfl)
        go_wp2
        go_roundw
        case rel => exact ⟨a ++ [mark], b, by first | (simp only [List.length_append, List.length_singleton, HI.out]; first | rfl | go_num) | (rw [HI.out]; simp), ⟨by rw [List.length_append, List.length_singleton, List.replicate_succ', ← HA.out]⟩, ⟨by have := HAB.out; simp at this ⊢; omega⟩, HN, ⟨below_set (below_set HB.out HGB.out) HGB.out⟩⟩
        case measure => have := HI.out; have h3 := of_eq_true p2; have h4 := of_eq_true p1; simp [intOf]; omega
      · have hb : b = [] := by
          cases b with
          | nil => rfl
          | cons x b => exact absurd HAB.out (by simp; omega)
        have ha : a = [mark, mark, mark] := by
          have h3 : a.length = 3 := by have := HAB.out; rw [hb] at this; simpa using this
          rw [HA.out, h3]
          rfl
        subst hb ha
        have HK2 := Aside0.mk (show KeyBlk wr g (l0 ++ [mark, mark, mark]) by have := HK.out; rwa [List.append_nil] at this)
        have d1 : decide (((3 : Nat) : Int) < 3) = false := by decide
        go_wp2
        go_ret
        exact ⟨g, _, _, rfl, rfl, HC.out, HGB.out, HK2.out, HB.out⟩
end Go.Proofs.Ytiobphijbpdolaa.P
