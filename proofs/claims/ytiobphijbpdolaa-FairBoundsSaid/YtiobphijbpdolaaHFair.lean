/- Contracts of fair's functions over maps: ways (the numbers of what was sent between the coordinator and one of the good ones, as a map). -/
import Derived.Test.YtiobphijbpdolaaQFair
import Derived.Maps.OwnSet
import Derived.WalkKit
import Derived.IntWalk
namespace Go.Proofs.Ytiobphijbpdolaa.P
open Go.RowKit Go.Proofs.YtiobphijbpdolaaW.PrintWords Go.Proofs.YtiobphijbpdolaaW.PrintLast Go.Proofs.YtiobphijbpdolaaW.PrintMore Go.Maps
set_option linter.unusedVariables false
set_option linter.unusedSimpArgs false

theorem mlaw : Keyed Try.prog 3 := int_keyed Try.underlying3
theorem mzero (w : World) : (zeroValue 4).run Try.prog w = .ok (.bool false) w := by kernel_rfl
/-- Block b is a map that has just these keys, each with true; so many entries at most. -/
def MapIs (w : World) (b n : Nat) (ids : List Int) : Prop := w.ownsMap Try.prog 3 (plainElem (H := Unit) Try.prog 4) b n (idMap ids)
def wayL (recs : List S71) (good : List Int) : List Int := good.flatMap fun g => bet recs 0 g

theorem MapIs.step {w w' : World} {b n : Nat} {ids : List Int} (h : MapIs w b n ids) (hb : w'.heap[b]? = w.heap[b]?) : MapIs w' b n ids := by
  obtain ⟨es, cl, h1, h2⟩ := h
  exact ⟨es, cl, by rw [hb]; exact h1, h2⟩
theorem MapIs.lt {w : World} {b n : Nat} {ids : List Int} (h : MapIs w b n ids) : b < w.heap.size := by
  obtain ⟨es, cl, h1, h2⟩ := h
  exact (Array.getElem?_eq_some_iff.1 h1).1
theorem MapIs.below {w w' : World} {b n : Nat} {ids : List Int} (h : MapIs w b n ids) (hb : Below w.heap.size w w') : MapIs w' b n ids := h.step (hb.block b h.lt)
theorem wayL_length (recs : List S71) (h : RecsIn recs) : ∀ good : List Int, (wayL recs good).length ≤ 100000 * good.length
  | [] => by simp [wayL]
  | g :: good => by
    have ih := wayL_length recs h good
    have h1 := bet_length recs 0 g h.2
    have h2 := h.1
    unfold wayL at ih ⊢
    rw [List.flatMap_cons, List.length_append, List.length_cons]
    omega
theorem bet_mem {recs : List S71} {a b x : Int} (h : x ∈ bet recs a b) : ∃ r ∈ recs, ∃ s ∈ r.f3, s.f0 = x := by
  unfold bet betS at h
  rw [List.mem_flatMap] at h
  obtain ⟨r, hr, h⟩ := h
  rw [List.mem_map] at h
  obtain ⟨s, hs, e⟩ := h
  exact ⟨r, hr, s, (List.mem_filter.1 hs).1, e⟩

set_option maxHeartbeats 4000000 in
set_option maxRecDepth 100000 in
theorem ways_calls (A0 : Option Addr) (c0 : Nat) (l0 : List S71) (A1 : Option Addr) (c1 : Nat) (l1 : List Int) (w : World) (hr0 : Kd.C k71 w A0 l0.length l0) (hc0 : l0.length ≤ c0) (hr1 : Kd.C (Kd.int .i64) w A1 l1.length l1) (hc1 : l1.length ≤ c1) (h0 : RecsIn l0) (h1 : l1.length ≤ 100) (hz : ∀ r ∈ l0, ∀ s ∈ r.f3, (Lit.int .i64 s.f0).wf = true) :
    Calls Try.prog 64 #[.slice A0 l0.length c0, .slice A1 l1.length c1] w fun e w' => ∃ b : Nat, e = .returned (.map (some b)) ∧ (∃ n, MapIs w' b n (wayL l0 l1)) ∧ w.heap.size ≤ b ∧ b < w'.heap.size ∧ Below w.heap.size w w' := by
  have hmm := @run_makeMap Try.prog
  have HR0 := Aside0.mk hr0
  have HR1 := Aside0.mk hr1
  clear hr0 hr1
  go_enter Try.func64, Try.ntmps64
  go_wp2
  go_loopw [13] (fun v13 w' => ∃ (i : Int) (n : Nat), Aside0 (0 ≤ i) ∧ Aside0 (i ≤ (l1.length : Int)) ∧ v13 = .int .i64 i ∧ Aside0 ((n : Int) ≤ 100000 * i) ∧ Aside0 (MapIs w' w.heap.size n (wayL l0 (l1.take i.toNat))) ∧ Aside0 (Below w.heap.size w w')) (fun v13 _ => l1.length - (intOf v13).toNat)
  case atStart => exact ⟨0, 0, ⟨Int.le_refl _⟩, ⟨by omega⟩, rfl, ⟨by omega⟩, ⟨World.ownsMap_made _ _ _ _⟩, ⟨(Below.refl _ _).alloc (Nat.le_refl _) _⟩⟩
  case round =>
    obtain ⟨i, n, HI0, HI1, rfl, HN, HM, HB⟩ := hrel
    by_cases hil : i < (l1.length : Int)
    · have d1 : decide (i < (l1.length : Int)) = true := decide_eq_true hil
      have hi0 := HI0.out
      obtain ⟨ad, e1, hx⟩ := Kd.at_int (Kd.C_below HR1.out HB.out) i hi0 hil
      subst e1
      have p1 : (0 ≤ i) = True := eq_true hi0
      have p2 : (i < (l1.length : Int)) = True := eq_true hil
      have HG := Aside0.mk (show wayL l0 (l1.take (i + 1).toNat) = wayL l0 (l1.take i.toNat) ++ bet l0 0 (rd l1 i) from by
        rw [show (i + 1).toNat = i.toNat + 1 by omega, List.take_succ_eq_append_getElem (by omega)]
        unfold wayL
        rw [List.flatMap_append]
        have : rd l1 i = l1[i.toNat]'(by omega) := by simp [rd, show i.toNat < l1.length by omega]
        rw [this]
        simp)
      generalize rd l1 i = g at HG hx
      obtain ⟨kB, hB⟩ := (between_is l0 h0 0 g).rounds
      have HBT := Aside0.mk hB
      have hbl := bet_length l0 0 g h0.2
      have h1000 := h0.1
      have HW := Aside0.mk (fun x (hx : x ∈ bet l0 0 g) => (show (Lit.int .i64 x).wf = true from by
        obtain ⟨r, hr, s, hs, e⟩ := bet_mem hx
        rw [← e]
        exact hz r hr s hs))
      clear hB
      generalize bet l0 0 g = ids at HG HBT HW hbl
      generalize wayL l0 (l1.take i.toNat) = old at HG HM
      go_wp2_with ((go_at_call 75; (with_reducible refine (trace_Between.calls kB A0 c0 l0 0 g _ _ (Kd.C_below HR0.out (by repeat (first | (with_reducible exact HB.out) | apply below_alloc | apply pw_below_drewN | apply below_drew | (refine below_set ?_ (by simp))))) hc0 HBT.out).mono ?_); rintro e w' ⟨v9, rfl, hv, hb⟩; obtain ⟨A9, c9, e9, hc9, hC9⟩ := Kd.R_reads hv; subst e9; have hlt := below_size HB.out; have hml := HM.out.lt; have HV := Aside0.mk (Kd.R_mono (Kd.R_bound hv) (ok' := fun k => w.heap.size < k) (fun k hk => Nat.lt_of_lt_of_le hml hk.2.1)); have n1_ := Aside0.mk (HM.out.below hb); have n0_ := Aside0.mk (below_step (by repeat (first | (with_reducible exact HB.out) | apply below_alloc | apply pw_below_drewN | apply below_drew | (refine below_set ?_ (by simp)))) hb); clear HB HM hb hv hC9 hlt hml; have HB := n0_; have HM := n1_; clear n0_ n1_))
      have w0 : IntKind.i64.wrap (i + 1) = i + 1 := IntWalk.i64_in _ (by omega)
      have w0b : wrap64 (i + 1) = i + 1 := by rw [← i64_w]; exact w0
      obtain ⟨bb, hbb⟩ : ∃ bb : Nat, bb = w'.heap.size := ⟨_, rfl⟩
      clear hbb
      go_loopw [21] (fun v21 w3 => ∃ (m : Int), Aside0 (0 ≤ m) ∧ Aside0 (m ≤ (ids.length : Int)) ∧ v21 = .int .i64 m ∧ Aside0 (MapIs w3 w.heap.size (n + m.toNat) (old ++ ids.take m.toNat)) ∧ Aside0 (Below w.heap.size w w3) ∧ Aside0 (Kd.R (Kd.int .i64) 3 w3 _ (fun k => w.heap.size < k) (.slice A9 ids.length c9) ids)) (fun v21 _ => ids.length - (intOf v21).toNat)
      case atStart => exact ⟨0, ⟨Int.le_refl _⟩, ⟨by omega⟩, rfl, ⟨by simpa using HM.out⟩, ⟨(by repeat (first | (with_reducible exact HB.out) | apply below_alloc | apply pw_below_drewN | apply below_drew | (refine below_set ?_ (by simp))))⟩, ⟨HV.out⟩⟩
      case round =>
        clear HB HM HV
        obtain ⟨m, HM0, HM1, rfl, HM, HB, HV⟩ := hrel
        by_cases hml : m < (ids.length : Int)
        · have d2 : decide (m < (ids.length : Int)) = true := decide_eq_true hml
          have hm0 := HM0.out
          obtain ⟨_, hcc, hCC⟩ := Kd.R_reads' HV.out
          obtain ⟨ad2, e1, hx2⟩ := Kd.at_int hCC m hm0 hml
          subst e1
          have p3 : (0 ≤ m) = True := eq_true hm0
          have p4 : (m < (ids.length : Int)) = True := eq_true hml
          have hmem : rd ids m = ids[m.toNat]'(by omega) := by simp [rd, show m.toNat < ids.length by omega]
          have hwf : (Lit.int .i64 (rd ids m)).wf = true := by rw [hmem]; exact HW.out _ (List.getElem_mem _)
          have hkey : Go.keyOf Try.prog 3 (.int .i64 (rd ids m)) = some (.int .i64 (rd ids m)) := keyOf_int_mk Try.underlying3 hwf
          have HST := Aside0.mk (show old ++ ids.take (m + 1).toNat = (old ++ ids.take m.toNat) ++ [rd ids m] from by
            rw [show (m + 1).toNat = m.toNat + 1 by omega, List.take_succ_eq_append_getElem (by omega), hmem, List.append_assoc])
          have hnb := HN.out
          have hown := HM.out
          unfold MapIs at hown
          have w1 : IntKind.i64.wrap (m + 1) = m + 1 := IntWalk.i64_in _ (by omega)
          have w1b : wrap64 (m + 1) = m + 1 := by rw [← i64_w]; exact w1
          clear hCC hcc hmem hwf
          go_wp2_with (at_mapUpdate; refine wpList_mapUpdate_own _ rfl _ _ _ 90 rfl 3 4 mlaw Try.underlying90 _ w.heap.size (n + m.toNat) _ rfl hown (by unfold maxLen; omega) _ _ _ rfl rfl hkey _ [] (plainElem_bool Try.underlying4 true) ?_; intro w4 hown1 hgrow1)
          go_roundw
          case rel => exact ⟨m + 1, ⟨by omega⟩, ⟨by omega⟩, by first | rfl | go_num, ⟨by rw [HST.out, show n + (m + 1).toNat = n + m.toNat + 1 by omega]; unfold MapIs; rw [idMap_snoc]; exact hown1⟩, ⟨HB.out.grown hgrow1 HB.out.size (fun j hj => by cases hj; exact Nat.le_refl _)⟩, ⟨Kd.R_grown HV.out hgrow1 (fun k hk e => by cases e; exact absurd hk (Nat.lt_irrefl _))⟩⟩
          case measure => have := HM0.out; simp [intOf]; omega
        · have d2 : decide (m < (ids.length : Int)) = false := decide_eq_false hml
          have hme : m.toNat = ids.length := by have := HM0.out; have := HM1.out; omega
          have HME := Aside0.mk hme
          clear hme
          have hnb := HN.out
          go_wp2
          go_roundw
          case rel => exact ⟨i + 1, n + m.toNat, ⟨by omega⟩, ⟨by omega⟩, by first | rfl | go_num, ⟨by have := HME.out; omega⟩, ⟨by rw [HG.out]; have h := HM.out; rw [HME.out, List.take_length] at h; rw [HME.out]; exact h⟩, HB⟩
          case measure => have := HI0.out; simp [intOf]; omega
    · have d1 : decide (i < (l1.length : Int)) = false := decide_eq_false hil
      have he : l1.take i.toNat = l1 := List.take_of_length_le (by have := HI0.out; omega)
      have HE := Aside0.mk he
      clear he
      go_wp2
      go_ret
      exact ⟨w.heap.size, rfl, ⟨n, by have h := HM.out; rw [HE.out] at h; exact h⟩, Nat.le_refl _, HM.out.lt, HB.out⟩

/-! is a number one of the map's: the closure, and slices' search with it -/
def lostAt (ids : List Int) (l : List Int) : Bool := l.any fun x => ids.contains x
set_option maxRecDepth 100000 in
theorem look_calls (x : Int) (bw b n : Nat) (ids : List Int) (w : World) (hx : (Lit.int .i64 x).wf = true) (hm : MapIs w b n ids) (hv : w.cell? ⟨bw, 0, none⟩ = some (.map (some b))) :
    Calls Try.prog 73 #[.int .i64 x, .pointer (some ⟨bw, 0, none⟩)] w fun e w' => e = .returned (.bool (ids.contains x)) ∧ w' = w := by
  obtain ⟨c, hrun, hat⟩ := own_lookup_bool hm mlaw Try.underlying90 Try.underlying4 (mzero w) (keyOf_int_mk Try.underlying3 hx)
  have hc : c = ids.contains x := by
    rw [idMap_look] at hat
    exact (Lit.bool.inj (DataW.lit.inj hat)).symm
  have HC := Aside0.mk hc
  clear hc hat
  go_enter Try.func73, Try.ntmps73
  go_wp2
  go_ret
  exact ⟨by rw [← HC.out]; rfl, rfl⟩
theorem lost_step (ids l : List Int) (i : Int) (h0 : 0 ≤ i) (h1 : i < (l.length : Int)) : lostAt ids (l.drop i.toNat) = (ids.contains (rd l i) || lostAt ids (l.drop (i + 1).toNat)) := by
  rw [List.drop_eq_getElem_cons (show i.toNat < l.length by omega), show (i + 1).toNat = i.toNat + 1 by omega]
  have : rd l i = l[i.toNat]'(by omega) := by simp [rd, show i.toNat < l.length by omega]
  rw [this]
  rfl
set_option maxHeartbeats 2000000 in
set_option maxRecDepth 100000 in
theorem index_calls (A0 : Option Addr) (c0 : Nat) (l : List Int) (bw b n : Nat) (ids : List Int) (w : World) (hr0 : Kd.C (Kd.int .i64) w A0 l.length l) (hc0 : l.length ≤ c0) (hm : MapIs w b n ids) (hv : w.cell? ⟨bw, 0, none⟩ = some (.map (some b))) (hl : l.length ≤ 1000000) (hz : ∀ x ∈ l, (Lit.int .i64 x).wf = true) :
    Calls Try.prog 83 #[.slice A0 l.length c0, .func (.func 73) #[] #[.pointer (some ⟨bw, 0, none⟩)]] w fun e w' => ∃ i : Int, e = .returned (.int .i64 i) ∧ decide (0 ≤ i) = lostAt ids l ∧ w' = w := by
  have HR0 := Aside0.mk hr0
  have HM := Aside0.mk hm
  have HV := Aside0.mk hv
  have HZ := Aside0.mk hz
  clear hr0 hm hv hz
  go_enter Try.func83, Try.ntmps83
  go_wp2
  go_loop [8] (fun v8 => ∃ (i : Int), Aside0 (0 ≤ i) ∧ Aside0 (i ≤ (l.length : Int)) ∧ v8 = .int .i64 i ∧ Aside0 (lostAt ids l = lostAt ids (l.drop i.toNat))) (fun v8 => l.length - (intOf v8).toNat)
  case atStart => exact ⟨0, ⟨Int.le_refl _⟩, ⟨by omega⟩, rfl, ⟨rfl⟩⟩
  case round =>
    obtain ⟨i, HI0, HI1, rfl, HL⟩ := hrel
    by_cases hil : i < (l.length : Int)
    · have d1 : decide (i < (l.length : Int)) = true := decide_eq_true hil
      have hi0 := HI0.out
      obtain ⟨ad, e1, hx⟩ := Kd.at_int HR0.out i hi0 hil
      subst e1
      have p1 : (0 ≤ i) = True := eq_true hi0
      have p2 : (i < (l.length : Int)) = True := eq_true hil
      have HS := Aside0.mk (lost_step ids l i hi0 hil)
      have hmem : rd l i = l[i.toNat]'(by omega) := by simp [rd, show i.toNat < l.length by omega]
      have HW := Aside0.mk (show (Lit.int .i64 (rd l i)).wf = true from by rw [hmem]; exact HZ.out _ (List.getElem_mem _))
      clear hmem
      have w0 : IntKind.i64.wrap (i + 1) = i + 1 := IntWalk.i64_in _ (by omega)
      have w0b : wrap64 (i + 1) = i + 1 := by rw [← i64_w]; exact w0
      generalize rd l i = x at HS HW hx
      have HK := Aside0.mk (look_calls x bw b n ids w HW.out HM.out HV.out)
      cases hc : ids.contains x
      · have HH := Aside0.mk hc
        rw [hc] at HK HS
        clear hc
        go_wp2_with (go_at_call 73; (with_reducible refine HK.out.mono ?_); rintro e w' ⟨rfl, rfl⟩)
        go_round
        case rel => exact ⟨i + 1, ⟨by omega⟩, ⟨by omega⟩, by first | rfl | go_num, ⟨by rw [HL.out, HS.out, Bool.false_or]⟩⟩
        case measure => have := HI0.out; simp [intOf]; omega
      · have HH := Aside0.mk hc
        rw [hc] at HK HS
        clear hc
        go_wp2_with (go_at_call 73; (with_reducible refine HK.out.mono ?_); rintro e w' ⟨rfl, rfl⟩)
        go_ret
        exact ⟨i, rfl, by rw [HL.out, HS.out, Bool.true_or]; exact decide_eq_true hi0, rfl⟩
    · have d1 : decide (i < (l.length : Int)) = false := decide_eq_false hil
      have HE := Aside0.mk (show lostAt ids l = false from by rw [HL.out, List.drop_of_length_le (by have := HI0.out; omega)]; rfl)
      go_wp2
      go_ret
      exact ⟨-1, rfl, by rw [HE.out]; rfl, rfl⟩
set_option maxRecDepth 100000 in
theorem contains_calls (A0 : Option Addr) (c0 : Nat) (l : List Int) (bw b n : Nat) (ids : List Int) (w : World) (hr0 : Kd.C (Kd.int .i64) w A0 l.length l) (hc0 : l.length ≤ c0) (hm : MapIs w b n ids) (hv : w.cell? ⟨bw, 0, none⟩ = some (.map (some b))) (hl : l.length ≤ 1000000) (hz : ∀ x ∈ l, (Lit.int .i64 x).wf = true) :
    Calls Try.prog 72 #[.slice A0 l.length c0, .func (.func 73) #[] #[.pointer (some ⟨bw, 0, none⟩)]] w fun e w' => e = .returned (.bool (lostAt ids l)) ∧ w' = w := by
  have HK := Aside0.mk (index_calls A0 c0 l bw b n ids w hr0 hc0 hm hv hl hz)
  clear hr0 hm hv hz
  go_enter Try.func72, Try.ntmps72
  go_wp2_with (go_at_call 83; (with_reducible refine HK.out.mono ?_); rintro e w' ⟨i, rfl, hi, rfl⟩; have HI := Aside0.mk hi; clear hi)
  go_ret
  exact ⟨by rw [← HI.out]; rfl, rfl⟩
def anyF (l : List Bool) : Bool := l.any fun x => !x
theorem false_step (l : List Bool) (i : Int) (h0 : 0 ≤ i) (h1 : i < (l.length : Int)) : anyF (l.drop i.toNat) = (!(rdOf false l i) || anyF (l.drop (i + 1).toNat)) := by
  rw [List.drop_eq_getElem_cons (show i.toNat < l.length by omega), show (i + 1).toNat = i.toNat + 1 by omega]
  have : rdOf false l i = l[i.toNat]'(by omega) := by simp [rdOf, show i.toNat < l.length by omega]
  rw [this]
  rfl
set_option maxHeartbeats 2000000 in
set_option maxRecDepth 100000 in
theorem indexb_calls (A0 : Option Addr) (c0 : Nat) (l : List Bool) (w : World) (hr0 : Kd.C Kd.bool w A0 l.length l) (hc0 : l.length ≤ c0) (hl : l.length ≤ 1000000) :
    Calls Try.prog 84 #[.slice A0 l.length c0, .bool false] w fun e w' => ∃ i : Int, e = .returned (.int .i64 i) ∧ decide (0 ≤ i) = anyF l ∧ w' = w := by
  have HR0 := Aside0.mk hr0
  clear hr0
  go_enter Try.func84, Try.ntmps84
  go_wp2
  go_loop [8] (fun v8 => ∃ (i : Int), Aside0 (0 ≤ i) ∧ Aside0 (i ≤ (l.length : Int)) ∧ v8 = .int .i64 i ∧ Aside0 (anyF l = anyF (l.drop i.toNat))) (fun v8 => l.length - (intOf v8).toNat)
  case atStart => exact ⟨0, ⟨Int.le_refl _⟩, ⟨by omega⟩, rfl, ⟨rfl⟩⟩
  case round =>
    obtain ⟨i, HI0, HI1, rfl, HL⟩ := hrel
    by_cases hil : i < (l.length : Int)
    · have d1 : decide (i < (l.length : Int)) = true := decide_eq_true hil
      have hi0 := HI0.out
      obtain ⟨ad, e1, hx⟩ := Kd.at_bool HR0.out i hi0 hil
      subst e1
      have p1 : (0 ≤ i) = True := eq_true hi0
      have p2 : (i < (l.length : Int)) = True := eq_true hil
      have HS := Aside0.mk (false_step l i hi0 hil)
      have w0 : IntKind.i64.wrap (i + 1) = i + 1 := IntWalk.i64_in _ (by omega)
      have w0b : wrap64 (i + 1) = i + 1 := by rw [← i64_w]; exact w0
      generalize rdOf false l i = x at HS hx
      cases x
      · go_wp2
        go_ret
        exact ⟨i, rfl, by rw [HL.out, HS.out]; exact decide_eq_true hi0, rfl⟩
      · go_wp2
        go_round
        case rel => exact ⟨i + 1, ⟨by omega⟩, ⟨by omega⟩, by first | rfl | go_num, ⟨by rw [HL.out, HS.out]; rfl⟩⟩
        case measure => have := HI0.out; simp [intOf]; omega
    · have d1 : decide (i < (l.length : Int)) = false := decide_eq_false hil
      have HE := Aside0.mk (show anyF l = false from by rw [HL.out, List.drop_of_length_le (by have := HI0.out; omega)]; rfl)
      go_wp2
      go_ret
      exact ⟨-1, rfl, by rw [HE.out]; rfl, rfl⟩
set_option maxRecDepth 100000 in
theorem containsb_calls (A0 : Option Addr) (c0 : Nat) (l : List Bool) (w : World) (hr0 : Kd.C Kd.bool w A0 l.length l) (hc0 : l.length ≤ c0) (hl : l.length ≤ 1000000) :
    Calls Try.prog 74 #[.slice A0 l.length c0, .bool false] w fun e w' => e = .returned (.bool (anyF l)) ∧ w' = w := by
  have HK := Aside0.mk (indexb_calls A0 c0 l w hr0 hc0 hl)
  clear hr0
  go_enter Try.func74, Try.ntmps74
  go_wp2_with (go_at_call 84; (with_reducible refine HK.out.mono ?_); rintro e w' ⟨i, rfl, hi, rfl⟩; have HI := Aside0.mk hi; clear hi)
  go_ret
  exact ⟨by rw [← HI.out]; rfl, rfl⟩
end Go.Proofs.Ytiobphijbpdolaa.P
