/- A machine of our own: rules by which its runs are shown, letter for number. -/
import Derived.Test.YtffokmamcempgaaAMLib
namespace Go.Proofs.Ytffokmamcempgaa.AM
open Go Go.RowKit
set_option linter.unusedVariables false
set_option linter.unusedSimpArgs false

/-! what is known of the places -/
abbrev Lv := List (Nat × Value)
def lk : Lv → Nat → Option Value
  | [], _ => none
  | (k, v) :: l, n => bif Nat.beq k n then some v else lk l n
def TL (T : Tr Value) (L : Lv) : Prop := ∀ n v, lk L n = some v → T.get n = some v
def av (L : Lv) : Arg → Option Value
  | .t n => lk L n
  | .c v => some v
def avs (L : Lv) : List Arg → Option (List Value)
  | [] => some []
  | a :: l => (av L a).bind fun v => (avs L l).map (v :: ·)
theorem TL.set {T : Tr Value} {L : Lv} (h : TL T L) (d : Nat) (v : Value) : TL (T.set d v) ((d, v) :: L) := fun n u hu => by
  rw [Tr.get_set]
  unfold lk at hu
  cases hb : Nat.beq d n with
  | true =>
    have := Nat.eq_of_beq_eq_true hb
    subst this
    rw [hb] at hu
    rw [if_pos rfl]
    exact hu
  | false =>
    rw [hb] at hu
    rw [if_neg (fun e => by subst e; rw [show Nat.beq n n = true from Nat.beq_refl n] at hb; cases hb)]
    exact h n u hu
theorem TL.ev {T : Tr Value} {L : Lv} (h : TL T L) {a : Arg} {v : Value} (ha : av L a = some v) : a.ev T = v := by
  cases a with
  | t n => simp [Arg.ev, h n v ha]
  | c u => simpa [av, Arg.ev] using ha
theorem TL.evs {T : Tr Value} {L : Lv} (h : TL T L) : ∀ {l : List Arg} {vs : List Value}, avs L l = some vs → l.map (·.ev T) = vs
  | [], vs, hv => by simpa [avs] using hv
  | a :: l, vs, hv => by
    simp only [avs, Option.bind_eq_some_iff, Option.map_eq_some_iff] at hv
    obtain ⟨v, h1, us, h2, rfl⟩ := hv
    rw [List.map_cons, h.ev h1, h.evs h2]
def putL (L : Lv) (d : Option Nat) (v : Value) : Lv := match d with | some d => (d, v) :: L | none => L
theorem TL.put {T : Tr Value} {L : Lv} (h : TL T L) (d : Option Nat) (v : Value) : TL (putT T d v) (putL L d v) := by
  cases d with
  | none => exact h
  | some d => exact h.set d v
/-- Only some of it is needed. -/
def Sb (K L : Lv) : Prop := ∀ n v, lk K n = some v → lk L n = some v
theorem Sb.nil (L : Lv) : Sb [] L := fun n v h => by cases h
theorem Sb.cons {K L : Lv} {d : Nat} {v : Value} (h : lk L d = some v) (k : Sb K L) : Sb ((d, v) :: K) L := fun n u hu => by
  unfold lk at hu
  cases hb : Nat.beq d n with
  | true => rw [hb] at hu; cases hu; rw [← Nat.eq_of_beq_eq_true hb]; exact h
  | false => rw [hb] at hu; exact k n u hu
theorem TL.sb {T : Tr Value} {K L : Lv} (h : TL T L) (k : Sb K L) : TL T K := fun n v hv => h n v (k n v hv)

section
variable {P : Program} {cf : CallF} {k : Nat}
/-! operations -/
def Op (P : Program) (cf : CallF) (L : Lv) (H : Heap) (o : AOp) (v : Value) (H' : Heap) : Prop := ∀ T, TL T L → opRun P cf T H o = some (v, H')
def XO (P : Program) (cf : CallF) (l : List AOper) (L : Lv) (H : Heap) (Q : Lv → Heap → Prop) : Prop :=
  ∀ T, TL T L → ∃ T' H' L', opsRun P cf l T H = some (T', H') ∧ TL T' L' ∧ Q L' H'
variable {l : List AOper} {L : Lv} {H H' : Heap} {Q : Lv → Heap → Prop} {d : Option Nat} {fp : Bool} {o : AOp} {v : Value}
theorem XO.nil (h : Q L H) : XO P cf [] L H Q := fun T hT => ⟨T, H, L, rfl, hT, h⟩
theorem XO.op (h : Op P cf L H o v H') (hk : XO P cf l (putL L d v) H' Q) : XO P cf (⟨d, none, fp, o⟩ :: l) L H Q := fun T hT => by
  obtain ⟨T', H2, L', h1, h2, h3⟩ := hk (putT T d v) (hT.put d v)
  exact ⟨T', H2, L', by simp only [opsRun, wantedA, h T hT, h1], h2, h3⟩
theorem wanted_of {T : Tr Value} (hT : TL T L) {g : Nat} {b c : Bool} (hg : lk L g = some (.bool c)) : wantedA T (some (g, b)) = (c == b) := by
  simp only [wantedA, hT g _ hg]
theorem XO.run {g : Nat} {b : Bool} (hg : lk L g = some (.bool b)) (h : Op P cf L H o v H') (hk : XO P cf l (putL L d v) H' Q) : XO P cf (⟨d, some (g, b), fp, o⟩ :: l) L H Q := fun T hT => by
  obtain ⟨T', H2, L', h1, h2, h3⟩ := hk (putT T d v) (hT.put d v)
  exact ⟨T', H2, L', by simp only [opsRun, wanted_of hT hg, beq_self_eq_true, h T hT, h1], h2, h3⟩
theorem XO.pass {g : Nat} {b c : Bool} (hg : lk L g = some (.bool c)) (hne : (c == b) = false) (hk : XO P cf l (putL L d undef) H Q) : XO P cf (⟨d, some (g, b), fp, o⟩ :: l) L H Q := fun T hT => by
  obtain ⟨T', H2, L', h1, h2, h3⟩ := hk (putT T d undef) (hT.put d undef)
  exact ⟨T', H2, L', by simp only [opsRun, wanted_of hT hg, hne, h1], h2, h3⟩
theorem XO.sb {K : Lv} (h : Sb K L) (hk : XO P cf l K H Q) : XO P cf l L H Q := fun T hT => hk T (hT.sb h)
/-! operations of regions that draw their order -/
def XD (P : Program) (cf : CallF) (l : List AOper) (R W : List Nat) (L : Lv) (H : Heap) (Q : Lv → Heap → Prop) : Prop :=
  ∀ T, TL T L → ∃ T' H' L', drawRun P cf l R W T H = some (T', H') ∧ TL T' L' ∧ Q L' H'
def noWl (H : Heap) : Heap := ⟨H.t, H.next, []⟩
def addWl (H' H : Heap) : Heap := ⟨H'.t, H'.next, H'.wl ++ H.wl⟩
variable {R W : List Nat}
theorem XD.nil (h : Q L H) : XD P cf [] R W L H Q := fun T hT => ⟨T, H, L, rfl, hT, h⟩
theorem XD.op (h : Op P cf L (noWl H) o v H') (hk : XD P cf l R W (putL L d v) (addWl H' H) Q) : XD P cf (⟨d, none, false, o⟩ :: l) R W L H Q := fun T hT => by
  obtain ⟨T', H2, L', h1, h2, h3⟩ := hk (putT T d v) (hT.put d v)
  have h4 : opRun P cf T ⟨H.t, H.next, []⟩ o = some (v, H') := h T hT
  exact ⟨T', H2, L', by simp only [drawRun, wantedA, h4]; exact h1, h2, h3⟩
/-- What reckons only: nothing is looked at. -/
theorem XD.pure (h : Op P cf L (noWl H) o v (noWl H)) (hk : XD P cf l R W (putL L d v) H Q) : XD P cf (⟨d, none, false, o⟩ :: l) R W L H Q := XD.op h (by simpa [addWl, noWl] using hk)
theorem XD.opFp {R' W' : List Nat} (h : Op P cf L (noWl H) o v H') (hm : ∀ T, TL T L → mayMove o T H'.wl R W = some (R', W')) (hk : XD P cf l R' W' (putL L d v) (addWl H' H) Q) : XD P cf (⟨d, none, true, o⟩ :: l) R W L H Q := fun T hT => by
  obtain ⟨T', H2, L', h1, h2, h3⟩ := hk (putT T d v) (hT.put d v)
  have h4 : opRun P cf T ⟨H.t, H.next, []⟩ o = some (v, H') := h T hT
  exact ⟨T', H2, L', by simp only [drawRun, wantedA, h4, hm T hT]; exact h1, h2, h3⟩
theorem XD.run {g : Nat} {b : Bool} (hg : lk L g = some (.bool b)) (h : Op P cf L (noWl H) o v H') (hk : XD P cf l R W (putL L d v) (addWl H' H) Q) : XD P cf (⟨d, some (g, b), false, o⟩ :: l) R W L H Q := fun T hT => by
  obtain ⟨T', H2, L', h1, h2, h3⟩ := hk (putT T d v) (hT.put d v)
  have h4 : opRun P cf T ⟨H.t, H.next, []⟩ o = some (v, H') := h T hT
  exact ⟨T', H2, L', by simp only [drawRun, wanted_of hT hg, beq_self_eq_true, h4]; exact h1, h2, h3⟩
theorem XD.runFp {R' W' : List Nat} {g : Nat} {b : Bool} (hg : lk L g = some (.bool b)) (h : Op P cf L (noWl H) o v H') (hm : ∀ T, TL T L → mayMove o T H'.wl R W = some (R', W')) (hk : XD P cf l R' W' (putL L d v) (addWl H' H) Q) : XD P cf (⟨d, some (g, b), true, o⟩ :: l) R W L H Q := fun T hT => by
  obtain ⟨T', H2, L', h1, h2, h3⟩ := hk (putT T d v) (hT.put d v)
  have h4 : opRun P cf T ⟨H.t, H.next, []⟩ o = some (v, H') := h T hT
  exact ⟨T', H2, L', by simp only [drawRun, wanted_of hT hg, beq_self_eq_true, h4, hm T hT]; exact h1, h2, h3⟩
theorem XD.pass {g : Nat} {b c : Bool} (hg : lk L g = some (.bool c)) (hne : (c == b) = false) (hk : XD P cf l R W (putL L d undef) H Q) : XD P cf (⟨d, some (g, b), fp, o⟩ :: l) R W L H Q := fun T hT => by
  obtain ⟨T', H2, L', h1, h2, h3⟩ := hk (putT T d undef) (hT.put d undef)
  exact ⟨T', H2, L', by simp only [drawRun, wanted_of hT hg, hne, h1], h2, h3⟩

/-! code -/
def XC (P : Program) (cf : CallF) (k : Nat) (c : ACode) (L : Lv) (H : Heap) (Q : AExit → Lv → Heap → Prop) : Prop :=
  ∀ T, TL T L → ∃ x T' H' L', exec P cf k c T H = some (x, T', H') ∧ TL T' L' ∧ Q x L' H'
variable {a b c : ACode} {C : AExit → Lv → Heap → Prop}
theorem XC.sb {K : Lv} (h : Sb K L) (hk : XC P cf k c K H C) : XC P cf k c L H C := fun T hT => hk T (hT.sb h)
theorem XC.mono {D : AExit → Lv → Heap → Prop} (h : XC P cf k c L H C) (hi : ∀ x L H, C x L H → D x L H) : XC P cf k c L H D := fun T hT => by
  obtain ⟨x, T', H', L', h1, h2, h3⟩ := h T hT
  exact ⟨x, T', H', L', h1, h2, hi _ _ _ h3⟩
theorem XC.ops (h : XO P cf l L H fun L H => C .normal L H) : XC P cf k (.ops l) L H C := fun T hT => by
  obtain ⟨T', H', L', h1, h2, h3⟩ := h T hT
  exact ⟨.normal, T', H', L', by simp only [exec, h1], h2, h3⟩
theorem XC.draw (h : XD P cf l [] [] L H fun L H => C .normal L H) : XC P cf k (.draw l) L H C := fun T hT => by
  obtain ⟨T', H', L', h1, h2, h3⟩ := h T hT
  exact ⟨.normal, T', H', L', by simp only [exec, h1], h2, h3⟩
theorem XC.skip (h : C .normal L H) : XC P cf k .skip L H C := fun T hT => ⟨.normal, T, H, L, rfl, hT, h⟩
theorem XC.ret (h : C .ret L H) : XC P cf k .ret L H C := fun T hT => ⟨.ret, T, H, L, rfl, hT, h⟩
theorem XC.exit {i : Nat} (h : C (.exit i) L H) : XC P cf k (.exit i) L H C := fun T hT => ⟨.exit i, T, H, L, rfl, hT, h⟩
theorem XC.scope (h : XC P cf k c L H C) : XC P cf k (.scope c) L H C := h
/-- What comes behind a part. -/
def thenQ (P : Program) (cf : CallF) (k : Nat) (b : ACode) (C : AExit → Lv → Heap → Prop) : AExit → Lv → Heap → Prop
  | .normal, L, H => XC P cf k b L H C
  | .exit i, L, H => C (.exit i) L H
  | .ret, L, H => C .ret L H
theorem XC.seq (h : XC P cf k a L H (thenQ P cf k b C)) : XC P cf k (.seq a b) L H C := fun T hT => by
  obtain ⟨x, T', H', L', h1, h2, h3⟩ := h T hT
  cases x with
  | normal =>
    obtain ⟨y, T2, H2, L2, g1, g2, g3⟩ := h3 T' h2
    exact ⟨y, T2, H2, L2, by simp only [exec, h1, g1], g2, g3⟩
  | exit i => exact ⟨_, T', H', L', by simp only [exec, h1], h2, h3⟩
  | ret => exact ⟨_, T', H', L', by simp only [exec, h1], h2, h3⟩
theorem XC.then_ops (h : XO P cf l L H fun L H => XC P cf k b L H C) : XC P cf k (.seq (.ops l) b) L H C := XC.seq (XC.ops h)
theorem XC.then_draw (h : XD P cf l [] [] L H fun L H => XC P cf k b L H C) : XC P cf k (.seq (.draw l) b) L H C := XC.seq (XC.draw h)
theorem XC.then_skip (h : XC P cf k b L H C) : XC P cf k (.seq .skip b) L H C := XC.seq (XC.skip h)
theorem XC.then_ret (h : C .ret L H) : XC P cf k (.seq .ret b) L H C := XC.seq (XC.ret h)
theorem XC.then_exit {i : Nat} (h : C (.exit i) L H) : XC P cf k (.seq (.exit i) b) L H C := XC.seq (XC.exit h)
theorem XC.then_scope (h : XC P cf k (.seq a b) L H C) : XC P cf k (.seq (.scope a) b) L H C := h
theorem XC.assoc (h : XC P cf k (.seq a (.seq b c)) L H C) : XC P cf k (.seq (.seq a b) c) L H C := fun T hT => by
  obtain ⟨x, T', H', L', h1, h2, h3⟩ := h T hT
  refine ⟨x, T', H', L', ?_, h2, h3⟩
  rw [← h1]
  simp only [exec]
  cases exec P cf k a T H with
  | none => rfl
  | some r => obtain ⟨y, T1, H1⟩ := r; cases y <;> rfl
theorem XC.cond_t {x : Arg} (hx : av L x = some (.bool true)) (h : XC P cf k a L H C) : XC P cf k (.cond x a b) L H C := fun T hT => by
  obtain ⟨y, T', H', L', h1, h2, h3⟩ := h T hT
  exact ⟨y, T', H', L', by simp only [exec, hT.ev hx, h1], h2, h3⟩
theorem XC.cond_f {x : Arg} (hx : av L x = some (.bool false)) (h : XC P cf k b L H C) : XC P cf k (.cond x a b) L H C := fun T hT => by
  obtain ⟨y, T', H', L', h1, h2, h3⟩ := h T hT
  exact ⟨y, T', H', L', by simp only [exec, hT.ev hx, h1], h2, h3⟩
theorem XC.cond {x : Arg} {t : Bool} (hx : av L x = some (.bool t)) (h1 : t = true → XC P cf k a L H C) (h2 : t = false → XC P cf k b L H C) : XC P cf k (.cond x a b) L H C := by
  cases t with
  | true => exact XC.cond_t hx (h1 rfl)
  | false => exact XC.cond_f hx (h2 rfl)
theorem XC.ite {x : Arg} {p : Prop} [Decidable p] (hx : av L x = some (.bool (decide p))) (h1 : p → XC P cf k a L H C) (h2 : ¬ p → XC P cf k b L H C) : XC P cf k (.cond x a b) L H C := by
  by_cases hp : p
  · exact XC.cond_t (by rw [hx, decide_eq_true hp]) (h1 hp)
  · exact XC.cond_f (by rw [hx, decide_eq_false hp]) (h2 hp)
theorem XC.push_t {x : Arg} (hx : av L x = some (.bool true)) (h : XC P cf k (.seq a c) L H C) : XC P cf k (.seq (.cond x a b) c) L H C := fun T hT => by
  obtain ⟨y, T', H', L', h1, h2, h3⟩ := h T hT
  exact ⟨y, T', H', L', by rw [← h1]; simp only [exec, hT.ev hx], h2, h3⟩
theorem XC.push_f {x : Arg} (hx : av L x = some (.bool false)) (h : XC P cf k (.seq b c) L H C) : XC P cf k (.seq (.cond x a b) c) L H C := fun T hT => by
  obtain ⟨y, T', H', L', h1, h2, h3⟩ := h T hT
  exact ⟨y, T', H', L', by rw [← h1]; simp only [exec, hT.ev hx], h2, h3⟩
theorem XC.push {x : Arg} {t : Bool} (hx : av L x = some (.bool t)) (h1 : t = true → XC P cf k (.seq a c) L H C) (h2 : t = false → XC P cf k (.seq b c) L H C) : XC P cf k (.seq (.cond x a b) c) L H C := by
  cases t with
  | true => exact XC.push_t hx (h1 rfl)
  | false => exact XC.push_f hx (h2 rfl)
theorem XC.pushIf {x : Arg} {p : Prop} [Decidable p] (hx : av L x = some (.bool (decide p))) (h1 : p → XC P cf k (.seq a c) L H C) (h2 : ¬ p → XC P cf k (.seq b c) L H C) : XC P cf k (.seq (.cond x a b) c) L H C := by
  by_cases hp : p
  · exact XC.push_t (by rw [hx, decide_eq_true hp]) (h1 hp)
  · exact XC.push_f (by rw [hx, decide_eq_false hp]) (h2 hp)
/-- What comes behind a block. -/
def blkQ (id : Nat) (C : AExit → Lv → Heap → Prop) : AExit → Lv → Heap → Prop
  | .normal, L, H => C .normal L H
  | .exit i, L, H => bif Nat.beq i id then C .normal L H else C (.exit i) L H
  | .ret, L, H => C .ret L H
theorem XC.block {id : Nat} (h : XC P cf k a L H (blkQ id C)) : XC P cf k (.block id a) L H C := fun T hT => by
  obtain ⟨x, T', H', L', h1, h2, h3⟩ := h T hT
  cases x with
  | normal => exact ⟨_, T', H', L', by simp only [exec, h1], h2, h3⟩
  | exit i =>
    simp only [blkQ] at h3
    cases hb : Nat.beq i id with
    | true => rw [hb] at h3; exact ⟨.normal, T', H', L', by simp only [exec, h1, hb], h2, h3⟩
    | false => rw [hb] at h3; exact ⟨.exit i, T', H', L', by simp only [exec, h1, hb], h2, h3⟩
  | ret => exact ⟨_, T', H', L', by simp only [exec, h1], h2, h3⟩
theorem XC.then_block {id : Nat} (h : XC P cf k a L H (blkQ id (thenQ P cf k b C))) : XC P cf k (.seq (.block id a) b) L H C := XC.seq (XC.block h)
theorem blk_n {id : Nat} (h : C .normal L H) : blkQ id C .normal L H := h
theorem blk_r {id : Nat} (h : C .ret L H) : blkQ id C .ret L H := h
theorem blk_x {id i : Nat} (hb : Nat.beq i id = true) (h : C .normal L H) : blkQ id C (.exit i) L H := by simp only [blkQ, hb, cond_true]; exact h
theorem blk_y {id i : Nat} (hb : Nat.beq i id = false) (h : C (.exit i) L H) : blkQ id C (.exit i) L H := by simp only [blkQ, hb, cond_false]; exact h
theorem then_n (h : XC P cf k b L H C) : thenQ P cf k b C .normal L H := h
theorem then_r (h : C .ret L H) : thenQ P cf k b C .ret L H := h
theorem then_x {i : Nat} (h : C (.exit i) L H) : thenQ P cf k b C (.exit i) L H := h
/-- A loop: I says of what is known, and of the heap, that at most so many rounds come. -/
theorem XC.loop (I : Nat → Lv → Heap → Prop) {m : Nat} (hI : I m L H) (hm : m < k)
    (hb : ∀ m L H, I m L H → XC P cf k a L H fun x L' H' => match x with
      | .normal => ∃ m' K, m' < m ∧ Sb K L' ∧ I m' K H'
      | x => C x L' H') : XC P cf k (.loop a) L H C := by
  have key : ∀ (j m : Nat), m < j → ∀ L H, I m L H → ∀ T, TL T L → ∃ x T' H' L', iter (exec P cf k a) j T H = some (x, T', H') ∧ TL T' L' ∧ C x L' H' := by
    intro j
    induction j with
    | zero => intro m hm; omega
    | succ j ih =>
      intro m hm L H hI T hT
      obtain ⟨x, T', H', L', h1, h2, h3⟩ := hb m L H hI T hT
      cases x with
      | normal =>
        obtain ⟨m', K, hm', hs, hI'⟩ := h3
        obtain ⟨y, T2, H2, L2, g1, g2, g3⟩ := ih m' (by omega) K H' hI' T' (h2.sb hs)
        exact ⟨y, T2, H2, L2, by simp only [iter, h1, g1], g2, g3⟩
      | exit i => exact ⟨_, T', H', L', by simp only [iter, h1], h2, h3⟩
      | ret => exact ⟨_, T', H', L', by simp only [iter, h1], h2, h3⟩
  intro T hT
  obtain ⟨x, T', H', L', h1, h2, h3⟩ := key k m hm L H hI T hT
  exact ⟨x, T', H', L', by simp only [exec, h1], h2, h3⟩
theorem XC.then_loop (I : Nat → Lv → Heap → Prop) {m : Nat} (hI : I m L H) (hm : m < k)
    (hb : ∀ m L H, I m L H → XC P cf k a L H fun x L' H' => match x with
      | .normal => ∃ m' K, m' < m ∧ Sb K L' ∧ I m' K H'
      | .exit i => thenQ P cf k b C (.exit i) L' H'
      | .ret => C .ret L' H') : XC P cf k (.seq (.loop a) b) L H C :=
  XC.seq (XC.loop I hI hm fun m L H h => (hb m L H h).mono fun x L H hx => by cases x <;> exact hx)

theorem gn_self {B : Blk} : (H.new B).get H.next = some B := by rw [Heap.get_new, if_pos rfl]
theorem gn_old {B C : Blk} {b : Nat} (hb : b < H.next) (h : H.get b = some C) : (H.new B).get b = some C := by rw [Heap.get_new, if_neg (Nat.ne_of_lt hb), h]
theorem XO.split {g : Nat} {q : Bool} (hg : lk L g = some (.bool q)) (h1 : q = true → XO P cf l ((g, .bool true) :: L) H Q) (h2 : q = false → XO P cf l ((g, .bool false) :: L) H Q) : XO P cf l L H Q := by
  have key : ∀ v, lk L g = some v → Sb ((g, v) :: L) L := fun v hv => Sb.cons hv fun n u hu => hu
  cases q with
  | true => exact XO.sb (key _ hg) (h1 rfl)
  | false => exact XO.sb (key _ hg) (h2 rfl)
theorem XD.split {g : Nat} {q : Bool} (hg : lk L g = some (.bool q)) (h1 : q = true → XD P cf l R W ((g, .bool true) :: L) H Q) (h2 : q = false → XD P cf l R W ((g, .bool false) :: L) H Q) : XD P cf l R W L H Q := by
  have key : ∀ v, lk L g = some v → Sb ((g, v) :: L) L := fun v hv => Sb.cons hv fun n u hu => hu
  cases q with
  | true => exact fun T hT => h1 rfl T (hT.sb (key _ hg))
  | false => exact fun T hT => h2 rfl T (hT.sb (key _ hg))
/-! calls -/
/-- The call answers, and so. -/
def Runs (cf : CallF) (f : Nat) (args : List Value) (H : Heap) (Q : Value → Heap → Prop) : Prop := ∃ v H', cf f args H = some (v, H') ∧ Q v H'
theorem Runs.mono {f : Nat} {args : List Value} {Q Q' : Value → Heap → Prop} (h : Runs cf f args H Q) (hi : ∀ v H, Q v H → Q' v H) : Runs cf f args H Q' := by
  obtain ⟨v, H', h1, h2⟩ := h
  exact ⟨v, H', h1, hi _ _ h2⟩
def argsL : Nat → List Value → Lv → Lv
  | _, [], L => L
  | i, v :: l, L => argsL (i + 1) l ((i, v) :: L)
theorem args_TL : ∀ (l : List Value) (i : Nat) (T : Tr Value) (L : Lv), TL T L → TL (argsT i l T) (argsL i l L)
  | [], _, _, _, h => h
  | v :: l, i, T, L, h => args_TL l (i + 1) _ _ (h.set i v)
def resL (L : Lv) (H : Heap) : List ARes → Option (List Value)
  | [] => some []
  | .t n :: l => (lk L n).bind fun v => (resL L H l).map (v :: ·)
  | .cell a n :: l => match lk L a with
    | some (.pointer (some ⟨b, off, none⟩)) => match H.get b with
      | some (.cells _ _ cs) => (partOf n off cs).bind fun v => (resL L H l).map (v :: ·)
      | _ => none
    | _ => none
theorem resL_eq {T : Tr Value} (hT : TL T L) : ∀ {rs : List ARes} {vs : List Value}, resL L H rs = some vs → resOf T H rs = some vs
  | [], vs, h => h
  | .t n :: l, vs, h => by
    simp only [resL, Option.bind_eq_some_iff, Option.map_eq_some_iff] at h
    obtain ⟨v, h1, us, h2, rfl⟩ := h
    simp only [resOf, resL_eq hT h2, hT n v h1, Option.map_some, Option.getD_some]
  | .cell a n :: l, vs, h => by
    simp only [resL] at h
    split at h <;> (try (cases h; done))
    rename_i b off ha
    split at h <;> (try (cases h; done))
    rename_i own e cs hg
    simp only [Option.bind_eq_some_iff, Option.map_eq_some_iff] at h
    obtain ⟨v, h1, us, h2, rfl⟩ := h
    simp only [resOf, hT a _ ha, Option.getD_some, hg, h1, resL_eq hT h2, Option.bind_some, Option.map_some]
def oneV : List Value → Value
  | [v] => v
  | vs => .tuple ⟨vs⟩
/-- A function's end. -/
def finQ (rs : List ARes) (Q : Value → Heap → Prop) : AExit → Lv → Heap → Prop
  | .exit _, _, _ => False
  | .normal, L, H => ∃ vs, resL L H rs = some vs ∧ Q (oneV vs) H
  | .ret, L, H => ∃ vs, resL L H rs = some vs ∧ Q (oneV vs) H
theorem result_one {T : Tr Value} {rs : List ARes} {vs : List Value} (h : resOf T H rs = some vs) : result T H rs = some (oneV vs) := by
  unfold result
  rw [h]
  match vs with
  | [] => rfl
  | [v] => rfl
  | _ :: _ :: _ => rfl
theorem Runs.enter {E : Env} {m f : Nat} {args : List Value} {Q : Value → Heap → Prop} {af : AFunc} (he : E.ext f = none) (hf : E.fn f = some af) (hl : Nat.ble args.length af.ntmps = true)
    (h : XC P (callN P E m) E.rounds af.body (argsL 0 args []) H (finQ af.results Q)) : Runs (callN P E (m + 1)) f args H Q := by
  obtain ⟨x, T', H', L', h1, h2, h3⟩ := h _ (args_TL args 0 .nil [] fun n v hv => by cases hv)
  cases x with
  | exit i => exact h3.elim
  | normal =>
    obtain ⟨vs, hv, hq⟩ := h3
    exact ⟨_, H', by simp only [callN, he, hf, hl, h1, result_one (resL_eq h2 hv), Option.map_some], hq⟩
  | ret =>
    obtain ⟨vs, hv, hq⟩ := h3
    exact ⟨_, H', by simp only [callN, he, hf, hl, h1, result_one (resL_eq h2 hv), Option.map_some], hq⟩
theorem Runs.ext {E : Env} {m f : Nat} {args : List Value} {Q : Value → Heap → Prop} {g : ExtF} (he : E.ext f = some g) (h : ∃ v H', g args H = some (v, H') ∧ Q v H') : Runs (callN P E (m + 1)) f args H Q := by
  obtain ⟨v, H', h1, h2⟩ := h
  exact ⟨v, H', by simp only [callN, he, h1], h2⟩
theorem Runs.calls {E : Env} (hE : EnvOk P E) {n f : Nat} {args : List Value} {u : Value} (h : Runs (callN P E n) f args noHeap fun v _ => v = u) (hp : args.all (plainV 9) = true) (hv : plainV 9 u = true) (w : World) :
    Calls P f ⟨args⟩ w fun e w' => e = .returned u ∧ Below w.heap.size w w' := by
  obtain ⟨v, H', h1, rfl⟩ := h
  exact run_calls hE (by rw [h1]; rfl) hp hv w
end
end Go.Proofs.Ytffokmamcempgaa.AM
