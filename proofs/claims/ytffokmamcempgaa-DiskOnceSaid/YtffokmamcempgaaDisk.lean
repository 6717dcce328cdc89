/- A disk's calls, by our machine's rules. -/
import Derived.Test.YtffokmamcempgaaEnvD
namespace Go.Proofs.Ytffokmamcempgaa.P
open Go Go.RowKit Go.Proofs.Ytffokmamcempgaa.AM
set_option linter.unusedVariables false
set_option linter.unusedSimpArgs false
set_option maxRecDepth 100000

/-! rows of bytes -/
abbrev bRow (H : Heap) (v : Value) (l : List UInt8) : Prop := Row H 5 1 v l.length (byteCells l)
theorem bytes_len (l : List UInt8) : (byteCells l).length = l.length * 1 := by simp [byteCells]
theorem bytes_scalar (l : List UInt8) : (byteCells l).all scalar = true := by
  rw [List.all_eq_true]
  intro v hv
  obtain ⟨b, _, rfl⟩ := List.mem_map.1 hv
  rfl
/-- What a clone is. -/
def Cloned (H : Heap) (l : List UInt8) (v' : Value) (H' : Heap) : Prop :=
  bRow H' v' l ∧ Old H H' ∧ (0 < l.length → ∃ b, H.next ≤ b ∧ v' = .slice (some ⟨b, 0, none⟩) l.length U ∧ H'.get b = some (.cells true 5 (byteCells l)))
theorem clone_runs {n : Nat} {H : Heap} {v : Value} {l : List UInt8} (w : WF H) (hr : bRow H v l) (hl : l.length ≤ room) : Runs (cf (n + 1)) 54 [v] H (Cloned H l) := by
  rcases hr with ⟨rfl, hn, hc⟩ | ⟨b, off, cap, own, all, rfl, hg, hcut⟩
  · skip
    refine Runs.enter rfl rfl rfl ?_
    refine XC.then_ops ?_
    refine XO.op (o_move rfl) ?_
    refine XO.nil ?_
    refine XC.assoc ?_
    refine XC.then_ops ?_
    refine XO.op (o_move rfl) ?_
    refine XO.op (o_eqNil rfl rfl rfl) ?_
    refine XO.nil ?_
    refine XC.push_t rfl ?_
    refine XC.assoc ?_
    refine XC.then_ops ?_
    refine XO.op (o_move rfl) ?_
    refine XO.nil ?_
    refine XC.then_ret ?_
    refine ⟨_, rfl, ?_⟩
    exact ⟨.inl ⟨rfl, hn, hc⟩, Old.refl _, fun h => absurd h (by omega)⟩
  · have hr : bRow H (.slice (some ⟨b, off, none⟩) l.length cap) l := .inr ⟨b, off, cap, own, all, rfl, hg, hcut⟩
    refine Runs.enter rfl rfl rfl ?_
    refine XC.then_ops ?_
    refine XO.op (o_move rfl) ?_
    refine XO.nil ?_
    refine XC.assoc ?_
    refine XC.then_ops ?_
    refine XO.op (o_move rfl) ?_
    refine XO.op (o_eqNil rfl rfl rfl) ?_
    refine XO.nil ?_
    refine XC.push_f rfl ?_
    refine XC.then_skip ?_
    refine XC.then_ops ?_
    refine XO.op (o_buildSlice rfl rfl) ?_
    refine XO.op (o_move rfl) ?_
    obtain ⟨v1, H1, ha, hr1, ho1, hf1⟩ := append_empty (H := H.new (.cells true 5 [])) (e := 5) (size := 1) (bytes := 1) gn_self (bytes_len l) (by omega) hl
    refine XO.op (o_append rfl rfl (fun T => (hr.old w (Old.new _ _)).fill) (bytes_scalar l) ha) ?_
    refine XO.op (o_move rfl) ?_
    refine XO.nil ?_
    refine XC.ret ?_
    refine ⟨_, rfl, ?_⟩
    refine ⟨hr1, (Old.new _ _).trans ho1, fun h => ?_⟩
    obtain ⟨rfl, rfl⟩ := hf1 h
    exact ⟨H.next + 1, Nat.le_succ _, rfl, gn_self⟩
/-! the disk -/
structure Img where
  s : Int
  x : Nat
  born : Nat
  good : List UInt8
  now : List UInt8
def Img.ent (i : Img) : MapEntry := ⟨.int .i64 i.s, .pointer (some ⟨i.x, 0, none⟩), i.born⟩
structure ImgAt (H : Heap) (x : Nat) (good now : List UInt8) : Prop where
  cel : ∃ vg vn, H.get x = some (.cells true 81 [vg, vn]) ∧ bRow H vg good ∧ bRow H vn now
  g : good.length ≤ room
  n : now.length ≤ room
structure DiskAt (H : Heap) (d m clock : Nat) (life : Int) (is : List Img) : Prop where
  wf : WF H
  disk : H.get d = some (.cells true 85 [.map (some m), .int .i64 life])
  map : H.get m = some (.map (is.map Img.ent) clock)
  img : ∀ i ∈ is, ImgAt H i.x i.good i.now
  apart : is.Pairwise fun i j => i.x ≠ j.x
def lookI : List Img → Int → Option Img
  | [], _ => none
  | i :: l, s => if i.s = s then some i else lookI l s
def imgV : Option Img → Value
  | none => .pointer none
  | some i => .pointer (some ⟨i.x, 0, none⟩)
def codeOf : Option Img → Int
  | none => 4
  | some _ => 0
theorem eqI_eq (a b : Int) : eqI a b = decide (a = b) := by
  cases a <;> cases b <;> simp only [eqI]
  · rename_i m n
    cases h : Nat.beq m n with
    | true => rw [Nat.eq_of_beq_eq_true h]; simp
    | false => exact (decide_eq_false fun e => by have := Int.ofNat.inj e; subst this; rw [Nat.beq_refl] at h; cases h).symm
  · exact (decide_eq_false fun e => Int.noConfusion e).symm
  · exact (decide_eq_false fun e => Int.noConfusion e).symm
  · rename_i m n
    cases h : Nat.beq m n with
    | true => rw [Nat.eq_of_beq_eq_true h]; simp
    | false => exact (decide_eq_false fun e => by have := Int.negSucc.inj e; subst this; rw [Nat.beq_refl] at h; cases h).symm
theorem find_look (s : Int) : ∀ (is : List Img) (j : Nat), (findI .i64 s (is.map Img.ent) j = some none ∧ lookI is s = none) ∨ ∃ i q, findI .i64 s (is.map Img.ent) j = some (some (j + q)) ∧ is[q]? = some i ∧ lookI is s = some i
  | [], j => .inl ⟨rfl, rfl⟩
  | i :: l, j => by
    simp only [List.map_cons, Img.ent, findI, kindB, eqI_eq, lookI]
    by_cases h : i.s = s
    · subst h
      simp only [decide_true, if_true]
      exact .inr ⟨i, 0, rfl, rfl, rfl⟩
    · have h2 : ¬ s = i.s := fun e => h e.symm
      simp only [h2, decide_false, if_neg h]
      rcases find_look s l (j + 1) with ⟨h3, h4⟩ | ⟨i', q, h3, h4, h5⟩
      · exact .inl ⟨h3, h4⟩
      · exact .inr ⟨i', q + 1, by rw [h3]; congr 2; omega, h4, h5⟩
theorem look_img {P : Program} {H : Heap} {d m clock : Nat} {life : Int} {is : List Img} (hd : DiskAt H d m clock life is) (s : Int) (e : TypeId) : oLookup P H .i e (.pointer none) false (.map (some m)) (.int .i64 s) = some (imgV (lookI is s), H) := by
  simp only [oLookup, hd.map, findE]
  rcases find_look s is 0 with ⟨h3, h4⟩ | ⟨i', q, h3, h4, h5⟩
  · simp only [h3, h4, giveV, imgV]
  · have hq : (is.map Img.ent)[0 + q]? = some i'.ent := by rw [Nat.zero_add, List.getElem?_map, h4]; rfl
    simp only [h3, hq, h5, giveV, imgV, Img.ent]
theorem lookI_mem {is : List Img} {s : Int} {i : Img} (h : lookI is s = some i) : i ∈ is ∧ i.s = s := by
  induction is with
  | nil => cases h
  | cons j l ih =>
    simp only [lookI] at h
    split at h
    · rename_i hs; cases h; exact ⟨List.mem_cons_self, hs⟩
    · exact ⟨List.mem_cons_of_mem _ (ih h).1, (ih h).2⟩
section
variable {n : Nat} {H : Heap} {d m clock : Nat} {life : Int} {is : List Img}
theorem get_runs (hd : DiskAt H d m clock life is) (s : Int) : Runs (cf (n + 1)) 53 [.pointer (some ⟨d, 0, none⟩), .int .i64 s] H fun v H' => H' = H ∧ v = .tuple #[imgV (lookI is s), .int .i64 (codeOf (lookI is s))] := by
  have hdk := hd.disk
  have hl := look_img (P := Try.prog) hd s 3
  cases hq : lookI is s with
  | none =>
    rw [hq] at hl
    refine Runs.enter rfl rfl rfl ?_
    refine XC.then_ops ?_
    refine XO.op (o_move rfl) ?_
    refine XO.op (o_move rfl) ?_
    refine XO.nil ?_
    refine XC.then_block ?_
    refine XC.then_ops ?_
    refine XO.op (o_move rfl) ?_
    refine XO.op (o_eqNil rfl rfl rfl) ?_
    refine XO.op (o_move rfl) ?_
    refine XO.nil ?_
    refine XC.cond_f rfl ?_
    refine XC.then_ops ?_
    refine XO.op (o_move rfl) ?_
    refine XO.op (o_nilCheck rfl) ?_
    refine XO.op (o_fieldAddr rfl) ?_
    refine XO.op (o_load rfl (by assumption) rfl) ?_
    refine XO.op (o_move rfl) ?_
    refine XO.op (o_lookup rfl rfl hl) ?_
    refine XO.op (o_eqNil rfl rfl rfl) ?_
    refine XO.op (o_move rfl) ?_
    refine XO.nil ?_
    refine XC.cond_t rfl ?_
    refine XC.then_ops ?_
    refine XO.op (o_move rfl) ?_
    refine XO.op (o_move rfl) ?_
    refine XO.nil ?_
    refine XC.ret ?_
    refine blk_r ?_
    refine then_r ?_
    refine ⟨_, rfl, ?_⟩
    exact ⟨rfl, rfl⟩
  | some i =>
    rw [hq] at hl
    refine Runs.enter rfl rfl rfl ?_
    refine XC.then_ops ?_
    refine XO.op (o_move rfl) ?_
    refine XO.op (o_move rfl) ?_
    refine XO.nil ?_
    refine XC.then_block ?_
    refine XC.then_ops ?_
    refine XO.op (o_move rfl) ?_
    refine XO.op (o_eqNil rfl rfl rfl) ?_
    refine XO.op (o_move rfl) ?_
    refine XO.nil ?_
    refine XC.cond_f rfl ?_
    refine XC.then_ops ?_
    refine XO.op (o_move rfl) ?_
    refine XO.op (o_nilCheck rfl) ?_
    refine XO.op (o_fieldAddr rfl) ?_
    refine XO.op (o_load rfl (by assumption) rfl) ?_
    refine XO.op (o_move rfl) ?_
    refine XO.op (o_lookup rfl rfl hl) ?_
    refine XO.op (o_eqNil rfl rfl rfl) ?_
    refine XO.op (o_move rfl) ?_
    refine XO.nil ?_
    refine XC.cond_f rfl ?_
    refine XC.skip ?_
    refine blk_n ?_
    refine then_n ?_
    refine XC.then_ops ?_
    refine XO.op (o_move rfl) ?_
    refine XO.op (o_nilCheck rfl) ?_
    refine XO.op (o_fieldAddr rfl) ?_
    refine XO.op (o_load rfl (by assumption) rfl) ?_
    refine XO.op (o_move rfl) ?_
    refine XO.op (o_lookup rfl rfl hl) ?_
    refine XO.op (o_move rfl) ?_
    refine XO.op (o_move rfl) ?_
    refine XO.nil ?_
    refine XC.ret ?_
    refine ⟨_, rfl, ?_⟩
    exact ⟨rfl, rfl⟩
theorem read_runs (hd : DiskAt H d m clock life is) (s : Int) : Runs (cf (n + 2)) 29 [.pointer (some ⟨d, 0, none⟩), .int .i64 s] H fun v H' => match lookI is s with
    | none => H' = H ∧ v = .tuple #[.slice none 0 0, .int .i64 4]
    | some i => ∃ v', v = .tuple #[v', .int .i64 0] ∧ Cloned H i.now v' H' := by
  obtain ⟨v1, H1, h1, rfl, rfl⟩ := get_runs (n := n) hd s
  cases hq : lookI is s with
  | none =>
    rw [hq] at h1
    refine Runs.enter rfl rfl rfl ?_
    refine XC.then_ops ?_
    refine XO.op (o_move rfl) ?_
    refine XO.op (o_move rfl) ?_
    refine XO.nil ?_
    refine XC.then_ops ?_
    refine XO.op (o_move rfl) ?_
    refine XO.op (o_move rfl) ?_
    refine XO.op (o_call rfl h1) ?_
    refine XO.op (o_move rfl) ?_
    refine XO.op (o_extract rfl rfl) ?_
    refine XO.op (o_extract rfl rfl) ?_
    refine XO.op (o_move rfl) ?_
    refine XO.op (o_move rfl) ?_
    refine XO.nil ?_
    refine XC.assoc ?_
    refine XC.then_ops ?_
    refine XO.op (o_move rfl) ?_
    refine XO.op (o_neq rfl rfl rfl) ?_
    refine XO.nil ?_
    refine XC.push_t rfl ?_
    refine XC.assoc ?_
    refine XC.then_ops ?_
    refine XO.op (o_move rfl) ?_
    refine XO.op (o_move rfl) ?_
    refine XO.op (o_move rfl) ?_
    refine XO.nil ?_
    refine XC.then_ret ?_
    refine ⟨_, rfl, ?_⟩
    exact ⟨rfl, rfl⟩
  | some i =>
    rw [hq] at h1
    obtain ⟨⟨vg, vn, hg, hrg, hrn⟩, hgl, hnl⟩ := hd.img i (lookI_mem hq).1
    refine Runs.enter rfl rfl rfl ?_
    refine XC.then_ops ?_
    refine XO.op (o_move rfl) ?_
    refine XO.op (o_move rfl) ?_
    refine XO.nil ?_
    refine XC.then_ops ?_
    refine XO.op (o_move rfl) ?_
    refine XO.op (o_move rfl) ?_
    refine XO.op (o_call rfl h1) ?_
    refine XO.op (o_move rfl) ?_
    refine XO.op (o_extract rfl rfl) ?_
    refine XO.op (o_extract rfl rfl) ?_
    refine XO.op (o_move rfl) ?_
    refine XO.op (o_move rfl) ?_
    refine XO.nil ?_
    refine XC.assoc ?_
    refine XC.then_ops ?_
    refine XO.op (o_move rfl) ?_
    refine XO.op (o_neq rfl rfl rfl) ?_
    refine XO.nil ?_
    refine XC.push_f rfl ?_
    refine XC.then_skip ?_
    refine XC.then_ops ?_
    refine XO.op (o_move rfl) ?_
    refine XO.op (o_nilCheck rfl) ?_
    refine XO.op (o_fieldAddr rfl) ?_
    refine XO.op (o_load rfl (by assumption) rfl) ?_
    obtain ⟨v2, H2, h2, hc2⟩ := clone_runs (n := n) hd.wf hrn hnl
    refine XO.op (o_call rfl h2) ?_
    refine XO.op (o_move rfl) ?_
    refine XO.op (o_move rfl) ?_
    refine XO.nil ?_
    refine XC.ret ?_
    refine ⟨_, rfl, ?_⟩
    exact ⟨v2, rfl, hc2⟩
def keepNow (x : Nat) (now : List UInt8) (j : Img) : Img := if j.x = x then { j with now := now } else j
theorem keepNow_x (x : Nat) (now : List UInt8) (j : Img) : (keepNow x now j).x = j.x ∧ (keepNow x now j).ent = j.ent ∧ (keepNow x now j).good = j.good ∧ (keepNow x now j).s = j.s := by
  unfold keepNow
  split <;> exact ⟨rfl, rfl, rfl, rfl⟩
/-- An image's block is written: what it is now. -/
theorem DiskAt.write (hd : DiskAt H d m clock life is) {i : Img} (hi : i ∈ is) {now : List UInt8} {H' : Heap} (hb : But H H' i.x) (hx : ImgAt H' i.x i.good now) : DiskAt H' d m clock life (is.map (keepNow i.x now)) := by
  obtain ⟨⟨vg, vn, hg, hrg, hrn⟩, hgl, hnl⟩ := hd.img i hi
  have hne : ∀ own all, H.get i.x ≠ some (.cells own 5 all) := fun own all h => by rw [hg] at h; cases h
  refine ⟨hb.wf hd.wf, hb.at hd.wf (fun e => ?_) hd.disk, ?_, ?_, ?_⟩
  · subst e; rw [hd.disk] at hg; cases hg
  · rw [show (is.map (keepNow i.x now)).map Img.ent = is.map Img.ent from by rw [List.map_map]; exact List.map_congr_left fun j _ => (keepNow_x i.x now j).2.1]
    refine hb.at hd.wf (fun e => ?_) hd.map
    subst e
    have := hd.map
    rw [this] at hg
    cases hg
  · intro j hj
    obtain ⟨q, hq, rfl⟩ := List.mem_map.1 hj
    unfold keepNow
    split
    · rename_i he
      have : q = i := by
        have hp := hd.apart
        rcases Classical.em (q = i) with h | h
        · exact h
        · have hs : ∀ (l : List Img), l.Pairwise (fun i j => i.x ≠ j.x) → q ∈ l → i ∈ l → q.x ≠ i.x := by
            intro l
            induction l with
            | nil => intro _ h; cases h
            | cons a l ih =>
              intro hp h1 h2
              rw [List.pairwise_cons] at hp
              rcases List.mem_cons.1 h1 with e1 | h1
              · rcases List.mem_cons.1 h2 with e2 | h2
                · exact (h (by rw [e1, e2])).elim
                · rw [e1]; exact hp.1 i h2
              · rcases List.mem_cons.1 h2 with e2 | h2
                · rw [e2]; exact fun e => hp.1 q h1 e.symm
                · exact ih hp.2 h1 h2
          exact (hs is hp hq hi he).elim
      subst this
      exact hx
    · rename_i he
      obtain ⟨⟨ug, un, h1, h2, h3⟩, h4, h5⟩ := hd.img q hq
      exact ⟨⟨ug, un, hb.at hd.wf he h1, h2.but hd.wf hb hne, h3.but hd.wf hb hne⟩, h4, h5⟩
  · rw [List.pairwise_map]
    exact hd.apart.imp fun {a b} h => by rw [(keepNow_x i.x now a).1, (keepNow_x i.x now b).1]; exact h
/-- What an image rots to. -/
def rotB (x : Int) : UInt8 := UInt8.ofNat (1 + lowN x 255)
def rotL (l : List UInt8) (at_ x : Int) : List UInt8 := l.set (lowN at_ l.length) (l.getD (lowN at_ l.length) 0 ^^^ rotB x)
theorem rotB_nat (x : Int) : (rotB x).toNat = 1 + lowN x 255 := by
  have := low_lt x (n := 255) (by omega)
  unfold rotB
  rw [UInt8.toNat_ofNat']
  omega
theorem bytes_set (l : List UInt8) (k : Nat) (b : UInt8) : (byteCells l).set k (.int .u8 b.toNat) = byteCells (l.set k b) := by
  simp only [byteCells, List.map_set]
theorem mend_runs (hd : DiskAt H d m clock life is) (s : Int) : Runs (cf (n + 2)) 31 [.pointer (some ⟨d, 0, none⟩), .int .i64 s] H fun v H' => match lookI is s with
    | none => H' = H ∧ v = .int .i64 4
    | some i => v = .int .i64 0 ∧ DiskAt H' d m clock life (is.map (keepNow i.x i.good)) ∧ But H H' i.x := by
  obtain ⟨v1, H1, h1, rfl, rfl⟩ := get_runs (n := n) hd s
  cases hq : lookI is s with
  | none =>
    rw [hq] at h1
    refine Runs.enter rfl rfl rfl ?_
    refine XC.then_ops ?_
    refine XO.op (o_move rfl) ?_
    refine XO.nil ?_
    refine XC.then_ops ?_
    refine XO.op (o_move rfl) ?_
    refine XO.op (o_move rfl) ?_
    refine XO.op (o_call rfl h1) ?_
    refine XO.op (o_move rfl) ?_
    refine XO.op (o_extract rfl rfl) ?_
    refine XO.op (o_extract rfl rfl) ?_
    refine XO.op (o_move rfl) ?_
    refine XO.op (o_move rfl) ?_
    refine XO.nil ?_
    refine XC.assoc ?_
    refine XC.then_ops ?_
    refine XO.op (o_move rfl) ?_
    refine XO.op (o_eql rfl rfl rfl) ?_
    refine XO.nil ?_
    refine XC.push_f rfl ?_
    refine XC.then_skip ?_
    refine XC.then_ops ?_
    refine XO.op (o_move rfl) ?_
    refine XO.op (o_move rfl) ?_
    refine XO.nil ?_
    refine XC.ret ?_
    refine ⟨_, rfl, ?_⟩
    exact ⟨rfl, rfl⟩
  | some i =>
    rw [hq] at h1
    have hi := (lookI_mem hq).1
    obtain ⟨⟨vg, vn, hg, hrg, hrn⟩, hgl, hnl⟩ := hd.img i hi
    refine Runs.enter rfl rfl rfl ?_
    refine XC.then_ops ?_
    refine XO.op (o_move rfl) ?_
    refine XO.nil ?_
    refine XC.then_ops ?_
    refine XO.op (o_move rfl) ?_
    refine XO.op (o_move rfl) ?_
    refine XO.op (o_call rfl h1) ?_
    refine XO.op (o_move rfl) ?_
    refine XO.op (o_extract rfl rfl) ?_
    refine XO.op (o_extract rfl rfl) ?_
    refine XO.op (o_move rfl) ?_
    refine XO.op (o_move rfl) ?_
    refine XO.nil ?_
    refine XC.assoc ?_
    refine XC.then_ops ?_
    refine XO.op (o_move rfl) ?_
    refine XO.op (o_eql rfl rfl rfl) ?_
    refine XO.nil ?_
    refine XC.push_t rfl ?_
    refine XC.then_ops ?_
    refine XO.op (o_move rfl) ?_
    refine XO.op (o_move rfl) ?_
    refine XO.op (o_nilCheck rfl) ?_
    refine XO.op (o_fieldAddr rfl) ?_
    refine XO.op (o_load rfl (by assumption) rfl) ?_
    obtain ⟨v2, H2, h2, hr2, ho2, -⟩ := clone_runs (n := n) hd.wf hrg hgl
    have hg2 := ho2.at hd.wf hg
    obtain ⟨a2, c2, rfl⟩ := hr2.isSlice
    refine XO.op (o_call rfl h2) ?_
    refine XO.op (o_nilCheck rfl) ?_
    refine XO.op (o_fieldAddr rfl) ?_
    refine XO.op (o_store rfl rfl (by assumption) rfl rfl rfl) ?_
    refine XO.nil ?_
    refine XC.then_ops ?_
    refine XO.op (o_move rfl) ?_
    refine XO.op (o_move rfl) ?_
    refine XO.nil ?_
    refine XC.ret ?_
    refine ⟨_, rfl, ?_⟩
    have hne : ∀ own all, H2.get i.x ≠ some (.cells own 5 all) := fun own all h => by rw [hg2] at h; cases h
    have hbt : But H1 (H2.upd i.x (.cells true 81 [vg, .slice a2 i.good.length c2])) i.x := (ho2.but i.x).trans (But.upd hg2)
    exact ⟨rfl, hd.write hi hbt ⟨⟨vg, _, get_upd_self, (hrg.old hd.wf ho2).upd hne, hr2.upd hne⟩, hgl, hgl⟩, hbt⟩
theorem rot_runs (hd : DiskAt H d m clock life is) (s at_ x : Int) (hpos : ∀ i, lookI is s = some i → 0 < i.good.length) : Runs (cf (n + 2)) 30 [.pointer (some ⟨d, 0, none⟩), .int .i64 s, .int .i64 at_, .int .i64 x] H fun v H' => match lookI is s with
    | none => H' = H ∧ v = .int .i64 4
    | some i => v = .int .i64 0 ∧ DiskAt H' d m clock life (is.map (keepNow i.x (rotL i.good at_ x))) ∧ But H H' i.x := by
  obtain ⟨v1, H1, h1, rfl, rfl⟩ := get_runs (n := n) hd s
  cases hq : lookI is s with
  | none =>
    rw [hq] at h1
    refine Runs.enter rfl rfl rfl ?_
    refine XC.then_ops ?_
    refine XO.op (o_move rfl) ?_
    refine XO.nil ?_
    refine XC.then_ops ?_
    refine XO.op (o_move rfl) ?_
    refine XO.op (o_move rfl) ?_
    refine XO.op (o_call rfl h1) ?_
    refine XO.op (o_move rfl) ?_
    refine XO.op (o_extract rfl rfl) ?_
    refine XO.op (o_extract rfl rfl) ?_
    refine XO.op (o_move rfl) ?_
    refine XO.op (o_move rfl) ?_
    refine XO.nil ?_
    refine XC.assoc ?_
    refine XC.then_ops ?_
    refine XO.op (o_move rfl) ?_
    refine XO.op (o_eql rfl rfl rfl) ?_
    refine XO.nil ?_
    refine XC.push_f rfl ?_
    refine XC.then_skip ?_
    refine XC.then_ops ?_
    refine XO.op (o_move rfl) ?_
    refine XO.op (o_move rfl) ?_
    refine XO.nil ?_
    refine XC.ret ?_
    refine ⟨_, rfl, ?_⟩
    exact ⟨rfl, rfl⟩
  | some i =>
    rw [hq] at h1
    have hi := (lookI_mem hq).1
    have hp := hpos i hq
    obtain ⟨⟨vg, vn, hg, hrg, hrn⟩, hgl, hnl⟩ := hd.img i hi
    have hlt := low_lt at_ hp
    have hz := rotB_nat x
    have hz2 := low_lt x (n := 255) (by omega)
    have hroom : i.good.length ≤ 70368744177664 := hgl
    have hbl : (byteCells i.good).length = i.good.length := by simp [byteCells]
    have hget : (byteCells i.good)[lowN at_ i.good.length]? = some (.int .u8 ((i.good.getD (lowN at_ i.good.length) 0).toNat)) := by
      simp only [byteCells, List.getElem?_map, List.getElem?_eq_getElem hlt, Option.map_some, List.getD_eq_getElem?_getD, Option.getD_some]
    refine Runs.enter rfl rfl rfl ?_
    refine XC.then_ops ?_
    refine XO.op (o_move rfl) ?_
    refine XO.nil ?_
    refine XC.then_ops ?_
    refine XO.op (o_move rfl) ?_
    refine XO.op (o_move rfl) ?_
    refine XO.op (o_call rfl h1) ?_
    refine XO.op (o_move rfl) ?_
    refine XO.op (o_extract rfl rfl) ?_
    refine XO.op (o_extract rfl rfl) ?_
    refine XO.op (o_move rfl) ?_
    refine XO.op (o_move rfl) ?_
    refine XO.nil ?_
    refine XC.assoc ?_
    refine XC.then_ops ?_
    refine XO.op (o_move rfl) ?_
    refine XO.op (o_eql rfl rfl rfl) ?_
    refine XO.nil ?_
    refine XC.push_t rfl ?_
    refine XC.assoc ?_
    refine XC.then_ops ?_
    refine XO.op (o_move rfl) ?_
    refine XO.op (o_move rfl) ?_
    refine XO.op (o_nilCheck rfl) ?_
    refine XO.op (o_fieldAddr rfl) ?_
    refine XO.op (o_load rfl (by assumption) rfl) ?_
    obtain ⟨v2, H2, h2, hr2, ho2, hfr⟩ := clone_runs (n := n) hd.wf hrg hgl
    obtain ⟨b, hbn, rfl, hgb⟩ := hfr hp
    have hg2 := ho2.at hd.wf hg
    have hne : ∀ own all, H2.get i.x ≠ some (.cells own 5 all) := fun own all h => by rw [hg2] at h; cases h
    have hxb : b ≠ i.x := fun e => hne _ _ (by rw [← e]; exact hgb)
    refine XO.op (o_call rfl h2) ?_
    refine XO.op (o_nilCheck rfl) ?_
    refine XO.op (o_fieldAddr rfl) ?_
    refine XO.op (o_store (cs' := [vg, .slice (some ⟨b, 0, none⟩) i.good.length U]) rfl rfl hg2 rfl rfl rfl) ?_
    have hg3 : (H2.upd i.x (.cells true 81 [vg, .slice (some ⟨b, 0, none⟩) i.good.length U])).get i.x = some (.cells true 81 [vg, .slice (some ⟨b, 0, none⟩) i.good.length U]) := get_upd_self
    have hb3 : (H2.upd i.x (.cells true 81 [vg, .slice (some ⟨b, 0, none⟩) i.good.length U])).get b = some (.cells true 5 (byteCells i.good)) := by rw [get_upd_ne hxb]; exact hgb
    have hbt : But H1 (H2.upd i.x (.cells true 81 [vg, .slice (some ⟨b, 0, none⟩) i.good.length U])) i.x := (ho2.but i.x).trans (But.upd hg2)
    have hw3 := hbt.wf hd.wf
    generalize H2.upd i.x (.cells true 81 [vg, .slice (some ⟨b, 0, none⟩) i.good.length U]) = H3 at hg3 hb3 hbt hw3
    refine XO.nil ?_
    refine XC.then_draw ?_
    refine XD.pure (o_move rfl) ?_
    refine XD.pure (o_nilCheck rfl) ?_
    refine XD.pure (o_fieldAddr rfl) ?_
    refine XD.pure (o_load rfl (by assumption) rfl) ?_
    refine XD.pure (o_move rfl) ?_
    refine XD.pure (o_convI rfl rfl) ?_
    refine XD.pure (o_move rfl) ?_
    refine XD.pure (o_nilCheck rfl) ?_
    refine XD.pure (o_fieldAddr rfl) ?_
    refine XD.pure (o_load rfl (by assumption) rfl) ?_
    refine XD.pure (o_lenRow rfl) ?_
    refine XD.pure (o_convI rfl (wu64 (by omega) (by omega))) ?_
    refine XD.pure (o_rem rfl rfl (by omega) (low_tmod at_ i.good.length)) ?_
    refine XD.pure (o_indexAddr rfl rfl hlt) ?_
    refine XD.pure (o_load rfl hb3 (by simp only [partOf, Nat.mul_one, Nat.zero_add]; exact hget)) ?_
    refine XD.pure (o_move rfl) ?_
    refine XD.pure (o_convI rfl rfl) ?_
    refine XD.pure (o_rem rfl rfl (by omega) (low_tmod x 255)) ?_
    refine XD.pure (o_add (r := (rotB x).toNat) rfl rfl (by rw [hz, wu64 (by omega) (by omega)]; omega)) ?_
    refine XD.pure (o_convI (r := (rotB x).toNat) rfl (wu8 (by omega) (by omega))) ?_
    refine XD.pure (o_xor rfl rfl (xor_u8 _ _)) ?_
    refine XD.pure (o_indexAddr rfl rfl hlt) ?_
    refine XD.op (o_store rfl rfl hb3 rfl rfl (by simp only [Nat.mul_one, Nat.zero_add, cellL]; rw [splice_one (by omega), bytes_set])) ?_
    refine XD.nil ?_
    refine XC.then_ops ?_
    refine XO.op (o_move rfl) ?_
    refine XO.op (o_move rfl) ?_
    refine XO.nil ?_
    refine XC.ret ?_
    refine ⟨_, rfl, ?_⟩
    have hbx : But H3 (addWl ((noWl H3).upd b (.cells true 5 (byteCells (rotL i.good at_ x)))) H3) b := ((But.upd (H := noWl H3) hb3).ofNoWl).addWl _
    have hall : But H1 (addWl ((noWl H3).upd b (.cells true 5 (byteCells (rotL i.good at_ x)))) H3) i.x := ⟨Nat.le_trans hbt.next hbx.next, fun c hc hx => by rw [hbx.get c (Nat.lt_of_lt_of_le hc hbt.next) (by omega), hbt.get c hc hx], fun w => hbx.wf (hbt.wf w)⟩
    have hll : (rotL i.good at_ x).length = i.good.length := by simp [rotL]
    have hne1 : ∀ own all, H1.get i.x ≠ some (.cells own 5 all) := fun own all h => by rw [hg] at h; cases h
    have hnow : bRow (addWl ((noWl H3).upd b (.cells true 5 (byteCells (rotL i.good at_ x)))) H3) (.slice (some ⟨b, 0, none⟩) i.good.length U) (rotL i.good at_ x) := by
      rw [← hll]
      exact Row.fresh (bytes_len _) get_upd_self
    exact ⟨rfl, hd.write hi hall ⟨⟨vg, _, (hbx.get _ (hw3.lt hg3) (Ne.symm hxb)).trans hg3, hrg.but hd.wf hall hne1, hnow⟩, hgl, by rw [hll]; exact hgl⟩, hall⟩
end
theorem DiskAt.noWl {H : Heap} {d m clock : Nat} {life : Int} {is : List Img} (hd : DiskAt H d m clock life is) : DiskAt (AM.noWl H) d m clock life is :=
  ⟨hd.wf, hd.disk, hd.map, fun i hi => ⟨(hd.img i hi).cel, (hd.img i hi).g, (hd.img i hi).n⟩, hd.apart⟩
theorem DiskAt.addWl {H : Heap} {d m clock : Nat} {life : Int} {is : List Img} (hd : DiskAt H d m clock life is) (G : Heap) : DiskAt (AM.addWl H G) d m clock life is :=
  ⟨hd.wf, hd.disk, hd.map, fun i hi => ⟨(hd.img i hi).cel, (hd.img i hi).g, (hd.img i hi).n⟩, hd.apart⟩
theorem DiskAt.old {H H' : Heap} {d m clock : Nat} {life : Int} {is : List Img} (hd : DiskAt H d m clock life is) (o : Old H H') : DiskAt H' d m clock life is :=
  ⟨o.wf hd.wf, o.at hd.wf hd.disk, o.at hd.wf hd.map, fun i hi => by
    obtain ⟨⟨vg, vn, h1, h2, h3⟩, h4, h5⟩ := hd.img i hi
    exact ⟨⟨vg, vn, o.at hd.wf h1, h2.old hd.wf o, h3.old hd.wf o⟩, h4, h5⟩, hd.apart⟩
/-! the laws' own small functions -/
theorem low_runs {n : Nat} {H : Heap} (x : Int) {k : Nat} (h0 : 0 < k) (h1 : k < 9223372036854775808) : Runs (cf (n + 1)) 38 [.int .i64 x, .int .i64 k] H fun v H' => H' = H ∧ v = .int .i64 (lowN x k) := by
  have hl := low_lt x h0
  refine Runs.enter rfl rfl rfl ?_
  refine XC.then_ops ?_
  refine XO.op (o_move rfl) ?_
  refine XO.nil ?_
  refine XC.then_ops ?_
  refine XO.op (o_move rfl) ?_
  refine XO.op (o_convI rfl rfl) ?_
  refine XO.op (o_move rfl) ?_
  refine XO.op (o_convI rfl (wu64 (by omega) (by omega))) ?_
  refine XO.op (o_rem rfl rfl (by omega) (low_tmod x k)) ?_
  refine XO.op (o_convI rfl (w64 (by omega) (by omega))) ?_
  refine XO.op (o_move rfl) ?_
  refine XO.nil ?_
  refine XC.ret ?_
  refine ⟨_, rfl, ?_⟩
  exact ⟨rfl, rfl⟩
theorem bytes_at (l : List UInt8) {j : Nat} (hj : j < l.length) : (byteCells l)[j]? = some (.int .u8 (l[j].toNat)) := by
  simp only [byteCells, List.getElem?_map, List.getElem?_eq_getElem hj, Option.map_some]
theorem u8_ne (a b : UInt8) : ((a.toNat : Int) != (b.toNat : Int)) = decide (a ≠ b) := by
  rw [Bool.eq_iff_iff]
  simp only [bne_iff_ne, ne_eq, decide_eq_true_eq]
  constructor
  · intro h e; subst e; exact h rfl
  · intro h e; exact h (UInt8.toNat_inj.1 (by omega))
theorem sameBytes_runs {n : Nat} {H : Heap} {u v : Value} {a b : List UInt8} (hu : bRow H u a) (hv : bRow H v b) (hl : a.length < 9223372036854775807) (hl2 : b.length < 9223372036854775807) : Runs (cf (n + 1)) 24 [u, v] H fun r H' => H' = H ∧ r = .bool (decide (a = b)) := by
  obtain ⟨ua, uc, hu1⟩ := hu.isSlice
  obtain ⟨va, vc, hv1⟩ := hv.isSlice
  by_cases hab : a.length = b.length
  · skip
    refine Runs.enter rfl rfl rfl ?_
    refine XC.then_ops ?_
    refine XO.op (o_move rfl) ?_
    refine XO.nil ?_
    refine XC.assoc ?_
    refine XC.then_ops ?_
    refine XO.op (o_move rfl) ?_
    refine XO.op (o_lenRow (by rw [hu1]; rfl)) ?_
    refine XO.op (o_move rfl) ?_
    refine XO.op (o_lenRow (by rw [hv1]; rfl)) ?_
    refine XO.op (o_neq (q := false) rfl rfl (by simp [hab])) ?_
    refine XO.nil ?_
    refine XC.push_f rfl ?_
    refine XC.then_skip ?_
    refine XC.assoc ?_
    refine XC.then_ops ?_
    refine XO.op (o_move rfl) ?_
    refine XO.nil ?_
    refine XC.then_block ?_
    refine XC.sb (K := [(5, .int .i64 ((0 : Nat) : Int)), (0, u), (1, v)]) (Sb.cons rfl (Sb.cons rfl (Sb.cons rfl (Sb.nil _)))) ?_
    refine XC.loop (fun m L G => ∃ j : Nat, L = [(5, .int .i64 (j : Int)), (0, u), (1, v)] ∧ G = H ∧ m + j = a.length ∧ ∀ k (hk : k < j), a[k]? = b[k]?) ⟨0, rfl, rfl, rfl, fun k hk => absurd hk (by omega)⟩ (by show a.length < 9223372036854775808; omega) ?_
    rintro m L G ⟨j, rfl, rfl, hm, hk⟩
    refine XC.assoc ?_
    refine XC.then_ops ?_
    refine XO.op (o_move rfl) ?_
    refine XO.op (o_move rfl) ?_
    refine XO.op (o_lenRow (by rw [hu1]; rfl)) ?_
    refine XO.op (o_lss rfl rfl rfl) ?_
    refine XO.nil ?_
    refine XC.pushIf rfl (fun hc14 => ?_) (fun hc14 => ?_)
    · skip
      have hj : j < a.length := by omega
      obtain ⟨ba, oa, ca, wa, ala, xa, ea, ga, ia, pa⟩ := hu.one hj
      obtain ⟨bb, ob, cb, wb, alb, xb, eb, gb, ib, pb⟩ := hv.one (show j < b.length by omega)
      rw [bytes_at a hj] at ia
      rw [bytes_at b (by omega)] at ib
      cases ia
      cases ib
      refine XC.then_skip ?_
      refine XC.then_block ?_
      refine XC.then_draw ?_
      refine XD.pure (o_move rfl) ?_
      refine XD.pure (o_move rfl) ?_
      refine XD.pure (o_indexAddr (by rw [ea]; rfl) rfl hj) ?_
      refine XD.pure (o_load rfl ga pa) ?_
      refine XD.pure (o_move rfl) ?_
      refine XD.pure (o_move rfl) ?_
      refine XD.pure (o_indexAddr (by rw [eb]; rfl) rfl (by omega)) ?_
      refine XD.pure (o_load rfl gb pb) ?_
      refine XD.pure (o_neq rfl rfl (u8_ne _ _)) ?_
      refine XD.nil ?_
      refine XC.ite rfl (fun hc25 => ?_) (fun hc25 => ?_)
      · skip
        refine XC.then_ops ?_
        refine XO.op (o_move rfl) ?_
        refine XO.nil ?_
        refine XC.ret ?_
        refine blk_r ?_
        refine then_r ?_
        refine blk_r ?_
        refine then_r ?_
        refine ⟨_, rfl, ?_⟩
        refine ⟨rfl, ?_⟩
        rw [decide_eq_false fun e => by subst e; exact hc25 rfl]
        rfl
      · skip
        refine XC.skip ?_
        refine blk_n ?_
        refine then_n ?_
        refine XC.ops ?_
        refine XO.op (o_move rfl) ?_
        refine XO.op (o_add (r := ((j + 1 : Nat) : Int)) rfl rfl (by rw [w64 (by omega) (by omega)]; omega)) ?_
        refine XO.op (o_move rfl) ?_
        refine XO.nil ?_
        refine ⟨m - 1, _, by omega, Sb.cons rfl (Sb.cons rfl (Sb.cons rfl (Sb.nil _))), j + 1, rfl, rfl, by omega, fun k hk2 => ?_⟩
        by_cases e : k = j
        · subst e
          rw [List.getElem?_eq_getElem hj, List.getElem?_eq_getElem (show k < b.length by omega)]
          exact congrArg some (Classical.not_not.1 hc25)
        · exact hk k (by omega)
    · skip
      refine XC.then_exit ?_
      refine blk_x rfl ?_
      refine then_n ?_
      refine XC.then_ops ?_
      refine XO.op (o_move rfl) ?_
      refine XO.nil ?_
      refine XC.ret ?_
      refine ⟨_, rfl, ?_⟩
      refine ⟨rfl, ?_⟩
      have e : a = b := by
        refine List.ext_getElem? fun k => ?_
        by_cases hkj : k < j
        · exact hk k hkj
        · rw [List.getElem?_eq_none (by omega), List.getElem?_eq_none (by omega)]
      rw [decide_eq_true e]
      rfl
  · skip
    refine Runs.enter rfl rfl rfl ?_
    refine XC.then_ops ?_
    refine XO.op (o_move rfl) ?_
    refine XO.nil ?_
    refine XC.assoc ?_
    refine XC.then_ops ?_
    refine XO.op (o_move rfl) ?_
    refine XO.op (o_lenRow (by rw [hu1]; rfl)) ?_
    refine XO.op (o_move rfl) ?_
    refine XO.op (o_lenRow (by rw [hv1]; rfl)) ?_
    refine XO.op (o_neq (q := true) rfl rfl (by simp; omega)) ?_
    refine XO.nil ?_
    refine XC.push_t rfl ?_
    refine XC.assoc ?_
    refine XC.then_ops ?_
    refine XO.op (o_move rfl) ?_
    refine XO.nil ?_
    refine XC.then_ret ?_
    refine ⟨_, rfl, ?_⟩
    refine ⟨rfl, ?_⟩
    rw [decide_eq_false fun e => hab (by rw [e])]
    rfl
theorem neq_bool {lit : Bool} (a b : Bool) : oBin Try.prog .neq 4 lit (.bool a) (.bool b) = some (.bool (a != b)) := by
  cases a <;> cases b <;> cases lit <;> kernel_rfl
end Go.Proofs.Ytffokmamcempgaa.P
