/- A machine of our own: blocks that a run does not need it does not write. -/
import Derived.Test.YtffokmamcempgaaAMV
namespace Go.Proofs.Ytffokmamcempgaa.AM
open Go Go.RowKit
set_option linter.unusedVariables false
set_option linter.unusedSimpArgs false
/-- G is H and the blocks of S, that H has not. -/
structure Fr (S : Nat → Prop) (F : Nat → Option Blk) (H G : Heap) : Prop where
  nx : G.next = H.next
  wl : G.wl = H.wl
  lt : ∀ c, S c → c < H.next
  no : ∀ c, S c → H.get c = none
  at' : ∀ c, S c → G.get c = F c
  eq : ∀ c, ¬ S c → G.get c = H.get c
  nw : ∀ c, S c → c ∉ H.wl
section
variable {S : Nat → Prop} {F : Nat → Option Blk} {H G H' G' : Heap} {P : Program} {cf : CallF} {T : Tr Value}
theorem Fr.get (h : Fr S F H G) {c : Nat} {B : Blk} (hc : H.get c = some B) : G.get c = some B := by
  rw [h.eq c fun s => by rw [h.no c s] at hc; cases hc]
  exact hc
theorem Fr.ne (h : Fr S F H G) {c : Nat} {B : Blk} (hc : H.get c = some B) : ¬ S c := fun s => by rw [h.no c s] at hc; cases hc
theorem Fr.new (h : Fr S F H G) (B : Blk) : Fr S F (H.new B) (G.new B) := by
  have hn : (G.new B).next = G.next + 1 := rfl
  have hn2 : (H.new B).next = H.next + 1 := rfl
  have hnx := h.nx
  refine ⟨by rw [hn, hn2, hnx], h.wl, fun c s => by have := h.lt c s; omega, fun c s => ?_, fun c s => ?_, fun c s => ?_, h.nw⟩
  · have := h.lt c s
    rw [Heap.get_new, if_neg (by omega)]
    exact h.no c s
  · have := h.lt c s
    rw [Heap.get_new, if_neg (by omega)]
    exact h.at' c s
  · rw [Heap.get_new, Heap.get_new, hnx, h.eq c s]
theorem Fr.upd (h : Fr S F H G) {b : Nat} {B : Blk} (B' : Blk) (hg : H.get b = some B) : Fr S F (H.upd b B') (G.upd b B') := by
  have hb := h.ne hg
  have hne : ∀ c, S c → ¬ c = b := fun c s e => hb (e ▸ s)
  refine ⟨h.nx, ?_, h.lt, fun c s => ?_, fun c s => ?_, fun c s => ?_, fun c s hc => ?_⟩
  · show b :: G.wl = b :: H.wl
    rw [h.wl]
  · rw [Heap.get_upd, if_neg (hne c s)]
    exact h.no c s
  · rw [Heap.get_upd, if_neg (hne c s)]
    exact h.at' c s
  · rw [Heap.get_upd, Heap.get_upd, h.eq c s]
  · rcases List.mem_cons.1 hc with e | e
    · exact hne c s e
    · exact h.nw c s e
theorem Fr.kill (h : Fr S F H G) {b : Nat} {B : Blk} (hg : H.get b = some B) : Fr S F (H.kill b) (G.kill b) := by
  have hb := h.ne hg
  have hne : ∀ c, S c → ¬ c = b := fun c s e => hb (e ▸ s)
  refine ⟨h.nx, ?_, h.lt, fun c s => ?_, fun c s => ?_, fun c s => ?_, fun c s hc => ?_⟩
  · show b :: G.wl = b :: H.wl
    rw [h.wl]
  · rw [Heap.get_kill, if_neg (hne c s)]
    exact h.no c s
  · rw [Heap.get_kill, if_neg (hne c s)]
    exact h.at' c s
  · rw [Heap.get_kill, Heap.get_kill, h.eq c s]
  · rcases List.mem_cons.1 hc with e | e
    · exact hne c s e
    · exact h.nw c s e
/-- What a way of calling does it does with more blocks too. -/
def CallFr (cf : CallF) : Prop := ∀ (S : Nat → Prop) (F : Nat → Option Blk) f args H v H' G, cf f args H = some (v, H') → Fr S F H G → ∃ G', cf f args G = some (v, G') ∧ Fr S F H' G'
theorem up_fr {x : Option Value} {v : Value} (h : Fr S F H G) (hr : up H x = some (v, H')) : ∃ G', up G x = some (v, G') ∧ Fr S F H' G' := by
  obtain ⟨rfl, rfl⟩ := up_some hr
  exact ⟨G, rfl, h⟩
theorem newCells_fr (h : Fr S F H G) {size : Nat} {zs : List Value} {z : Bool} {v : Value} {r : Nat × List Value} (hr : newCells T H size zs z v = some r) : newCells T G size zs z v = some r := by
  unfold newCells at hr ⊢
  split at hr <;> (try (cases hr; done)) <;> (try exact hr)
  split at hr <;> (try (cases hr; done))
  rename_i hg
  rw [h.get hg]
  exact hr
theorem op_fr (hcf : CallFr cf) (h : Fr S F H G) {ao : AOp} {v : Value} (hr : opRun P cf T H ao = some (v, H')) : ∃ G', opRun P cf T G ao = some (v, G') ∧ Fr S F H' G' := by
  cases hl : looks ao with
  | true =>
    have e := look_same hl hr
    subst e
    exact ⟨G, look_local hl hr fun b hb hs => by
      obtain ⟨B, hB⟩ := Option.isSome_iff_exists.1 hs
      rw [h.get hB, hB], h⟩
  | false =>
  cases ha : acts ao with
  | false =>
    cases ao <;> (try (cases ha; done)) <;> (try (cases hl; done)) <;> simp only [opRun] at hr ⊢ <;> first
      | exact up_fr h hr
      | (simp only [Option.some.injEq, Prod.mk.injEq] at hr; obtain ⟨rfl, rfl⟩ := hr; exact ⟨G, rfl, h⟩)
  | true =>
  cases ao <;> (try (cases ha; done)) <;> simp only [opRun] at hr ⊢
  case new e zs => cases hr; exact ⟨_, by rw [fresh, h.nx], h.new _⟩
  case box e x => cases hr; exact ⟨_, by rw [fresh, h.nx], h.new _⟩
  case buildSlice e len zs parts =>
    simp only [oBuildSlice, Option.bind_eq_some_iff] at hr ⊢
    obtain ⟨cs, hc, hr⟩ := hr
    cases hr; exact ⟨_, ⟨cs, hc, by rw [freshRow, h.nx]⟩, h.new _⟩
  case store n x u =>
    unfold oStore at hr ⊢
    split at hr <;> (try (cases hr; done))
    split at hr <;> (try (cases hr; done))
    rename_i hg
    split at hr <;> (try (cases hr; done))
    rename_i h1 h2
    simp only [Option.map_eq_some_iff, Prod.mk.injEq] at hr
    obtain ⟨cs2, h3, rfl, rfl⟩ := hr
    simp only [h.get hg, h1, h2, h3, Option.map_some]
    exact ⟨_, rfl, h.upd _ hg⟩
  case bytes e x =>
    unfold oBytes at hr ⊢
    split at hr <;> (try (cases hr; done))
    split at hr <;> (try (cases hr; done))
    rename_i h1
    cases hr
    simp only [h1, freshRow, h.nx]
    exact ⟨_, rfl, h.new _⟩
  case mark x =>
    unfold oMark at hr ⊢
    split at hr <;> (try (cases hr; done))
    split at hr <;> (try (cases hr; done))
    rename_i hg
    cases hr
    simp only [h.get hg]
    exact ⟨_, rfl, h.upd _ hg⟩
  case makeMap => cases hr; exact ⟨_, by rw [h.nx], h.new _⟩
  case makeSlice e s b zs l c =>
    unfold oMakeSlice at hr ⊢
    split at hr <;> (try (cases hr; done))
    rename_i e1 e2
    split at hr <;> (try (cases hr; done))
    rename_i h1 h2 h3
    cases hr
    simp only [e1, e2, h1, h2, h3, freshRow, h.nx]
    exact ⟨_, rfl, h.new _⟩
  case mapSet q k m i u =>
    unfold oMapSet at hr ⊢
    split at hr <;> (try (cases hr; done))
    split at hr <;> (try (cases hr; done))
    rename_i hg
    split at hr <;> (try (cases hr; done))
    · rename_i h1
      split at hr <;> (try (cases hr; done))
      rename_i h2
      split at hr <;> (try (cases hr; done))
      rename_i h3
      cases hr
      simp only [h.get hg, h1, h2, h3]
      exact ⟨_, rfl, h.upd _ hg⟩
    · rename_i h1
      cases hr
      simp only [h.get hg, h1]
      exact ⟨_, rfl, h.upd _ hg⟩
  case rangeS x =>
    unfold oRangeS at hr ⊢
    split at hr <;> (try (cases hr; done))
    cases hr
    simp only [h.nx]
    exact ⟨_, rfl, h.new _⟩
  case next x =>
    unfold oNext at hr ⊢
    split at hr <;> (try (cases hr; done))
    split at hr <;> (try (cases hr; done))
    rename_i hg
    split at hr
    · rename_i h1
      cases hr
      simp only [h.get hg, h1]
      exact ⟨_, rfl, h.upd _ hg⟩
    · rename_i h1
      cases hr
      simp only [h.get hg, h1]
      exact ⟨_, rfl, h⟩
  case append e size b zs zeros s x =>
    simp only [oAppend, Option.bind_eq_some_iff] at hr ⊢
    obtain ⟨⟨n, new⟩, hnew, hr⟩ := hr
    suffices hs : ∃ G', (match new.all scalar with | true => appendTo G e size b (s.ev T) n new | false => none) = some (v, G') ∧ Fr S F H' G' by
      obtain ⟨G', h1, h2⟩ := hs
      exact ⟨G', ⟨(n, new), newCells_fr h hnew, h1⟩, h2⟩
    simp only at hr
    split at hr <;> (try (cases hr; done))
    rename_i hsc
    simp only [hsc]
    unfold appendTo at hr ⊢
    split at hr <;> (try (cases hr; done))
    · split at hr
      · cases hr
        exact ⟨_, rfl, h⟩
      · split at hr <;> (try (cases hr; done))
        rename_i h1
        cases hr
        simp only [h1, freshRow, h.nx]
        exact ⟨_, rfl, h.new _⟩
    · split at hr <;> (try (cases hr; done))
      rename_i hg
      split at hr <;> (try (cases hr; done))
      rename_i h1 h2
      simp only [h.get hg, h1, h2]
      split at hr
      · rename_i h3
        try simp only [h3]
        unfold appU at hr ⊢
        split at hr
        · cases hr
          exact ⟨_, rfl, h⟩
        · split at hr <;> (try (cases hr; done))
          rename_i h4
          cases hr
          simp only [h4, freshRow]
          rw [show (G.kill _).next = (H.kill _).next from h.nx]
          exact ⟨_, rfl, (h.kill hg).new _⟩
      · rename_i h3
        try simp only [h3]
        unfold appX at hr ⊢
        split at hr
        · rename_i h4
          try simp only [h4]
          split at hr
          · cases hr
            exact ⟨_, rfl, h⟩
          · split at hr <;> (try (cases hr; done))
            rename_i h5
            cases hr
            try simp only [h5]
            exact ⟨_, rfl, h.upd _ hg⟩
        · rename_i h4
          try simp only [h4]
          split at hr <;> (try (cases hr; done))
          rename_i h5
          cases hr
          simp only [h5, freshRow, h.nx]
          exact ⟨_, rfl, h.new _⟩
  case copy => cases hr
  case delete q k m i =>
    unfold oDelete at hr ⊢
    split at hr <;> (try (cases hr; done))
    · split at hr <;> (try (cases hr; done))
      rename_i h1
      cases hr
      exact ⟨_, rfl, h⟩
    · split at hr <;> (try (cases hr; done))
      rename_i hg
      split at hr <;> (try (cases hr; done))
      · rename_i h1
        cases hr
        simp only [h.get hg, h1]
        exact ⟨_, rfl, h.upd _ hg⟩
      · rename_i h1
        cases hr
        simp only [h.get hg, h1]
        exact ⟨_, rfl, h⟩
  case call f args =>
    unfold oCall at hr ⊢
    split at hr <;> (try (cases hr; done))
    exact hcf _ _ _ _ _ _ _ _ hr h
theorem ops_fr (hcf : CallFr cf) : ∀ (l : List AOper) (T : Tr Value) (H G : Heap) (T' : Tr Value) (H' : Heap), opsRun P cf l T H = some (T', H') → Fr S F H G → ∃ G', opsRun P cf l T G = some (T', G') ∧ Fr S F H' G'
  | [], T, H, G, T', H', hr, h => by cases hr; exact ⟨G, rfl, h⟩
  | o :: l, T, H, G, T', H', hr, h => by
    simp only [opsRun] at hr ⊢
    split at hr
    · split at hr <;> (try (cases hr; done))
      rename_i ho
      obtain ⟨G1, h1, h2⟩ := op_fr hcf h ho
      simp only [h1]
      exact ops_fr hcf l _ _ _ _ _ hr h2
    · exact ops_fr hcf l _ _ _ _ _ hr h
theorem draw_fr (hcf : CallFr cf) : ∀ (l : List AOper) (R W : List Nat) (T : Tr Value) (H G : Heap) (T' : Tr Value) (H' : Heap), drawRun P cf l R W T H = some (T', H') → Fr S F H G → ∃ G', drawRun P cf l R W T G = some (T', G') ∧ Fr S F H' G'
  | [], R, W, T, H, G, T', H', hr, h => by cases hr; exact ⟨G, rfl, h⟩
  | o :: l, R, W, T, H, G, T', H', hr, h => by
    simp only [drawRun] at hr ⊢
    split at hr
    · split at hr <;> (try (cases hr; done))
      rename_i v H1 ho
      have h0 : Fr S F ⟨H.t, H.next, []⟩ ⟨G.t, G.next, []⟩ := ⟨h.nx, rfl, h.lt, h.no, h.at', h.eq, fun c _ hc => by cases hc⟩
      obtain ⟨G1, h1, h2⟩ := op_fr hcf h0 ho
      simp only [h1]
      have h3 : Fr S F ⟨H1.t, H1.next, H1.wl ++ H.wl⟩ ⟨G1.t, G1.next, G1.wl ++ G.wl⟩ := ⟨h2.nx, by show G1.wl ++ G.wl = H1.wl ++ H.wl; rw [h2.wl, h.wl], h2.lt, h2.no, h2.at', h2.eq, fun c s hc => by
        rcases List.mem_append.1 hc with e | e
        · exact h2.nw c s e
        · exact h.nw c s e⟩
      split at hr
      · exact draw_fr hcf l _ _ _ _ _ _ _ hr h3
      · split at hr <;> (try (cases hr; done))
        rename_i hm
        rw [← h2.wl] at hm
        rw [hm]
        exact draw_fr hcf l _ _ _ _ _ _ _ hr h3
    · exact draw_fr hcf l _ _ _ _ _ _ _ hr h
theorem iter_fr {f : Tr Value → Heap → Option Res} (hf : ∀ T H G r, f T H = some r → Fr S F H G → ∃ G', f T G = some (r.1, r.2.1, G') ∧ Fr S F r.2.2 G') : ∀ (k : Nat) (T : Tr Value) (H G : Heap) (r : Res), iter f k T H = some r → Fr S F H G → ∃ G', iter f k T G = some (r.1, r.2.1, G') ∧ Fr S F r.2.2 G'
  | 0, T, H, G, r, hr, h => by cases hr
  | k + 1, T, H, G, r, hr, h => by
    unfold iter at hr ⊢
    split at hr
    · rename_i T1 H1 h1
      obtain ⟨G1, g1, g2⟩ := hf T H G _ h1 h
      simp only at g1 g2
      rw [g1]
      exact iter_fr hf k _ _ _ _ hr g2
    · rename_i hno
      obtain ⟨G1, g1, g2⟩ := hf T H G _ hr h
      rw [g1]
      obtain ⟨x, T1, H1⟩ := r
      cases x with
      | normal => exact (hno T1 H1 hr).elim
      | exit i => exact ⟨G1, rfl, g2⟩
      | ret => exact ⟨G1, rfl, g2⟩
theorem exec_fr (hcf : CallFr cf) (k : Nat) : ∀ (c : ACode) (T : Tr Value) (H G : Heap) (r : Res), exec P cf k c T H = some r → Fr S F H G → ∃ G', exec P cf k c T G = some (r.1, r.2.1, G') ∧ Fr S F r.2.2 G'
  | .skip, T, H, G, r, hr, h => by cases hr; exact ⟨G, rfl, h⟩
  | .ops l, T, H, G, r, hr, h => by
    simp only [exec] at hr ⊢
    split at hr <;> (try (cases hr; done))
    rename_i ho
    cases hr
    obtain ⟨G1, h1, h2⟩ := ops_fr hcf l _ _ _ _ _ ho h
    rw [h1]
    exact ⟨G1, rfl, h2⟩
  | .draw l, T, H, G, r, hr, h => by
    simp only [exec] at hr ⊢
    split at hr <;> (try (cases hr; done))
    rename_i ho
    cases hr
    obtain ⟨G1, h1, h2⟩ := draw_fr hcf l _ _ _ _ _ _ _ ho h
    rw [h1]
    exact ⟨G1, rfl, h2⟩
  | .seq a b, T, H, G, r, hr, h => by
    simp only [exec] at hr ⊢
    split at hr
    · rename_i T1 H1 h1
      obtain ⟨G1, g1, g2⟩ := exec_fr hcf k a _ _ _ _ h1 h
      simp only at g1 g2
      rw [g1]
      exact exec_fr hcf k b _ _ _ _ hr g2
    · rename_i hno
      obtain ⟨G1, g1, g2⟩ := exec_fr hcf k a _ _ _ _ hr h
      rw [g1]
      obtain ⟨x, T1, H1⟩ := r
      cases x with
      | normal => exact (hno T1 H1 hr).elim
      | exit i => exact ⟨G1, rfl, g2⟩
      | ret => exact ⟨G1, rfl, g2⟩
  | .cond c x y, T, H, G, r, hr, h => by
    simp only [exec] at hr ⊢
    split at hr <;> (try (cases hr; done))
    · exact exec_fr hcf k x _ _ _ _ hr h
    · exact exec_fr hcf k y _ _ _ _ hr h
  | .block id b, T, H, G, r, hr, h => by
    simp only [exec] at hr ⊢
    split at hr
    · rename_i i T1 H1 h1
      obtain ⟨G1, g1, g2⟩ := exec_fr hcf k b _ _ _ _ h1 h
      simp only at g1 g2
      rw [g1]
      simp only
      split at hr
      · rename_i hq
        cases hr
        try rw [hq]
        exact ⟨G1, rfl, g2⟩
      · rename_i hq
        cases hr
        try rw [hq]
        exact ⟨G1, rfl, g2⟩
    · rename_i hno
      obtain ⟨G1, g1, g2⟩ := exec_fr hcf k b _ _ _ _ hr h
      rw [g1]
      obtain ⟨x, T1, H1⟩ := r
      cases x with
      | normal => exact ⟨G1, rfl, g2⟩
      | exit i => exact (hno i T1 H1 hr).elim
      | ret => exact ⟨G1, rfl, g2⟩
  | .loop b, T, H, G, r, hr, h => iter_fr (fun T H G r hr h => exec_fr hcf k b T H G r hr h) k T H G r hr h
  | .scope b, T, H, G, r, hr, h => exec_fr hcf k b T H G r hr h
  | .exit id, T, H, G, r, hr, h => by cases hr; exact ⟨G, rfl, h⟩
  | .ret, T, H, G, r, hr, h => by cases hr; exact ⟨G, rfl, h⟩
theorem resOf_fr (h : Fr S F H G) : ∀ (rs : List ARes) (l : List Value), resOf T H rs = some l → resOf T G rs = some l
  | [], l, hr => hr
  | .t n :: rs, l, hr => by
    simp only [resOf, Option.map_eq_some_iff] at hr ⊢
    obtain ⟨m, h1, h2⟩ := hr
    exact ⟨m, resOf_fr h rs m h1, h2⟩
  | .cell a n :: rs, l, hr => by
    simp only [resOf] at hr ⊢
    split at hr <;> (try (cases hr; done))
    split at hr <;> (try (cases hr; done))
    rename_i hg
    simp only [h.get hg]
    simp only [Option.bind_eq_some_iff, Option.map_eq_some_iff] at hr ⊢
    obtain ⟨v, h1, m, h2, h3⟩ := hr
    exact ⟨v, h1, m, resOf_fr h rs m h2, h3⟩
theorem result_fr (h : Fr S F H G) {rs : List ARes} {v : Value} (hr : result T H rs = some v) : result T G rs = some v := by
  unfold result at hr ⊢
  cases ho : resOf T H rs with
  | none => rw [ho] at hr; cases hr
  | some l => rw [resOf_fr h _ _ ho]; rw [ho] at hr; exact hr
def ExtFr (g : ExtF) : Prop := ∀ (S : Nat → Prop) (F : Nat → Option Blk) args H v H' G, g args H = some (v, H') → Fr S F H G → ∃ G', g args G = some (v, G') ∧ Fr S F H' G'
theorem callN_fr {E : Env} (hE : ∀ f g, E.ext f = some g → ExtFr g) : ∀ n, CallFr (callN P E n)
  | 0 => fun S F f args H v H' G hr h => by cases hr
  | n + 1 => fun S F f args H v H' G hr h => by
    simp only [callN] at hr ⊢
    split at hr
    · rename_i g hg
      exact hE f g hg S F args H v H' G hr h
    · rename_i hg
      split at hr <;> (try (cases hr; done))
      rename_i fn hf
      split at hr <;> (try (cases hr; done))
      rename_i ha
      try simp only [hf, ha]
      split at hr <;> (try (cases hr; done))
      rename_i x T1 H1 hno hx
      obtain ⟨G1, g1, g2⟩ := exec_fr (callN_fr hE n) _ _ _ _ _ _ hx h
      simp only at g1 g2
      simp only [Option.map_eq_some_iff, Prod.mk.injEq] at hr
      obtain ⟨v1, h1, rfl, rfl⟩ := hr
      rw [g1]
      refine ⟨G1, ?_, g2⟩
      cases x with
      | exit i => exact (hno i rfl).elim
      | normal => simp only [result_fr g2 h1, Option.map_some]
      | ret => simp only [result_fr g2 h1, Option.map_some]
theorem extTrue_fr : ExtFr extTrue := fun S F args H v H' G hr h => by
  unfold extTrue at hr ⊢
  split at hr <;> (try (cases hr; done))
  cases hr
  exact ⟨G, rfl, h⟩
theorem extCmp_fr : ExtFr extCmp := fun S F args H v H' G hr h => by
  unfold extCmp at hr ⊢
  split at hr <;> (try (cases hr; done))
  cases hr
  exact ⟨G, rfl, h⟩
theorem extJoin_fr : ExtFr extJoin := fun S F args H v H' G hr h => by
  unfold extJoin at hr ⊢
  split at hr <;> (try (cases hr; done))
  · cases hr
    exact ⟨G, rfl, h⟩
  · split at hr <;> (try (cases hr; done))
    rename_i hg
    split at hr <;> (try (cases hr; done))
    rename_i h1
    simp only at hr
    split at hr <;> (try (cases hr; done))
    rename_i h2 h3
    cases hr
    simp only [h.get hg, h1, h2, h3]
    exact ⟨G, rfl, h⟩
end
/-! calls in a region that draws -/
/-- Memory without some blocks. -/
def HC.less (C : HC) (K : List Nat) : HC := ⟨K.foldr (fun b t => t.del b) C.t, C.next⟩
theorem get_less (C : HC) (c : Nat) : ∀ K : List Nat, (C.less K).get c = if c ∈ K then none else C.get c
  | [] => rfl
  | b :: K => by
    have ih := get_less C c K
    show ((K.foldr (fun b t => t.del b) C.t).del b).get c = _
    rw [Tr.get_del]
    by_cases hc : c = b
    · rw [if_pos hc, if_pos (by rw [hc]; exact List.mem_cons_self)]
    · rw [if_neg hc]
      refine ih.trans ?_
      by_cases hk : c ∈ K
      · rw [if_pos hk, if_pos (List.mem_cons_of_mem _ hk)]
      · rw [if_neg hk, if_neg (by rw [List.mem_cons, not_or]; exact ⟨hc, hk⟩)]
theorem chg_less (C : HC) (K : List Nat) : Chg (· ∈ K) C (C.less K) := ⟨Nat.le_refl _, fun b B hb hg => by rw [get_less, if_neg hb]; exact hg, fun w b hb => by
  rw [get_less]
  split
  · rfl
  · exact w b hb⟩
section
variable {P : Program} {cf : CallF} {l : List AOper} {L : Lv} {H : Heap} {Q : Lv → Heap → Prop} {d : Option Nat} {R W K : List Nat} {v : Value} {x : Arg}
theorem Rn.fr (hcf : CallFr cf) {f : Nat} {vs : List Value} {S : Value → HC → Prop} (hK : ∀ b ∈ K, b < H.c.next) (h : Rn cf f vs (H.c.less K) S) :
    ∃ v G D, cf f vs (noWl H) = some (v, G) ∧ S v D ∧ Gr D G.c ∧ (Gr (H.c.less K) D → Gr H.c G.c) ∧ ∀ q ∈ K, q ∉ G.wl := by
  obtain ⟨v, G0, h1, h2⟩ := h ⟨(H.c.less K).t, H.next, []⟩ rfl
  have h0 : Fr (· ∈ K) H.get ⟨(H.c.less K).t, H.next, []⟩ (noWl H) := ⟨rfl, rfl, hK, fun c s => (get_less H.c c K).trans (if_pos s), fun c s => rfl, fun c s => ((get_less H.c c K).trans (if_neg s)).symm, fun c s hc => by cases hc⟩
  obtain ⟨G, h3, h4⟩ := hcf _ _ _ _ _ _ _ _ h1 h0
  have hnx : G.next = G0.next := h4.nx
  refine ⟨v, G, G0.c, h3, h2, ⟨Nat.le_of_eq hnx.symm, fun b B _ hg => h4.get hg, fun w b hb => ?_⟩, fun g => ⟨by have := g.next; show H.next ≤ G.next; rw [hnx]; exact this, fun b B _ hg => ?_, fun w b hb => ?_⟩, fun q hq => by rw [h4.wl]; exact h4.nw q hq⟩
  · by_cases hk : b ∈ K
    · have h5 := h4.lt b hk
      have h6 : G.next ≤ b := hb
      omega
    · exact (h4.eq b hk).trans (w b (by have h6 : G.next ≤ b := hb; show G0.next ≤ b; omega))
  · by_cases hk : b ∈ K
    · exact (h4.at' b hk).trans hg
    · exact h4.get (g.at (by rw [get_less, if_neg hk]; exact hg))
  · by_cases hk : b ∈ K
    · have h5 := h4.lt b hk
      have h6 : G.next ≤ b := hb
      omega
    · have hw : (H.c.less K).wf := (chg_less H.c K).wf w
      exact (h4.eq b hk).trans (g.wf hw b (by have h6 : G.next ≤ b := hb; show G0.next ≤ b; omega))
theorem apart_of {R : List Nat} : ∀ {w : List Nat}, (∀ q ∈ R, q ∉ w) → apart R w = true
  | [], _ => rfl
  | c :: w, h => by
    have hc : has c R = false := has_no fun q hq e => h q hq (by rw [e]; exact List.mem_cons_self)
    show (match has c R with | true => false | false => apart R w) = true
    rw [hc]
    exact apart_of fun q hq hm => h q hq (List.mem_cons_of_mem _ hm)
/-- A call that may move, in a region that draws: what was looked at, and K, it does not write. -/
theorem XD.caFp (hcf : CallFr cf) (K : List Nat) {f : Nat} {args : List Arg} {vs : List Value} {S : Value → HC → Prop} (hK : ∀ b ∈ K, b < H.c.next) (hR : ∀ q ∈ R, q ∈ K) (h : Rn cf f vs (H.c.less K) S) (ha : avs L args = some vs)
    (hk : ∀ v D G W', S v D → Gr D (Heap.c G) → (Gr (H.c.less K) D → Gr H.c (Heap.c G)) → (∀ q ∈ K, q ∈ W' → q ∈ W) → XD P cf l R W' (putL L d v) G Q) : XD P cf (⟨d, none, true, .call (.c (.func (.func f) #[] #[])) args⟩ :: l) R W L H Q := by
  obtain ⟨v, G, D, h1, h2, h3, h4, h5⟩ := h.fr hcf hK
  have hap : apart R G.wl = true := apart_of fun q hq => h5 q (hR q hq)
  exact XD.opFp (o_call ha h1) (R' := R) (W' := G.wl ++ W) (fun T hT => by
    show (match apart R G.wl with | true => some (R, G.wl ++ W) | false => none) = _
    rw [hap]) (hk v D (addWl G H) _ h2 h3 h4 fun q hq hm => by
      rcases List.mem_append.1 hm with e | e
      · exact (h5 q hq e).elim
      · exact e)
/-- A look behind writes of others. -/
theorem XD.ldFpW {b off : Nat} {m : Option Nat} {own : Bool} {e : TypeId} {cs : List Value} (hx : av L x = some (.pointer (some ⟨b, off, none⟩))) (hb : H.c.get b = some (.cells own e cs)) (hv : partOf m off cs = some v) (hW : b ∉ W) (hk : XD P cf l (b :: R) W (putL L d v) H Q) : XD P cf (⟨d, none, true, .load m x⟩ :: l) R W L H Q := by
  have hno : has b W = false := has_no fun q hq e => hW (e ▸ hq)
  exact XD.opFp (o_get (H := noWl H) hx hb hv) (R' := b :: R) (W' := W) (fun T hT => by
    have h1 : lookBlk T (.load m x) = some b := by simp only [lookBlk, hT.ev hx, blockOf]
    show (match lookBlk T (.load m x) with | none => some (R, W) | some b => match has b W with | true => none | false => some (b :: R, W)) = _
    rw [h1]
    simp only [hno]) (by simpa [addWl, noWl] using hk)
end
end Go.Proofs.Ytffokmamcempgaa.AM
