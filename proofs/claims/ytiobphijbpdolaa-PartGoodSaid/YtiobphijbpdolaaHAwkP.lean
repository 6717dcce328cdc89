/- The contract of inkhornlaw12.awake: it returns true. -/
import Derived.Test.YtiobphijbpdolaaPx5
import Derived.Test.YtiobphijbpdolaaPx2
import Derived.Test.YtiobphijbpdolaaHOf
namespace Go.Proofs.Ytiobphijbpdolaa.P
open Go.RowKit Go.Proofs.YtiobphijbpdolaaW.PrintWords Go.Proofs.YtiobphijbpdolaaW.PrintLast Go.Proofs.YtiobphijbpdolaaW.PrintMore
set_option linter.unusedVariables false
set_option linter.unusedSimpArgs false

theorem tl_one : (⟨#[109]⟩ : ByteArray).toList = [109] := by decide +kernel
theorem tl_nil : (⟨#[]⟩ : ByteArray).toList = [] := by decide +kernel
def pairL : List S24 := [⟨2, ⟨#[]⟩⟩, ⟨3, ⟨#[109]⟩⟩]
theorem pair_reads (w : World) : Calls Try.prog 48 #[] w fun e w' => ∃ A c, e = .returned (.slice A pairL.length c) ∧ pairL.length ≤ c ∧ Kd.C k24 w' A pairL.length pairL ∧ Below w.heap.size w w' := by
  refine (inkhornlaw12_pair.calls pairL w rfl).mono ?_
  rintro e w' ⟨v, rfl, hR, hb⟩
  obtain ⟨A, c, rfl, hc, hC⟩ := Kd.R_reads hR
  exact ⟨A, c, rfl, hc, hC, hb⟩

def inkhornlaw12_awake.f : Option Bool := some true
set_option maxHeartbeats 1000000 in
set_option maxRecDepth 100000 in
theorem inkhornlaw12_awake.calls (r : Bool) (w : World) (h : inkhornlaw12_awake.f = some r) :
    Calls Try.prog 14 #[] w fun e w' => e = .returned (.bool r) ∧ Below w.heap.size w w' := by
  obtain rfl := Option.some.inj h
  have hz := Lib.hid (show part_Of.f pairL ⟨#[122]⟩ = some 0 by decide +kernel)
  have ha := Lib.hid (show part_Of.f pairL ⟨#[97, 97]⟩ = some 1 by decide +kernel)
  have hm := Lib.hid (show part_Of.f pairL ⟨#[109, 109, 109]⟩ = some 2 by decide +kernel)
  have hl := Lib.hid (show part_Lens.f 2 pairL 1 = some (2, 3) by simp [part_Lens.f, part_Lens.j0, part_Lens.j1, pairL, rd_T24, wrap64, tl_one, tl_nil])
  have he := Lib.hid (show part_Least.f 2 pairL 1 6 = some 3 by simp [part_Least.f, hl.out, wrap64])
  go_enter Try.func14, Try.ntmps14
  go_wp2_with fail
  refine (pair_reads _).mono ?_
  rintro e w1 ⟨A1, c1, rfl, hc1, hC1, hb1⟩
  have H1 := Aside0.mk hC1; have B1 := Aside0.mk hb1; clear hC1 hb1
  go_wp2_with fail
  refine (part_Lens.calls 2 A1 c1 pairL 1 2 3 _ H1.out hc1 hl.out).mono ?_
  rintro e w2 ⟨rfl, ⟨n2, rfl⟩⟩
  clear H1 hc1
  go_wp2_with fail
  refine (pair_reads _).mono ?_
  rintro e w3 ⟨A3, c3, rfl, hc3, hC3, hb3⟩
  have H3 := Aside0.mk hC3; have B3 := Aside0.mk (below_step (pw_below_drewN B1.out _) hb3); clear hC3 hb3
  go_wp2_with fail
  refine (part_Of.calls A3 c3 pairL _ 0 _ H3.out hc3 hz.out).mono ?_
  rintro e w4 ⟨rfl, hb4⟩
  have B4 := Aside0.mk (below_step B3.out hb4); clear hb4 H3 hc3
  go_wp2_with fail
  refine (pair_reads _).mono ?_
  rintro e w5 ⟨A5, c5, rfl, hc5, hC5, hb5⟩
  have H5 := Aside0.mk hC5; have B5 := Aside0.mk (below_step B4.out hb5); clear hC5 hb5
  go_wp2_with fail
  refine (part_Of.calls A5 c5 pairL _ 1 _ H5.out hc5 ha.out).mono ?_
  rintro e w6 ⟨rfl, hb6⟩
  have B6 := Aside0.mk (below_step B5.out hb6); clear hb6 H5 hc5
  go_wp2_with fail
  refine (pair_reads _).mono ?_
  rintro e w7 ⟨A7, c7, rfl, hc7, hC7, hb7⟩
  have H7 := Aside0.mk hC7; have B7 := Aside0.mk (below_step B6.out hb7); clear hC7 hb7
  go_wp2_with fail
  refine (part_Of.calls A7 c7 pairL _ 2 _ H7.out hc7 hm.out).mono ?_
  rintro e w8 ⟨rfl, hb8⟩
  have B8 := Aside0.mk (below_step B7.out hb8); clear hb8 H7 hc7
  go_wp2_with fail
  refine (pair_reads _).mono ?_
  rintro e w9 ⟨A9, c9, rfl, hc9, hC9, hb9⟩
  have H9 := Aside0.mk hC9; have B9 := Aside0.mk (below_step B8.out hb9); clear hC9 hb9
  go_wp2_with fail
  refine (part_Least.calls 2 A9 c9 pairL 1 6 3 _ H9.out hc9 he.out).mono ?_
  rintro e w10 ⟨rfl, ⟨n10, rfl⟩⟩
  go_wp2
  go_ret
  exact ⟨rfl, pw_below_drewN B9.out _⟩
end Go.Proofs.Ytiobphijbpdolaa.P
