/- PlaceImages: the given program's walk. -/
import Derived.Test.YtffokmamcempgaaPImg
import Derived.Test.YtffokmamcempgaaAMIn2
import Derived.Test.YtffokmamcempgaaKinds
namespace Go.Proofs.Ytffokmamcempgaa.P
open Go Go.RowKit Go.Proofs.Ytffokmamcempgaa.AM Go.Proofs.YtffokmamcempgaaW.PrintWords
set_option linter.unusedVariables false
set_option linter.unusedSimpArgs false
set_option maxRecDepth 100000
theorem cfg_cells : Try.prog.cellTypes Try.prog.depth 25 = some [22, 23, 3, 3, 3, 3, 3, 3, 3, 3, 3, 3] := by kernel_rfl
theorem cfg_wide {W : World} {base : Nat} {cs : List Value} (h : Value.okWide Try.prog W .any base 25 (.agg ⟨cs⟩)) : (∀ v, cs[0]? = some v → Cell.okWide Try.prog W .any base 22 v) ∧ ∀ v, cs[1]? = some v → Cell.okWide Try.prog W .any base 23 v := by
  simp only [Value.okWide, Try.underlying25] at h
  obtain ⟨cs', e, _, ts, hts, _, hall⟩ := h
  cases e
  rw [cfg_cells] at hts
  cases hts
  refine ⟨fun v hv => ?_, fun v hv => ?_⟩
  · obtain ⟨u, hu, hk⟩ := hall 0 v (by simpa using hv)
    cases hu
    exact hk
  · obtain ⟨u, hu, hk⟩ := hall 1 v (by simpa using hv)
    cases hu
    exact hk
def kyOf (x : S65) : Ky := ⟨x.f0, x.f1⟩
/-- A configuration that comes from outside. -/
structure CfgIn (W : World) (A0 A1 : Option Addr) (c0 c1 : Nat) (x : S25) : Prop where
  r0 : RowOk Try.prog W ⟨A0, x.f0.length, c0, 9, 1, x.f0.map Value.string⟩
  r1 : RowOk Try.prog W ⟨A1, x.f1.length, c1, 65, 2, ((x.f1.map kyOf).map Ky.cs).flatten⟩
theorem cfg_in {A0 A1 : Option Addr} {c0 c1 : Nat} {x : S25} {w : World} (hr0 : Kd.C Kd.string w A0 x.f0.length x.f0) (hr1 : Kd.C k65 w A1 x.f1.length x.f1) {base : Nat} {is : List Value}
    (hv : Value.okWide Try.prog w .any base 25 (.agg ⟨.slice A0 x.f0.length c0 :: .slice A1 x.f1.length c1 :: is⟩)) : CfgIn w A0 A1 c0 c1 x := by
  obtain ⟨h0, h1⟩ := cfg_wide hv
  have s0 : InSl w A0 x.f0.length c0 := okWide_in (P := Try.prog) (base := base) (r := .any) Try.underlying22 (by simp only [Value.okWide, Try.underlying22]; exact h0 _ rfl)
  have s1 : InSl w A1 x.f1.length c1 := okWide_in (P := Try.prog) (base := base) (r := .any) Try.underlying23 (by simp only [Value.okWide, Try.underlying23]; exact h1 _ rfl)
  refine ⟨?_, ?_⟩
  · have h := rowOk_of (P := Try.prog) (e := 9) (enc := fun x => [Value.string x]) hr0 s0 (fun x cs h => by obtain ⟨rfl⟩ := h; rfl) (fun _ => rfl) (by decide) (fun x v hv => by rw [List.mem_singleton.1 hv]; rfl) (by kernel_rfl)
    rwa [show (x.f0.map fun x => [Value.string x]).flatten = x.f0.map Value.string from by clear h hr0 hr1 hv s0 s1 h0 h1; generalize x.f0 = l; induction l <;> simp_all] at h
  · have h := rowOk_of (P := Try.prog) (e := 65) (enc := fun x => (kyOf x).cs) hr1 s1 (fun x cs h => by obtain ⟨_, _, rfl, rfl, rfl⟩ := h; rfl) (fun _ => rfl) (by decide) (fun x v hv => by rcases List.mem_cons.1 hv with rfl | hv; rfl; rw [List.mem_singleton.1 hv]; rfl) (by kernel_rfl)
    rwa [show (x.f1.map fun x => (kyOf x).cs) = (x.f1.map kyOf).map Ky.cs from by rw [List.map_map]; rfl] at h
/-- The configuration, as the machine has it. -/
def cfOf (A0 A1 : Option Addr) (c0 c1 : Nat) (x : S25) : Cf := ⟨absV ⟨A0, x.f0.length, c0, 9, 1, x.f0.map Value.string⟩ 0, absV ⟨A1, x.f1.length, c1, 65, 2, ((x.f1.map kyOf).map Ky.cs).flatten⟩ 1, x.f0, x.f1.map kyOf, x.f2, x.f3, x.f4, x.f5, x.f6, x.f7, x.f8, x.f9, x.f10, x.f11⟩
def cfRows (A0 A1 : Option Addr) (c0 c1 : Nat) (x : S25) : List InRow := [⟨A0, x.f0.length, c0, 9, 1, x.f0.map Value.string⟩, ⟨A1, x.f1.length, c1, 65, 2, ((x.f1.map kyOf).map Ky.cs).flatten⟩]
section
variable {W : World} {A0 A1 : Option Addr} {c0 c1 : Nat} {x : S25}
theorem CfgIn.rows (h : CfgIn W A0 A1 c0 c1 x) : ∀ r ∈ cfRows A0 A1 c0 c1 x, RowOk Try.prog W r := fun r hr => by
  rcases List.mem_cons.1 hr with rfl | hr
  · exact h.r0
  · rw [List.mem_singleton.1 hr]; exact h.r1
theorem CfgIn.w (h : CfgIn W A0 A1 c0 c1 x) {C : HC} (hg : C.get 0 = some (.cells false 9 (x.f0.map Value.string))) : strRow C (cfOf A0 A1 c0 c1 x).w (cfOf A0 A1 c0 c1 x).ws := Rw.abs (r := ⟨A0, x.f0.length, c0, 9, 1, x.f0.map Value.string⟩) h.r0.sl h.r0.len hg
theorem CfgIn.k (h : CfgIn W A0 A1 c0 c1 x) {C : HC} (hg : C.get 1 = some (.cells false 65 ((x.f1.map kyOf).map Ky.cs).flatten)) : keyRow C (cfOf A0 A1 c0 c1 x).k (cfOf A0 A1 c0 c1 x).ks := by
  have := Rw.abs (r := ⟨A1, x.f1.length, c1, 65, 2, ((x.f1.map kyOf).map Ky.cs).flatten⟩) h.r1.sl h.r1.len hg
  unfold keyRow
  rw [show (cfOf A0 A1 c0 c1 x).ks.length = x.f1.length from List.length_map ..]
  exact this
theorem CfgIn.vr (h : CfgIn W A0 A1 c0 c1 x) {rs : List InRow} (hrs : ∀ r ∈ rs, RowOk Try.prog W r) (h0 : rs[0]? = some ⟨A0, x.f0.length, c0, 9, 1, x.f0.map Value.string⟩) (h1 : rs[1]? = some ⟨A1, x.f1.length, c1, 65, 2, ((x.f1.map kyOf).map Ky.cs).flatten⟩) :
    VR (renOf (locsOf W rs)) (cfOf A0 A1 c0 c1 x).v (.agg #[.slice A0 x.f0.length c0, .slice A1 x.f1.length c1, .int .i64 x.f2, .int .i64 x.f3, .int .i64 x.f4, .int .i64 x.f5, .int .i64 x.f6, .int .i64 x.f7, .int .i64 x.f8, .int .i64 x.f9, .int .i64 x.f10, .int .i64 x.f11]) := by
  have hl : LR (renOf (locsOf W rs)) (cfOf A0 A1 c0 c1 x).cs [.slice A0 x.f0.length c0, .slice A1 x.f1.length c1, .int .i64 x.f2, .int .i64 x.f3, .int .i64 x.f4, .int .i64 x.f5, .int .i64 x.f6, .int .i64 x.f7, .int .i64 x.f8, .int .i64 x.f9, .int .i64 x.f10, .int .i64 x.f11] :=
    LR.cons (row_VR hrs h0) (LR.cons (row_VR hrs h1) (LR.cons (.int _ _) (LR.cons (.int _ _) (LR.cons (.int _ _) (LR.cons (.int _ _) (LR.cons (.int _ _) (LR.cons (.int _ _) (LR.cons (.int _ _) (LR.cons (.int _ _) (LR.cons (.int _ _) (LR.cons (.int _ _) (LR.nil _))))))))))))
  exact .agg _ _ hl.1 hl.2
end
theorem in_get {rs : List InRow} {i : Nat} {r : InRow} (h : rs[i]? = some r) : (inHeap (rowsOf rs)).c.get i = some (.cells false r.e r.vs) := by
  show (inHeap (rowsOf rs)).get i = _
  rw [inHeap_get]
  simp only [rowsOf, List.getElem?_map, h, Option.map_some]
theorem PlaceImages_walk (A0 : Option Addr) (c0 : Nat) (A1 : Option Addr) (c1 : Nat) (x : S25) (w : World) (hr0 : Kd.C Kd.string w A0 x.f0.length x.f0) (hc0 : x.f0.length ≤ c0) (hr1 : Kd.C k65 w A1 x.f1.length x.f1) (hc1 : x.f1.length ≤ c1) {base : Nat}
    (hv : Value.okWide Try.prog w .any base 25 (.agg #[.slice A0 x.f0.length c0, .slice A1 x.f1.length c1, .int .i64 x.f2, .int .i64 x.f3, .int .i64 x.f4, .int .i64 x.f5, .int .i64 x.f6, .int .i64 x.f7, .int .i64 x.f8, .int .i64 x.f9, .int .i64 x.f10, .int .i64 x.f11])) (ff : F25 x) :
    Calls Try.prog 6 #[.agg #[.slice A0 x.f0.length c0, .slice A1 x.f1.length c1, .int .i64 x.f2, .int .i64 x.f3, .int .i64 x.f4, .int .i64 x.f5, .int .i64 x.f6, .int .i64 x.f7, .int .i64 x.f8, .int .i64 x.f9, .int .i64 x.f10, .int .i64 x.f11]] w fun e w' => e = .returned (.bool true) ∧ Below w.heap.size w w' := by
  have hin := cfg_in hr0 hr1 hv
  have hall := hin.rows
  have hwf : (inHeap (rowsOf (cfRows A0 A1 c0 c1 x))).c.wf := wf_of (inHeap_wf _)
  have hw := hin.w (in_get (rs := cfRows A0 A1 c0 c1 x) (i := 0) rfl)
  have hk := hin.k (in_get (rs := cfRows A0 A1 c0 c1 x) (i := 1) rfl)
  have hq : Qu (cf (0 + 100060)) 6 [(cfOf A0 A1 c0 c1 x).v] (inHeap (rowsOf (cfRows A0 A1 c0 c1 x))).c (.bool true) := by
    cases hgr : (greatK (cfOf A0 A1 c0 c1 x).ks || greatT (cfOf A0 A1 c0 c1 x).ws) with
    | true => exact pimg_great hwf hw hk hgr
    | false =>
      obtain ⟨g1, g2, g3, g4⟩ := great_no hgr
      have hc : CfAt (inHeap (rowsOf (cfRows A0 A1 c0 c1 x))).c (cfOf A0 A1 c0 c1 x) := ⟨hw, hk, by omega, by omega, g3, g4⟩
      cases hm : mayB (cfOf A0 A1 c0 c1 x) with
      | false => exact pimg_no hwf hc hgr hm
      | true => exact pimg_yes hwf hc hgr hm
  obtain ⟨v, G, h1, h2, _⟩ := hq _ rfl
  exact Runs.callsIn (n := 0 + 100060) env2_ok hall ⟨v, G, h1, h2⟩ (LR.cons (hin.vr hall rfl rfl) (LR.nil _)) rfl
end Go.Proofs.Ytffokmamcempgaa.P
