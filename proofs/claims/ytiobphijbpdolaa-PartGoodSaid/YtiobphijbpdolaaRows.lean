/-
  No cell of these rows narrows 'for every input' (looked for: loops, veiled, ifaces, maps, wideKeys, modest, calm, conditions, laid).
  DERIVED. THE GIVEN ROWS OF THIS SEAT. 10 by the template 'for every input the law returns true; each argument reads behind the call as it read before'; 0 by the template 'total and deterministic' (their statements: YtiobphijbpdolaaTotals.lean).
  GIVEN WITH THE SEED: the statements are not yours to turn. If you find one false, say at which input.
  Laid BY PROGRAM, IN A SANDBOX (cutbox-rows.mjs): the forced cells as the released guide's own fill.sh prints them over the translation bdc6a4db4930f66d… (all of the seat's roots in one cut). By AI agents, Wed Nov 11 2026. No macro, syntax, notation, axiom, sorry.
-/
import Derived.Test.YtiobphijbpdolaaChecked
import GoSem.Claim
import GoSem.ClaimJoined
import GoSem.ClaimMapViews
import Derived.JoinedTies
import Derived.KernelRfl
namespace Go.Proofs.Ytiobphijbpdolaa
/- THE CELL 'sum', in the pinned program and in every row, IS THE sha256 OF THE DUMP (.gsa) THAT YtiobphijbpdolaaProg.lean LOADS. Nothing in Lean hashes anything: it is a label: what it is worth is what the hold of that sum in a sandbox is worth. -/
noncomputable def Try.pinned : Pinned := { name := "ytiobphijbpdolaa", sum := "bdc6a4db4930f66da5389c0ccc8ef5cb6e5510ee3796f3cc1a7511d5ed60a753", checked := Try.checked }
namespace Rows
def none {H : Type} : Left H := { results := [], args := [] }

/-- 'inkhornlaw12.PartGood': WHATEVER THE INPUT: true; the input reads as it did. -/
def partGoodSpec : ChangeSpec := { name := "partGood", fn := fun _ => fun
  | [d1, d2, d3] => { results := [.lit (.bool true)], args := [d1, d2, d3] }
  | _ => none }
def partGoodRow : OpenClaim := { program := "ytiobphijbpdolaa", sum := "bdc6a4db4930f66da5389c0ccc8ef5cb6e5510ee3796f3cc1a7511d5ed60a753", func := "inkhorn/inkhornlaw12.PartGood", spec := "partGood", inPlace := ["internal/bytealg.abigen_runtime_cmpstring"], unfollowed := true, recurses := true, apart := false }
def PartGoodSaid : Prop := partGoodRow.holds Try.pinned (OpenSpec.ofChange partGoodSpec)

/-- ITS FALSE NEIGHBOUR: 'it returns false'. Refute it at one input. -/
def partGoodWrong : ChangeSpec := { name := "partGood", fn := fun _ => fun
  | [d1, d2, d3] => { results := [.lit (.bool false)], args := [d1, d2, d3] }
  | _ => none }
def PartGoodWrongFalsely : Prop := partGoodRow.holds Try.pinned (OpenSpec.ofChange partGoodWrong)

/-- 'inkhornlaw12.PartRises': WHATEVER THE INPUT: true; the input reads as it did. -/
def partRisesSpec : ChangeSpec := { name := "partRises", fn := fun _ => fun
  | [d1, d2, d3] => { results := [.lit (.bool true)], args := [d1, d2, d3] }
  | _ => none }
def partRisesRow : OpenClaim := { program := "ytiobphijbpdolaa", sum := "bdc6a4db4930f66da5389c0ccc8ef5cb6e5510ee3796f3cc1a7511d5ed60a753", func := "inkhorn/inkhornlaw12.PartRises", spec := "partRises", inPlace := ["internal/bytealg.abigen_runtime_cmpstring"], unfollowed := true, recurses := true, apart := false }
def PartRisesSaid : Prop := partRisesRow.holds Try.pinned (OpenSpec.ofChange partRisesSpec)

/-- ITS FALSE NEIGHBOUR: 'it returns false'. Refute it at one input. -/
def partRisesWrong : ChangeSpec := { name := "partRises", fn := fun _ => fun
  | [d1, d2, d3] => { results := [.lit (.bool false)], args := [d1, d2, d3] }
  | _ => none }
def PartRisesWrongFalsely : Prop := partRisesRow.holds Try.pinned (OpenSpec.ofChange partRisesWrong)

/-- 'inkhornlaw12.PartFiner': WHATEVER THE INPUT: true; the input reads as it did. -/
def partFinerSpec : ChangeSpec := { name := "partFiner", fn := fun _ => fun
  | [d1, d2, d3] => { results := [.lit (.bool true)], args := [d1, d2, d3] }
  | _ => none }
def partFinerRow : OpenClaim := { program := "ytiobphijbpdolaa", sum := "bdc6a4db4930f66da5389c0ccc8ef5cb6e5510ee3796f3cc1a7511d5ed60a753", func := "inkhorn/inkhornlaw12.PartFiner", spec := "partFiner", inPlace := ["internal/bytealg.abigen_runtime_cmpstring"], unfollowed := true, recurses := true, apart := false }
def PartFinerSaid : Prop := partFinerRow.holds Try.pinned (OpenSpec.ofChange partFinerSpec)

/-- ITS FALSE NEIGHBOUR: 'it returns false'. Refute it at one input. -/
def partFinerWrong : ChangeSpec := { name := "partFiner", fn := fun _ => fun
  | [d1, d2, d3] => { results := [.lit (.bool false)], args := [d1, d2, d3] }
  | _ => none }
def PartFinerWrongFalsely : Prop := partFinerRow.holds Try.pinned (OpenSpec.ofChange partFinerWrong)

/-- 'inkhornlaw13.PlaceSpread': WHATEVER THE INPUT: true; the input reads as it did. -/
def placeSpreadSpec : ChangeSpec := { name := "placeSpread", fn := fun _ => fun
  | [d1, d2] => { results := [.lit (.bool true)], args := [d1, d2] }
  | _ => none }
def placeSpreadRow : OpenClaim := { program := "ytiobphijbpdolaa", sum := "bdc6a4db4930f66da5389c0ccc8ef5cb6e5510ee3796f3cc1a7511d5ed60a753", func := "inkhorn/inkhornlaw13.PlaceSpread", spec := "placeSpread", inPlace := ["internal/bytealg.abigen_runtime_cmpstring"], apart := false }
def PlaceSpreadSaid : Prop := placeSpreadRow.holds Try.pinned (OpenSpec.ofChange placeSpreadSpec)

/-- ITS FALSE NEIGHBOUR: 'it returns false'. Refute it at one input. -/
def placeSpreadWrong : ChangeSpec := { name := "placeSpread", fn := fun _ => fun
  | [d1, d2] => { results := [.lit (.bool false)], args := [d1, d2] }
  | _ => none }
def PlaceSpreadWrongFalsely : Prop := placeSpreadRow.holds Try.pinned (OpenSpec.ofChange placeSpreadWrong)

/-- 'inkhornlaw12.PartWhole': WHATEVER THE INPUT: true; the input reads as it did. -/
def partWholeSpec : ChangeSpec := { name := "partWhole", fn := fun _ => fun
  | [d1, d2] => { results := [.lit (.bool true)], args := [d1, d2] }
  | _ => none }
def partWholeRow : OpenClaim := { program := "ytiobphijbpdolaa", sum := "bdc6a4db4930f66da5389c0ccc8ef5cb6e5510ee3796f3cc1a7511d5ed60a753", func := "inkhorn/inkhornlaw12.PartWhole", spec := "partWhole", inPlace := ["internal/bytealg.abigen_runtime_cmpstring"], unfollowed := true, recurses := true, apart := false }
def PartWholeSaid : Prop := partWholeRow.holds Try.pinned (OpenSpec.ofChange partWholeSpec)

/-- ITS FALSE NEIGHBOUR: 'it returns false'. Refute it at one input. -/
def partWholeWrong : ChangeSpec := { name := "partWhole", fn := fun _ => fun
  | [d1, d2] => { results := [.lit (.bool false)], args := [d1, d2] }
  | _ => none }
def PartWholeWrongFalsely : Prop := partWholeRow.holds Try.pinned (OpenSpec.ofChange partWholeWrong)

/-- 'inkhornlaw12.PartFar': WHATEVER THE INPUT: true; the input reads as it did. -/
def partFarSpec : ChangeSpec := { name := "partFar", fn := fun _ => fun
  | [d1, d2, d3] => { results := [.lit (.bool true)], args := [d1, d2, d3] }
  | _ => none }
def partFarRow : OpenClaim := { program := "ytiobphijbpdolaa", sum := "bdc6a4db4930f66da5389c0ccc8ef5cb6e5510ee3796f3cc1a7511d5ed60a753", func := "inkhorn/inkhornlaw12.PartFar", spec := "partFar", inPlace := ["internal/bytealg.abigen_runtime_cmpstring"], unfollowed := true, recurses := true, apart := false }
def PartFarSaid : Prop := partFarRow.holds Try.pinned (OpenSpec.ofChange partFarSpec)

/-- ITS FALSE NEIGHBOUR: 'it returns false'. Refute it at one input. -/
def partFarWrong : ChangeSpec := { name := "partFar", fn := fun _ => fun
  | [d1, d2, d3] => { results := [.lit (.bool false)], args := [d1, d2, d3] }
  | _ => none }
def PartFarWrongFalsely : Prop := partFarRow.holds Try.pinned (OpenSpec.ofChange partFarWrong)

/-- 'inkhornlaw13.PlaceCopies': WHATEVER THE INPUT: true; the input reads as it did. -/
def placeCopiesSpec : ChangeSpec := { name := "placeCopies", fn := fun _ => fun
  | [d] => { results := [.lit (.bool true)], args := [d] }
  | _ => none }
def placeCopiesRow : OpenClaim := { program := "ytiobphijbpdolaa", sum := "bdc6a4db4930f66da5389c0ccc8ef5cb6e5510ee3796f3cc1a7511d5ed60a753", func := "inkhorn/inkhornlaw13.PlaceCopies", spec := "placeCopies", inPlace := ["internal/bytealg.abigen_runtime_cmpstring"], unfollowed := true, recurses := true, apart := false }
def PlaceCopiesSaid : Prop := placeCopiesRow.holds Try.pinned (OpenSpec.ofChange placeCopiesSpec)

/-- ITS FALSE NEIGHBOUR: 'it returns false'. Refute it at one input. -/
def placeCopiesWrong : ChangeSpec := { name := "placeCopies", fn := fun _ => fun
  | [d] => { results := [.lit (.bool false)], args := [d] }
  | _ => none }
def PlaceCopiesWrongFalsely : Prop := placeCopiesRow.holds Try.pinned (OpenSpec.ofChange placeCopiesWrong)

/-- 'inkhornlaw27.FairBounds': WHATEVER THE INPUT: true; the input reads as it did. -/
def fairBoundsSpec : ChangeSpec := { name := "fairBounds", fn := fun _ => fun
  | [d1, d2] => { results := [.lit (.bool true)], args := [d1, d2] }
  | _ => none }
def fairBoundsRow : OpenClaim := { program := "ytiobphijbpdolaa", sum := "bdc6a4db4930f66da5389c0ccc8ef5cb6e5510ee3796f3cc1a7511d5ed60a753", func := "inkhorn/inkhornlaw27.FairBounds", spec := "fairBounds", inPlace := ["internal/bytealg.abigen_runtime_cmpstring"], unfollowed := true, recurses := true, apart := false }
def FairBoundsSaid : Prop := fairBoundsRow.holds Try.pinned (OpenSpec.ofChange fairBoundsSpec)

/-- ITS FALSE NEIGHBOUR: 'it returns false'. Refute it at one input. -/
def fairBoundsWrong : ChangeSpec := { name := "fairBounds", fn := fun _ => fun
  | [d1, d2] => { results := [.lit (.bool false)], args := [d1, d2] }
  | _ => none }
def FairBoundsWrongFalsely : Prop := fairBoundsRow.holds Try.pinned (OpenSpec.ofChange fairBoundsWrong)

/-- 'inkhornlaw27.FairLost': WHATEVER THE INPUT: true; the input reads as it did. -/
def fairLostSpec : ChangeSpec := { name := "fairLost", fn := fun _ => fun
  | [d1, d2, d3, d4, d5, d6] => { results := [.lit (.bool true)], args := [d1, d2, d3, d4, d5, d6] }
  | _ => none }
def fairLostRow : OpenClaim := { program := "ytiobphijbpdolaa", sum := "bdc6a4db4930f66da5389c0ccc8ef5cb6e5510ee3796f3cc1a7511d5ed60a753", func := "inkhorn/inkhornlaw27.FairLost", spec := "fairLost", inPlace := ["internal/bytealg.abigen_runtime_cmpstring"], unfollowed := true, recurses := true, apart := false }
def FairLostSaid : Prop := fairLostRow.holds Try.pinned (OpenSpec.ofChange fairLostSpec)

/-- ITS FALSE NEIGHBOUR: 'it returns false'. Refute it at one input. -/
def fairLostWrong : ChangeSpec := { name := "fairLost", fn := fun _ => fun
  | [d1, d2, d3, d4, d5, d6] => { results := [.lit (.bool false)], args := [d1, d2, d3, d4, d5, d6] }
  | _ => none }
def FairLostWrongFalsely : Prop := fairLostRow.holds Try.pinned (OpenSpec.ofChange fairLostWrong)

/-- 'inkhornlaw27.FairFewer': WHATEVER THE INPUT: true; the input reads as it did. -/
def fairFewerSpec : ChangeSpec := { name := "fairFewer", fn := fun _ => fun
  | [d1, d2, d3, d4, d5, d6] => { results := [.lit (.bool true)], args := [d1, d2, d3, d4, d5, d6] }
  | _ => none }
def fairFewerRow : OpenClaim := { program := "ytiobphijbpdolaa", sum := "bdc6a4db4930f66da5389c0ccc8ef5cb6e5510ee3796f3cc1a7511d5ed60a753", func := "inkhorn/inkhornlaw27.FairFewer", spec := "fairFewer", inPlace := ["internal/bytealg.abigen_runtime_cmpstring"], unfollowed := true, recurses := true, apart := false }
def FairFewerSaid : Prop := fairFewerRow.holds Try.pinned (OpenSpec.ofChange fairFewerSpec)

/-- ITS FALSE NEIGHBOUR: 'it returns false'. Refute it at one input. -/
def fairFewerWrong : ChangeSpec := { name := "fairFewer", fn := fun _ => fun
  | [d1, d2, d3, d4, d5, d6] => { results := [.lit (.bool false)], args := [d1, d2, d3, d4, d5, d6] }
  | _ => none }
def FairFewerWrongFalsely : Prop := fairFewerRow.holds Try.pinned (OpenSpec.ofChange fairFewerWrong)

/- THE SECOND FORM. 'bulk': how many values and letters a reading holds, each counted each time it is reached (what is shared counts as often as it is met; a slice's spare places count too). A statement '..UptoSaid' is the law's where the arguments, and the package variables that the reading takes, are together of bulk at most 1048576: NARROWER than '..Said'. Prove '..Said' where nothing that the law and all that it calls make is longer than what came in: it says more and counts as full. Else prove '..UptoSaid'. A law counts once. -/
mutual
def uptoBulk {H : Type} : DataW H → Nat
  | .lit (.string bytes) => bytes.length + 1
  | .lit _ => 1
  | .nil => 1
  | .ptr d => uptoBulk d + 1
  | .slice elems spare => uptoBulkAll elems + uptoBulkAll spare + 1
  | .agg parts => uptoBulkAll parts + 1
  | .iface _ d => uptoBulk d + 1
  | .map entries => uptoBulkEntries entries + 1
  | .held _ => 1
def uptoBulkAll {H : Type} : List (DataW H) → Nat
  | [] => 0
  | d :: r => uptoBulk d + uptoBulkAll r
def uptoBulkEntries {H : Type} : List (Lit × DataW H) → Nat
  | [] => 0
  | x :: r => uptoBulkEntry x + uptoBulkEntries r
def uptoBulkEntry {H : Type} : Lit × DataW H → Nat
  | (.string bytes, d) => bytes.length + uptoBulk d + 1
  | (_, d) => uptoBulk d + 1
 end
def uptoSmall : (H : Type) → List (DataW H) → Bool := fun _ ds => decide (uptoBulkAll ds ≤ 1048576)
def OpenSpec.upto (s : _root_.Go.ChangeSpec) : _root_.Go.OpenSpec := { _root_.Go.OpenSpec.ofChange s with cond := some uptoSmall }

/-- 'inkhornlaw12.PartGood', WHERE WHAT IT READS IS OF BULK AT MOST 1048576: true; the input reads as it did. -/
def partGoodUptoRow : OpenClaim := { program := "ytiobphijbpdolaa", sum := "bdc6a4db4930f66da5389c0ccc8ef5cb6e5510ee3796f3cc1a7511d5ed60a753", func := "inkhorn/inkhornlaw12.PartGood", spec := "partGood", inPlace := ["internal/bytealg.abigen_runtime_cmpstring"], unfollowed := true, recurses := true, apart := false, narrowed := true }
def PartGoodUptoSaid : Prop := partGoodUptoRow.holds Try.pinned (OpenSpec.upto partGoodSpec)

/-- 'inkhornlaw12.PartRises', WHERE WHAT IT READS IS OF BULK AT MOST 1048576: true; the input reads as it did. -/
def partRisesUptoRow : OpenClaim := { program := "ytiobphijbpdolaa", sum := "bdc6a4db4930f66da5389c0ccc8ef5cb6e5510ee3796f3cc1a7511d5ed60a753", func := "inkhorn/inkhornlaw12.PartRises", spec := "partRises", inPlace := ["internal/bytealg.abigen_runtime_cmpstring"], unfollowed := true, recurses := true, apart := false, narrowed := true }
def PartRisesUptoSaid : Prop := partRisesUptoRow.holds Try.pinned (OpenSpec.upto partRisesSpec)

/-- 'inkhornlaw12.PartFiner', WHERE WHAT IT READS IS OF BULK AT MOST 1048576: true; the input reads as it did. -/
def partFinerUptoRow : OpenClaim := { program := "ytiobphijbpdolaa", sum := "bdc6a4db4930f66da5389c0ccc8ef5cb6e5510ee3796f3cc1a7511d5ed60a753", func := "inkhorn/inkhornlaw12.PartFiner", spec := "partFiner", inPlace := ["internal/bytealg.abigen_runtime_cmpstring"], unfollowed := true, recurses := true, apart := false, narrowed := true }
def PartFinerUptoSaid : Prop := partFinerUptoRow.holds Try.pinned (OpenSpec.upto partFinerSpec)

/-- 'inkhornlaw13.PlaceSpread', WHERE WHAT IT READS IS OF BULK AT MOST 1048576: true; the input reads as it did. -/
def placeSpreadUptoRow : OpenClaim := { program := "ytiobphijbpdolaa", sum := "bdc6a4db4930f66da5389c0ccc8ef5cb6e5510ee3796f3cc1a7511d5ed60a753", func := "inkhorn/inkhornlaw13.PlaceSpread", spec := "placeSpread", inPlace := ["internal/bytealg.abigen_runtime_cmpstring"], apart := false, narrowed := true }
def PlaceSpreadUptoSaid : Prop := placeSpreadUptoRow.holds Try.pinned (OpenSpec.upto placeSpreadSpec)

/-- 'inkhornlaw12.PartWhole', WHERE WHAT IT READS IS OF BULK AT MOST 1048576: true; the input reads as it did. -/
def partWholeUptoRow : OpenClaim := { program := "ytiobphijbpdolaa", sum := "bdc6a4db4930f66da5389c0ccc8ef5cb6e5510ee3796f3cc1a7511d5ed60a753", func := "inkhorn/inkhornlaw12.PartWhole", spec := "partWhole", inPlace := ["internal/bytealg.abigen_runtime_cmpstring"], unfollowed := true, recurses := true, apart := false, narrowed := true }
def PartWholeUptoSaid : Prop := partWholeUptoRow.holds Try.pinned (OpenSpec.upto partWholeSpec)

/-- 'inkhornlaw12.PartFar', WHERE WHAT IT READS IS OF BULK AT MOST 1048576: true; the input reads as it did. -/
def partFarUptoRow : OpenClaim := { program := "ytiobphijbpdolaa", sum := "bdc6a4db4930f66da5389c0ccc8ef5cb6e5510ee3796f3cc1a7511d5ed60a753", func := "inkhorn/inkhornlaw12.PartFar", spec := "partFar", inPlace := ["internal/bytealg.abigen_runtime_cmpstring"], unfollowed := true, recurses := true, apart := false, narrowed := true }
def PartFarUptoSaid : Prop := partFarUptoRow.holds Try.pinned (OpenSpec.upto partFarSpec)

/-- 'inkhornlaw13.PlaceCopies', WHERE WHAT IT READS IS OF BULK AT MOST 1048576: true; the input reads as it did. -/
def placeCopiesUptoRow : OpenClaim := { program := "ytiobphijbpdolaa", sum := "bdc6a4db4930f66da5389c0ccc8ef5cb6e5510ee3796f3cc1a7511d5ed60a753", func := "inkhorn/inkhornlaw13.PlaceCopies", spec := "placeCopies", inPlace := ["internal/bytealg.abigen_runtime_cmpstring"], unfollowed := true, recurses := true, apart := false, narrowed := true }
def PlaceCopiesUptoSaid : Prop := placeCopiesUptoRow.holds Try.pinned (OpenSpec.upto placeCopiesSpec)

/-- 'inkhornlaw27.FairBounds', WHERE WHAT IT READS IS OF BULK AT MOST 1048576: true; the input reads as it did. -/
def fairBoundsUptoRow : OpenClaim := { program := "ytiobphijbpdolaa", sum := "bdc6a4db4930f66da5389c0ccc8ef5cb6e5510ee3796f3cc1a7511d5ed60a753", func := "inkhorn/inkhornlaw27.FairBounds", spec := "fairBounds", inPlace := ["internal/bytealg.abigen_runtime_cmpstring"], unfollowed := true, recurses := true, apart := false, narrowed := true }
def FairBoundsUptoSaid : Prop := fairBoundsUptoRow.holds Try.pinned (OpenSpec.upto fairBoundsSpec)

/-- 'inkhornlaw27.FairLost', WHERE WHAT IT READS IS OF BULK AT MOST 1048576: true; the input reads as it did. -/
def fairLostUptoRow : OpenClaim := { program := "ytiobphijbpdolaa", sum := "bdc6a4db4930f66da5389c0ccc8ef5cb6e5510ee3796f3cc1a7511d5ed60a753", func := "inkhorn/inkhornlaw27.FairLost", spec := "fairLost", inPlace := ["internal/bytealg.abigen_runtime_cmpstring"], unfollowed := true, recurses := true, apart := false, narrowed := true }
def FairLostUptoSaid : Prop := fairLostUptoRow.holds Try.pinned (OpenSpec.upto fairLostSpec)

/-- 'inkhornlaw27.FairFewer', WHERE WHAT IT READS IS OF BULK AT MOST 1048576: true; the input reads as it did. -/
def fairFewerUptoRow : OpenClaim := { program := "ytiobphijbpdolaa", sum := "bdc6a4db4930f66da5389c0ccc8ef5cb6e5510ee3796f3cc1a7511d5ed60a753", func := "inkhorn/inkhornlaw27.FairFewer", spec := "fairFewer", inPlace := ["internal/bytealg.abigen_runtime_cmpstring"], unfollowed := true, recurses := true, apart := false, narrowed := true }
def FairFewerUptoSaid : Prop := fairFewerUptoRow.holds Try.pinned (OpenSpec.upto fairFewerSpec)

end Rows
end Go.Proofs.Ytiobphijbpdolaa
