/-
  No cell of these rows narrows 'for every input' (looked for: loops, veiled, ifaces, maps, wideKeys, modest, calm, conditions, laid).
  DERIVED. THE GIVEN ROWS OF THIS SEAT. 6 by the template 'for every input the law returns true; each argument reads behind the call as it read before'; 0 by the template 'total and deterministic' (their statements: YtpmhmaiagjdpeaaTotals.lean).
  GIVEN WITH THE SEED: the statements are not yours to turn. If you find one false, say at which input.
  Laid BY PROGRAM, IN A SANDBOX (cutbox-rows.mjs): the forced cells as the released guide's own fill.sh prints them over the translation 31c67413887bb2a5… (all of the seat's roots in one cut). By AI agents, Wed Nov 11 2026. No macro, syntax, notation, axiom, sorry.
-/
import Derived.Test.YtpmhmaiagjdpeaaChecked
import GoSem.Claim
import GoSem.ClaimJoined
import GoSem.ClaimMapViews
import Derived.JoinedTies
import Derived.KernelRfl
namespace Go.Proofs.Ytpmhmaiagjdpeaa
/- THE CELL 'sum', in the pinned program and in every row, IS THE sha256 OF THE DUMP (.gsa) THAT YtpmhmaiagjdpeaaProg.lean LOADS. Nothing in Lean hashes anything: it is a label: what it is worth is what the hold of that sum in a sandbox is worth. -/
noncomputable def Try.pinned : Pinned := { name := "ytpmhmaiagjdpeaa", sum := "31c67413887bb2a51d495c1b3b5824ced2eb078630fbd30cee51dd66050298d4", checked := Try.checked }
namespace Rows
def none {H : Type} : Left H := { results := [], args := [] }

/-- 'grisaillelaw11.VecPredicates': WHATEVER THE INPUT: true; the input reads as it did. -/
def vecPredicatesSpec : ChangeSpec := { name := "vecPredicates", fn := fun _ => fun
  | [d1, d2, d3] => { results := [.lit (.bool true)], args := [d1, d2, d3] }
  | _ => none }
def vecPredicatesRow : OpenClaim := { program := "ytpmhmaiagjdpeaa", sum := "31c67413887bb2a51d495c1b3b5824ced2eb078630fbd30cee51dd66050298d4", func := "grisaille/grisaillelaw11.VecPredicates", spec := "vecPredicates", unfollowed := true, recurses := true, named := ["math/bits.divideError", "math/bits.overflowError"], apart := false }
def VecPredicatesSaid : Prop := vecPredicatesRow.holds Try.pinned (OpenSpec.ofChange vecPredicatesSpec)

/-- ITS FALSE NEIGHBOUR: 'it returns false'. Refute it at one input. -/
def vecPredicatesWrong : ChangeSpec := { name := "vecPredicates", fn := fun _ => fun
  | [d1, d2, d3] => { results := [.lit (.bool false)], args := [d1, d2, d3] }
  | _ => none }
def VecPredicatesWrongFalsely : Prop := vecPredicatesRow.holds Try.pinned (OpenSpec.ofChange vecPredicatesWrong)

/-- 'grisaillelaw11.VecLerp': WHATEVER THE INPUT: true; the input reads as it did. -/
def vecLerpSpec : ChangeSpec := { name := "vecLerp", fn := fun _ => fun
  | [d1, d2, d3] => { results := [.lit (.bool true)], args := [d1, d2, d3] }
  | _ => none }
def vecLerpRow : OpenClaim := { program := "ytpmhmaiagjdpeaa", sum := "31c67413887bb2a51d495c1b3b5824ced2eb078630fbd30cee51dd66050298d4", func := "grisaille/grisaillelaw11.VecLerp", spec := "vecLerp", unfollowed := true, recurses := true, named := ["math/bits.divideError", "math/bits.overflowError"], apart := false }
def VecLerpSaid : Prop := vecLerpRow.holds Try.pinned (OpenSpec.ofChange vecLerpSpec)

/-- ITS FALSE NEIGHBOUR: 'it returns false'. Refute it at one input. -/
def vecLerpWrong : ChangeSpec := { name := "vecLerp", fn := fun _ => fun
  | [d1, d2, d3] => { results := [.lit (.bool false)], args := [d1, d2, d3] }
  | _ => none }
def VecLerpWrongFalsely : Prop := vecLerpRow.holds Try.pinned (OpenSpec.ofChange vecLerpWrong)

/-- 'grisaillelaw11.VecLerpEnds': WHATEVER THE INPUT: true; the input reads as it did. -/
def vecLerpEndsSpec : ChangeSpec := { name := "vecLerpEnds", fn := fun _ => fun
  | [d1, d2, d3] => { results := [.lit (.bool true)], args := [d1, d2, d3] }
  | _ => none }
def vecLerpEndsRow : OpenClaim := { program := "ytpmhmaiagjdpeaa", sum := "31c67413887bb2a51d495c1b3b5824ced2eb078630fbd30cee51dd66050298d4", func := "grisaille/grisaillelaw11.VecLerpEnds", spec := "vecLerpEnds", unfollowed := true, recurses := true, named := ["math/bits.divideError", "math/bits.overflowError"], apart := false }
def VecLerpEndsSaid : Prop := vecLerpEndsRow.holds Try.pinned (OpenSpec.ofChange vecLerpEndsSpec)

/-- ITS FALSE NEIGHBOUR: 'it returns false'. Refute it at one input. -/
def vecLerpEndsWrong : ChangeSpec := { name := "vecLerpEnds", fn := fun _ => fun
  | [d1, d2, d3] => { results := [.lit (.bool false)], args := [d1, d2, d3] }
  | _ => none }
def VecLerpEndsWrongFalsely : Prop := vecLerpEndsRow.holds Try.pinned (OpenSpec.ofChange vecLerpEndsWrong)

/-- 'grisaillelaw11.VecOrientation': WHATEVER THE INPUT: true; the input reads as it did. -/
def vecOrientationSpec : ChangeSpec := { name := "vecOrientation", fn := fun _ => fun
  | [d1, d2, d3] => { results := [.lit (.bool true)], args := [d1, d2, d3] }
  | _ => none }
def vecOrientationRow : OpenClaim := { program := "ytpmhmaiagjdpeaa", sum := "31c67413887bb2a51d495c1b3b5824ced2eb078630fbd30cee51dd66050298d4", func := "grisaille/grisaillelaw11.VecOrientation", spec := "vecOrientation", unfollowed := true, recurses := true, named := ["math/bits.divideError", "math/bits.overflowError"], apart := false }
def VecOrientationSaid : Prop := vecOrientationRow.holds Try.pinned (OpenSpec.ofChange vecOrientationSpec)

/-- ITS FALSE NEIGHBOUR: 'it returns false'. Refute it at one input. -/
def vecOrientationWrong : ChangeSpec := { name := "vecOrientation", fn := fun _ => fun
  | [d1, d2, d3] => { results := [.lit (.bool false)], args := [d1, d2, d3] }
  | _ => none }
def VecOrientationWrongFalsely : Prop := vecOrientationRow.holds Try.pinned (OpenSpec.ofChange vecOrientationWrong)

/-- 'grisaillelaw11.VecValues': WHATEVER THE INPUT: true; the input reads as it did. -/
def vecValuesSpec : ChangeSpec := { name := "vecValues", fn := fun _ => fun
  | [d1, d2] => { results := [.lit (.bool true)], args := [d1, d2] }
  | _ => none }
def vecValuesRow : OpenClaim := { program := "ytpmhmaiagjdpeaa", sum := "31c67413887bb2a51d495c1b3b5824ced2eb078630fbd30cee51dd66050298d4", func := "grisaille/grisaillelaw11.VecValues", spec := "vecValues", unfollowed := true, recurses := true, named := ["math/bits.divideError", "math/bits.overflowError"], apart := false }
def VecValuesSaid : Prop := vecValuesRow.holds Try.pinned (OpenSpec.ofChange vecValuesSpec)

/-- ITS FALSE NEIGHBOUR: 'it returns false'. Refute it at one input. -/
def vecValuesWrong : ChangeSpec := { name := "vecValues", fn := fun _ => fun
  | [d1, d2] => { results := [.lit (.bool false)], args := [d1, d2] }
  | _ => none }
def VecValuesWrongFalsely : Prop := vecValuesRow.holds Try.pinned (OpenSpec.ofChange vecValuesWrong)

/-- 'grisaillelaw11.VecIdentities': WHATEVER THE INPUT: true; the input reads as it did. -/
def vecIdentitiesSpec : ChangeSpec := { name := "vecIdentities", fn := fun _ => fun
  | [d1, d2] => { results := [.lit (.bool true)], args := [d1, d2] }
  | _ => none }
def vecIdentitiesRow : OpenClaim := { program := "ytpmhmaiagjdpeaa", sum := "31c67413887bb2a51d495c1b3b5824ced2eb078630fbd30cee51dd66050298d4", func := "grisaille/grisaillelaw11.VecIdentities", spec := "vecIdentities", unfollowed := true, recurses := true, named := ["math/bits.divideError", "math/bits.overflowError"], apart := false }
def VecIdentitiesSaid : Prop := vecIdentitiesRow.holds Try.pinned (OpenSpec.ofChange vecIdentitiesSpec)

/-- ITS FALSE NEIGHBOUR: 'it returns false'. Refute it at one input. -/
def vecIdentitiesWrong : ChangeSpec := { name := "vecIdentities", fn := fun _ => fun
  | [d1, d2] => { results := [.lit (.bool false)], args := [d1, d2] }
  | _ => none }
def VecIdentitiesWrongFalsely : Prop := vecIdentitiesRow.holds Try.pinned (OpenSpec.ofChange vecIdentitiesWrong)

/- THE SECOND FORM. 'bulk': how many values and letters a reading holds, each counted each time it is reached (what is shared counts as often as it is met; a slice's spare places count too). A statement '..UptoSaid' is the law's where the arguments, and the package variables that the reading takes, are together of bulk at most 1048576: NARROWER than '..Said'. Prove '..Said' where nothing that the law and all that it calls make is longer than what came in: it says more and counts as full. Else prove '..UptoSaid'. A law counts once. -/
mutual
def uptoBulk {H : Type} : DataW H → Nat
  | .lit (.string bytes) => bytes.length + 1
  | .lit _ => 1
  | .nil => 1
  | .ptr d => uptoBulk d + 1
  | .slice elems spare => uptoBulkAll elems + uptoBulkAll spare + 1
  | .agg parts => uptoBulkAll parts + 1
  | .iface _ d => uptoBulk d + 1
  | .map entries => uptoBulkEntries entries + 1
  | .held _ => 1
def uptoBulkAll {H : Type} : List (DataW H) → Nat
  | [] => 0
  | d :: r => uptoBulk d + uptoBulkAll r
def uptoBulkEntries {H : Type} : List (Lit × DataW H) → Nat
  | [] => 0
  | x :: r => uptoBulkEntry x + uptoBulkEntries r
def uptoBulkEntry {H : Type} : Lit × DataW H → Nat
  | (.string bytes, d) => bytes.length + uptoBulk d + 1
  | (_, d) => uptoBulk d + 1
 end
def uptoSmall : (H : Type) → List (DataW H) → Bool := fun _ ds => decide (uptoBulkAll ds ≤ 1048576)
def OpenSpec.upto (s : _root_.Go.ChangeSpec) : _root_.Go.OpenSpec := { _root_.Go.OpenSpec.ofChange s with cond := some uptoSmall }

/-- 'grisaillelaw11.VecPredicates', WHERE WHAT IT READS IS OF BULK AT MOST 1048576: true; the input reads as it did. -/
def vecPredicatesUptoRow : OpenClaim := { program := "ytpmhmaiagjdpeaa", sum := "31c67413887bb2a51d495c1b3b5824ced2eb078630fbd30cee51dd66050298d4", func := "grisaille/grisaillelaw11.VecPredicates", spec := "vecPredicates", unfollowed := true, recurses := true, named := ["math/bits.divideError", "math/bits.overflowError"], apart := false, narrowed := true }
def VecPredicatesUptoSaid : Prop := vecPredicatesUptoRow.holds Try.pinned (OpenSpec.upto vecPredicatesSpec)

/-- 'grisaillelaw11.VecLerp', WHERE WHAT IT READS IS OF BULK AT MOST 1048576: true; the input reads as it did. -/
def vecLerpUptoRow : OpenClaim := { program := "ytpmhmaiagjdpeaa", sum := "31c67413887bb2a51d495c1b3b5824ced2eb078630fbd30cee51dd66050298d4", func := "grisaille/grisaillelaw11.VecLerp", spec := "vecLerp", unfollowed := true, recurses := true, named := ["math/bits.divideError", "math/bits.overflowError"], apart := false, narrowed := true }
def VecLerpUptoSaid : Prop := vecLerpUptoRow.holds Try.pinned (OpenSpec.upto vecLerpSpec)

/-- 'grisaillelaw11.VecLerpEnds', WHERE WHAT IT READS IS OF BULK AT MOST 1048576: true; the input reads as it did. -/
def vecLerpEndsUptoRow : OpenClaim := { program := "ytpmhmaiagjdpeaa", sum := "31c67413887bb2a51d495c1b3b5824ced2eb078630fbd30cee51dd66050298d4", func := "grisaille/grisaillelaw11.VecLerpEnds", spec := "vecLerpEnds", unfollowed := true, recurses := true, named := ["math/bits.divideError", "math/bits.overflowError"], apart := false, narrowed := true }
def VecLerpEndsUptoSaid : Prop := vecLerpEndsUptoRow.holds Try.pinned (OpenSpec.upto vecLerpEndsSpec)

/-- 'grisaillelaw11.VecOrientation', WHERE WHAT IT READS IS OF BULK AT MOST 1048576: true; the input reads as it did. -/
def vecOrientationUptoRow : OpenClaim := { program := "ytpmhmaiagjdpeaa", sum := "31c67413887bb2a51d495c1b3b5824ced2eb078630fbd30cee51dd66050298d4", func := "grisaille/grisaillelaw11.VecOrientation", spec := "vecOrientation", unfollowed := true, recurses := true, named := ["math/bits.divideError", "math/bits.overflowError"], apart := false, narrowed := true }
def VecOrientationUptoSaid : Prop := vecOrientationUptoRow.holds Try.pinned (OpenSpec.upto vecOrientationSpec)

/-- 'grisaillelaw11.VecValues', WHERE WHAT IT READS IS OF BULK AT MOST 1048576: true; the input reads as it did. -/
def vecValuesUptoRow : OpenClaim := { program := "ytpmhmaiagjdpeaa", sum := "31c67413887bb2a51d495c1b3b5824ced2eb078630fbd30cee51dd66050298d4", func := "grisaille/grisaillelaw11.VecValues", spec := "vecValues", unfollowed := true, recurses := true, named := ["math/bits.divideError", "math/bits.overflowError"], apart := false, narrowed := true }
def VecValuesUptoSaid : Prop := vecValuesUptoRow.holds Try.pinned (OpenSpec.upto vecValuesSpec)

/-- 'grisaillelaw11.VecIdentities', WHERE WHAT IT READS IS OF BULK AT MOST 1048576: true; the input reads as it did. -/
def vecIdentitiesUptoRow : OpenClaim := { program := "ytpmhmaiagjdpeaa", sum := "31c67413887bb2a51d495c1b3b5824ced2eb078630fbd30cee51dd66050298d4", func := "grisaille/grisaillelaw11.VecIdentities", spec := "vecIdentities", unfollowed := true, recurses := true, named := ["math/bits.divideError", "math/bits.overflowError"], apart := false, narrowed := true }
def VecIdentitiesUptoSaid : Prop := vecIdentitiesUptoRow.holds Try.pinned (OpenSpec.upto vecIdentitiesSpec)

end Rows
end Go.Proofs.Ytpmhmaiagjdpeaa
