/-
  No cell of these rows narrows 'for every input' (looked for: loops, veiled, ifaces, maps, wideKeys, modest, calm, conditions, laid).
  DERIVED. THE GIVEN ROWS OF THIS SEAT. 7 by the template 'for every input the law returns true; each argument reads behind the call as it read before'; 0 by the template 'total and deterministic' (their statements: YtgkdcipebefmhaaTotals.lean).
  GIVEN WITH THE SEED: the statements are not yours to turn. If you find one false, say at which input.
  Laid BY PROGRAM, IN A SANDBOX (cutbox-rows.mjs): the forced cells as the released guide's own fill.sh prints them over the translation 97b1b82d29f19d7d… (all of the seat's roots in one cut). By AI agents, Wed Nov 11 2026. No macro, syntax, notation, axiom, sorry.
-/
import Derived.Test.YtgkdcipebefmhaaChecked
import GoSem.Claim
import GoSem.ClaimJoined
import GoSem.ClaimMapViews
import Derived.JoinedTies
import Derived.KernelRfl
namespace Go.Proofs.Ytgkdcipebefmhaa
/- THE CELL 'sum', in the pinned program and in every row, IS THE sha256 OF THE DUMP (.gsa) THAT YtgkdcipebefmhaaProg.lean LOADS. Nothing in Lean hashes anything: it is a label: what it is worth is what the hold of that sum in a sandbox is worth. -/
noncomputable def Try.pinned : Pinned := { name := "ytgkdcipebefmhaa", sum := "97b1b82d29f19d7d50a8f4ef7eb21ac5f62d280551e147cf06e84c0cc123b739", checked := Try.checked }
namespace Rows
def none {H : Type} : Left H := { results := [], args := [] }

/-- 'grisaillelaw22.StrokegeomValidStyle': WHATEVER THE INPUT: true; the input reads as it did. -/
def strokegeomValidStyleSpec : ChangeSpec := { name := "strokegeomValidStyle", fn := fun _ => fun
  | [d] => { results := [.lit (.bool true)], args := [d] }
  | _ => none }
def strokegeomValidStyleRow : OpenClaim := { program := "ytgkdcipebefmhaa", sum := "97b1b82d29f19d7d50a8f4ef7eb21ac5f62d280551e147cf06e84c0cc123b739", func := "grisaille/grisaillelaw22.StrokegeomValidStyle", spec := "strokegeomValidStyle", unfollowed := true, recurses := true, named := ["math/bits.divideError", "math/bits.overflowError"], apart := false }
def StrokegeomValidStyleSaid : Prop := strokegeomValidStyleRow.holds Try.pinned (OpenSpec.ofChange strokegeomValidStyleSpec)

/-- ITS FALSE NEIGHBOUR: 'it returns false'. Refute it at one input. -/
def strokegeomValidStyleWrong : ChangeSpec := { name := "strokegeomValidStyle", fn := fun _ => fun
  | [d] => { results := [.lit (.bool false)], args := [d] }
  | _ => none }
def StrokegeomValidStyleWrongFalsely : Prop := strokegeomValidStyleRow.holds Try.pinned (OpenSpec.ofChange strokegeomValidStyleWrong)

/-- 'grisaillelaw22.StrokegeomOffsetVector': WHATEVER THE INPUT: true; the input reads as it did. -/
def strokegeomOffsetVectorSpec : ChangeSpec := { name := "strokegeomOffsetVector", fn := fun _ => fun
  | [d1, d2] => { results := [.lit (.bool true)], args := [d1, d2] }
  | _ => none }
def strokegeomOffsetVectorRow : OpenClaim := { program := "ytgkdcipebefmhaa", sum := "97b1b82d29f19d7d50a8f4ef7eb21ac5f62d280551e147cf06e84c0cc123b739", func := "grisaille/grisaillelaw22.StrokegeomOffsetVector", spec := "strokegeomOffsetVector", unfollowed := true, recurses := true, named := ["math/bits.divideError", "math/bits.overflowError"], apart := false }
def StrokegeomOffsetVectorSaid : Prop := strokegeomOffsetVectorRow.holds Try.pinned (OpenSpec.ofChange strokegeomOffsetVectorSpec)

/-- ITS FALSE NEIGHBOUR: 'it returns false'. Refute it at one input. -/
def strokegeomOffsetVectorWrong : ChangeSpec := { name := "strokegeomOffsetVector", fn := fun _ => fun
  | [d1, d2] => { results := [.lit (.bool false)], args := [d1, d2] }
  | _ => none }
def StrokegeomOffsetVectorWrongFalsely : Prop := strokegeomOffsetVectorRow.holds Try.pinned (OpenSpec.ofChange strokegeomOffsetVectorWrong)

/-- 'grisaillelaw22.StrokegeomSymmetry': WHATEVER THE INPUT: true; the input reads as it did. -/
def strokegeomSymmetrySpec : ChangeSpec := { name := "strokegeomSymmetry", fn := fun _ => fun
  | [d1, d2, d3] => { results := [.lit (.bool true)], args := [d1, d2, d3] }
  | _ => none }
def strokegeomSymmetryRow : OpenClaim := { program := "ytgkdcipebefmhaa", sum := "97b1b82d29f19d7d50a8f4ef7eb21ac5f62d280551e147cf06e84c0cc123b739", func := "grisaille/grisaillelaw22.StrokegeomSymmetry", spec := "strokegeomSymmetry", unfollowed := true, recurses := true, named := ["math/bits.divideError", "math/bits.overflowError"], apart := false }
def StrokegeomSymmetrySaid : Prop := strokegeomSymmetryRow.holds Try.pinned (OpenSpec.ofChange strokegeomSymmetrySpec)

/-- ITS FALSE NEIGHBOUR: 'it returns false'. Refute it at one input. -/
def strokegeomSymmetryWrong : ChangeSpec := { name := "strokegeomSymmetry", fn := fun _ => fun
  | [d1, d2, d3] => { results := [.lit (.bool false)], args := [d1, d2, d3] }
  | _ => none }
def StrokegeomSymmetryWrongFalsely : Prop := strokegeomSymmetryRow.holds Try.pinned (OpenSpec.ofChange strokegeomSymmetryWrong)

/-- 'grisaillelaw22.StrokegeomOffsetLength': WHATEVER THE INPUT: true; the input reads as it did. -/
def strokegeomOffsetLengthSpec : ChangeSpec := { name := "strokegeomOffsetLength", fn := fun _ => fun
  | [d1, d2] => { results := [.lit (.bool true)], args := [d1, d2] }
  | _ => none }
def strokegeomOffsetLengthRow : OpenClaim := { program := "ytgkdcipebefmhaa", sum := "97b1b82d29f19d7d50a8f4ef7eb21ac5f62d280551e147cf06e84c0cc123b739", func := "grisaille/grisaillelaw22.StrokegeomOffsetLength", spec := "strokegeomOffsetLength", unfollowed := true, recurses := true, named := ["math/bits.divideError", "math/bits.overflowError"], apart := false }
def StrokegeomOffsetLengthSaid : Prop := strokegeomOffsetLengthRow.holds Try.pinned (OpenSpec.ofChange strokegeomOffsetLengthSpec)

/-- ITS FALSE NEIGHBOUR: 'it returns false'. Refute it at one input. -/
def strokegeomOffsetLengthWrong : ChangeSpec := { name := "strokegeomOffsetLength", fn := fun _ => fun
  | [d1, d2] => { results := [.lit (.bool false)], args := [d1, d2] }
  | _ => none }
def StrokegeomOffsetLengthWrongFalsely : Prop := strokegeomOffsetLengthRow.holds Try.pinned (OpenSpec.ofChange strokegeomOffsetLengthWrong)

/-- 'grisaillelaw22.StrokegeomBodies': WHATEVER THE INPUT: true; the input reads as it did. -/
def strokegeomBodiesSpec : ChangeSpec := { name := "strokegeomBodies", fn := fun _ => fun
  | [d1, d2, d3] => { results := [.lit (.bool true)], args := [d1, d2, d3] }
  | _ => none }
def strokegeomBodiesRow : OpenClaim := { program := "ytgkdcipebefmhaa", sum := "97b1b82d29f19d7d50a8f4ef7eb21ac5f62d280551e147cf06e84c0cc123b739", func := "grisaille/grisaillelaw22.StrokegeomBodies", spec := "strokegeomBodies", unfollowed := true, recurses := true, named := ["math/bits.divideError", "math/bits.overflowError"], apart := false }
def StrokegeomBodiesSaid : Prop := strokegeomBodiesRow.holds Try.pinned (OpenSpec.ofChange strokegeomBodiesSpec)

/-- ITS FALSE NEIGHBOUR: 'it returns false'. Refute it at one input. -/
def strokegeomBodiesWrong : ChangeSpec := { name := "strokegeomBodies", fn := fun _ => fun
  | [d1, d2, d3] => { results := [.lit (.bool false)], args := [d1, d2, d3] }
  | _ => none }
def StrokegeomBodiesWrongFalsely : Prop := strokegeomBodiesRow.holds Try.pinned (OpenSpec.ofChange strokegeomBodiesWrong)

/-- 'grisaillelaw22.StrokegeomDots': WHATEVER THE INPUT: true; the input reads as it did. -/
def strokegeomDotsSpec : ChangeSpec := { name := "strokegeomDots", fn := fun _ => fun
  | [d1, d2] => { results := [.lit (.bool true)], args := [d1, d2] }
  | _ => none }
def strokegeomDotsRow : OpenClaim := { program := "ytgkdcipebefmhaa", sum := "97b1b82d29f19d7d50a8f4ef7eb21ac5f62d280551e147cf06e84c0cc123b739", func := "grisaille/grisaillelaw22.StrokegeomDots", spec := "strokegeomDots", unfollowed := true, recurses := true, named := ["math/bits.divideError", "math/bits.overflowError"], apart := false }
def StrokegeomDotsSaid : Prop := strokegeomDotsRow.holds Try.pinned (OpenSpec.ofChange strokegeomDotsSpec)

/-- ITS FALSE NEIGHBOUR: 'it returns false'. Refute it at one input. -/
def strokegeomDotsWrong : ChangeSpec := { name := "strokegeomDots", fn := fun _ => fun
  | [d1, d2] => { results := [.lit (.bool false)], args := [d1, d2] }
  | _ => none }
def StrokegeomDotsWrongFalsely : Prop := strokegeomDotsRow.holds Try.pinned (OpenSpec.ofChange strokegeomDotsWrong)

/-- 'grisaillelaw22.StrokegeomTranslation': WHATEVER THE INPUT: true; the input reads as it did. -/
def strokegeomTranslationSpec : ChangeSpec := { name := "strokegeomTranslation", fn := fun _ => fun
  | [d1, d2, d3, d4] => { results := [.lit (.bool true)], args := [d1, d2, d3, d4] }
  | _ => none }
def strokegeomTranslationRow : OpenClaim := { program := "ytgkdcipebefmhaa", sum := "97b1b82d29f19d7d50a8f4ef7eb21ac5f62d280551e147cf06e84c0cc123b739", func := "grisaille/grisaillelaw22.StrokegeomTranslation", spec := "strokegeomTranslation", unfollowed := true, recurses := true, named := ["math/bits.divideError", "math/bits.overflowError"], apart := false }
def StrokegeomTranslationSaid : Prop := strokegeomTranslationRow.holds Try.pinned (OpenSpec.ofChange strokegeomTranslationSpec)

/-- ITS FALSE NEIGHBOUR: 'it returns false'. Refute it at one input. -/
def strokegeomTranslationWrong : ChangeSpec := { name := "strokegeomTranslation", fn := fun _ => fun
  | [d1, d2, d3, d4] => { results := [.lit (.bool false)], args := [d1, d2, d3, d4] }
  | _ => none }
def StrokegeomTranslationWrongFalsely : Prop := strokegeomTranslationRow.holds Try.pinned (OpenSpec.ofChange strokegeomTranslationWrong)

/- THE SECOND FORM. 'bulk': how many values and letters a reading holds, each counted each time it is reached (what is shared counts as often as it is met; a slice's spare places count too). A statement '..UptoSaid' is the law's where the arguments, and the package variables that the reading takes, are together of bulk at most 1048576: NARROWER than '..Said'. Prove '..Said' where nothing that the law and all that it calls make is longer than what came in: it says more and counts as full. Else prove '..UptoSaid'. A law counts once. -/
mutual
def uptoBulk {H : Type} : DataW H → Nat
  | .lit (.string bytes) => bytes.length + 1
  | .lit _ => 1
  | .nil => 1
  | .ptr d => uptoBulk d + 1
  | .slice elems spare => uptoBulkAll elems + uptoBulkAll spare + 1
  | .agg parts => uptoBulkAll parts + 1
  | .iface _ d => uptoBulk d + 1
  | .map entries => uptoBulkEntries entries + 1
  | .held _ => 1
def uptoBulkAll {H : Type} : List (DataW H) → Nat
  | [] => 0
  | d :: r => uptoBulk d + uptoBulkAll r
def uptoBulkEntries {H : Type} : List (Lit × DataW H) → Nat
  | [] => 0
  | x :: r => uptoBulkEntry x + uptoBulkEntries r
def uptoBulkEntry {H : Type} : Lit × DataW H → Nat
  | (.string bytes, d) => bytes.length + uptoBulk d + 1
  | (_, d) => uptoBulk d + 1
 end
def uptoSmall : (H : Type) → List (DataW H) → Bool := fun _ ds => decide (uptoBulkAll ds ≤ 1048576)
def OpenSpec.upto (s : _root_.Go.ChangeSpec) : _root_.Go.OpenSpec := { _root_.Go.OpenSpec.ofChange s with cond := some uptoSmall }

/-- 'grisaillelaw22.StrokegeomValidStyle', WHERE WHAT IT READS IS OF BULK AT MOST 1048576: true; the input reads as it did. -/
def strokegeomValidStyleUptoRow : OpenClaim := { program := "ytgkdcipebefmhaa", sum := "97b1b82d29f19d7d50a8f4ef7eb21ac5f62d280551e147cf06e84c0cc123b739", func := "grisaille/grisaillelaw22.StrokegeomValidStyle", spec := "strokegeomValidStyle", unfollowed := true, recurses := true, named := ["math/bits.divideError", "math/bits.overflowError"], apart := false, narrowed := true }
def StrokegeomValidStyleUptoSaid : Prop := strokegeomValidStyleUptoRow.holds Try.pinned (OpenSpec.upto strokegeomValidStyleSpec)

/-- 'grisaillelaw22.StrokegeomOffsetVector', WHERE WHAT IT READS IS OF BULK AT MOST 1048576: true; the input reads as it did. -/
def strokegeomOffsetVectorUptoRow : OpenClaim := { program := "ytgkdcipebefmhaa", sum := "97b1b82d29f19d7d50a8f4ef7eb21ac5f62d280551e147cf06e84c0cc123b739", func := "grisaille/grisaillelaw22.StrokegeomOffsetVector", spec := "strokegeomOffsetVector", unfollowed := true, recurses := true, named := ["math/bits.divideError", "math/bits.overflowError"], apart := false, narrowed := true }
def StrokegeomOffsetVectorUptoSaid : Prop := strokegeomOffsetVectorUptoRow.holds Try.pinned (OpenSpec.upto strokegeomOffsetVectorSpec)

/-- 'grisaillelaw22.StrokegeomSymmetry', WHERE WHAT IT READS IS OF BULK AT MOST 1048576: true; the input reads as it did. -/
def strokegeomSymmetryUptoRow : OpenClaim := { program := "ytgkdcipebefmhaa", sum := "97b1b82d29f19d7d50a8f4ef7eb21ac5f62d280551e147cf06e84c0cc123b739", func := "grisaille/grisaillelaw22.StrokegeomSymmetry", spec := "strokegeomSymmetry", unfollowed := true, recurses := true, named := ["math/bits.divideError", "math/bits.overflowError"], apart := false, narrowed := true }
def StrokegeomSymmetryUptoSaid : Prop := strokegeomSymmetryUptoRow.holds Try.pinned (OpenSpec.upto strokegeomSymmetrySpec)

/-- 'grisaillelaw22.StrokegeomOffsetLength', WHERE WHAT IT READS IS OF BULK AT MOST 1048576: true; the input reads as it did. -/
def strokegeomOffsetLengthUptoRow : OpenClaim := { program := "ytgkdcipebefmhaa", sum := "97b1b82d29f19d7d50a8f4ef7eb21ac5f62d280551e147cf06e84c0cc123b739", func := "grisaille/grisaillelaw22.StrokegeomOffsetLength", spec := "strokegeomOffsetLength", unfollowed := true, recurses := true, named := ["math/bits.divideError", "math/bits.overflowError"], apart := false, narrowed := true }
def StrokegeomOffsetLengthUptoSaid : Prop := strokegeomOffsetLengthUptoRow.holds Try.pinned (OpenSpec.upto strokegeomOffsetLengthSpec)

/-- 'grisaillelaw22.StrokegeomBodies', WHERE WHAT IT READS IS OF BULK AT MOST 1048576: true; the input reads as it did. -/
def strokegeomBodiesUptoRow : OpenClaim := { program := "ytgkdcipebefmhaa", sum := "97b1b82d29f19d7d50a8f4ef7eb21ac5f62d280551e147cf06e84c0cc123b739", func := "grisaille/grisaillelaw22.StrokegeomBodies", spec := "strokegeomBodies", unfollowed := true, recurses := true, named := ["math/bits.divideError", "math/bits.overflowError"], apart := false, narrowed := true }
def StrokegeomBodiesUptoSaid : Prop := strokegeomBodiesUptoRow.holds Try.pinned (OpenSpec.upto strokegeomBodiesSpec)

/-- 'grisaillelaw22.StrokegeomDots', WHERE WHAT IT READS IS OF BULK AT MOST 1048576: true; the input reads as it did. -/
def strokegeomDotsUptoRow : OpenClaim := { program := "ytgkdcipebefmhaa", sum := "97b1b82d29f19d7d50a8f4ef7eb21ac5f62d280551e147cf06e84c0cc123b739", func := "grisaille/grisaillelaw22.StrokegeomDots", spec := "strokegeomDots", unfollowed := true, recurses := true, named := ["math/bits.divideError", "math/bits.overflowError"], apart := false, narrowed := true }
def StrokegeomDotsUptoSaid : Prop := strokegeomDotsUptoRow.holds Try.pinned (OpenSpec.upto strokegeomDotsSpec)

/-- 'grisaillelaw22.StrokegeomTranslation', WHERE WHAT IT READS IS OF BULK AT MOST 1048576: true; the input reads as it did. -/
def strokegeomTranslationUptoRow : OpenClaim := { program := "ytgkdcipebefmhaa", sum := "97b1b82d29f19d7d50a8f4ef7eb21ac5f62d280551e147cf06e84c0cc123b739", func := "grisaille/grisaillelaw22.StrokegeomTranslation", spec := "strokegeomTranslation", unfollowed := true, recurses := true, named := ["math/bits.divideError", "math/bits.overflowError"], apart := false, narrowed := true }
def StrokegeomTranslationUptoSaid : Prop := strokegeomTranslationUptoRow.holds Try.pinned (OpenSpec.upto strokegeomTranslationSpec)

end Rows
end Go.Proofs.Ytgkdcipebefmhaa
