/-
  No cell of these rows narrows 'for every input' (looked for: loops, veiled, ifaces, maps, wideKeys, modest, calm, conditions, laid).
  DERIVED. THE GIVEN ROWS OF THIS SEAT. 10 by the template 'for every input the law returns true; each argument reads behind the call as it read before'; 0 by the template 'total and deterministic' (their statements: YtboomdbmeallfaaTotals.lean).
  GIVEN WITH THE SEED: the statements are not yours to turn. If you find one false, say at which input.
  Laid BY PROGRAM, IN A SANDBOX (cutbox-rows.mjs): the forced cells as the released guide's own fill.sh prints them over the translation 890ec6b9939df721… (all of the seat's roots in one cut). By AI agents, Wed Nov 11 2026. No macro, syntax, notation, axiom, sorry.
-/
import Derived.Test.YtboomdbmeallfaaChecked
import GoSem.Claim
import GoSem.ClaimJoined
import GoSem.ClaimMapViews
import Derived.JoinedTies
import Derived.KernelRfl
namespace Go.Proofs.Ytboomdbmeallfaa
/- THE CELL 'sum', in the pinned program and in every row, IS THE sha256 OF THE DUMP (.gsa) THAT YtboomdbmeallfaaProg.lean LOADS. Nothing in Lean hashes anything: it is a label: what it is worth is what the hold of that sum in a sandbox is worth. -/
noncomputable def Try.pinned : Pinned := { name := "ytboomdbmeallfaa", sum := "890ec6b9939df721ac1c0ecaaf4259722cda01db5911a0972d763d416b34643f", checked := Try.checked }
namespace Rows
def none {H : Type} : Left H := { results := [], args := [] }

/-- 'grisaillelaw31.GradientSpread': WHATEVER THE INPUT: true; the input reads as it did. -/
def gradientSpreadSpec : ChangeSpec := { name := "gradientSpread", fn := fun _ => fun
  | [d1, d2] => { results := [.lit (.bool true)], args := [d1, d2] }
  | _ => none }
def gradientSpreadRow : OpenClaim := { program := "ytboomdbmeallfaa", sum := "890ec6b9939df721ac1c0ecaaf4259722cda01db5911a0972d763d416b34643f", func := "grisaille/grisaillelaw31.GradientSpread", spec := "gradientSpread", unfollowed := true, recurses := true, named := ["math/bits.divideError", "math/bits.overflowError"], apart := false }
def GradientSpreadSaid : Prop := gradientSpreadRow.holds Try.pinned (OpenSpec.ofChange gradientSpreadSpec)

/-- ITS FALSE NEIGHBOUR: 'it returns false'. Refute it at one input. -/
def gradientSpreadWrong : ChangeSpec := { name := "gradientSpread", fn := fun _ => fun
  | [d1, d2] => { results := [.lit (.bool false)], args := [d1, d2] }
  | _ => none }
def GradientSpreadWrongFalsely : Prop := gradientSpreadRow.holds Try.pinned (OpenSpec.ofChange gradientSpreadWrong)

/-- 'grisaillelaw31.GradientStops': WHATEVER THE INPUT: true; the input reads as it did. -/
def gradientStopsSpec : ChangeSpec := { name := "gradientStops", fn := fun _ => fun
  | [d1, d2, d3] => { results := [.lit (.bool true)], args := [d1, d2, d3] }
  | _ => none }
def gradientStopsRow : OpenClaim := { program := "ytboomdbmeallfaa", sum := "890ec6b9939df721ac1c0ecaaf4259722cda01db5911a0972d763d416b34643f", func := "grisaille/grisaillelaw31.GradientStops", spec := "gradientStops", unfollowed := true, recurses := true, named := ["math/bits.divideError", "math/bits.overflowError"], apart := false }
def GradientStopsSaid : Prop := gradientStopsRow.holds Try.pinned (OpenSpec.ofChange gradientStopsSpec)

/-- ITS FALSE NEIGHBOUR: 'it returns false'. Refute it at one input. -/
def gradientStopsWrong : ChangeSpec := { name := "gradientStops", fn := fun _ => fun
  | [d1, d2, d3] => { results := [.lit (.bool false)], args := [d1, d2, d3] }
  | _ => none }
def GradientStopsWrongFalsely : Prop := gradientStopsRow.holds Try.pinned (OpenSpec.ofChange gradientStopsWrong)

/-- 'grisaillelaw31.GradientInterpolation': WHATEVER THE INPUT: true; the input reads as it did. -/
def gradientInterpolationSpec : ChangeSpec := { name := "gradientInterpolation", fn := fun _ => fun
  | [d1, d2, d3] => { results := [.lit (.bool true)], args := [d1, d2, d3] }
  | _ => none }
def gradientInterpolationRow : OpenClaim := { program := "ytboomdbmeallfaa", sum := "890ec6b9939df721ac1c0ecaaf4259722cda01db5911a0972d763d416b34643f", func := "grisaille/grisaillelaw31.GradientInterpolation", spec := "gradientInterpolation", unfollowed := true, recurses := true, named := ["math/bits.divideError", "math/bits.overflowError"], apart := false }
def GradientInterpolationSaid : Prop := gradientInterpolationRow.holds Try.pinned (OpenSpec.ofChange gradientInterpolationSpec)

/-- ITS FALSE NEIGHBOUR: 'it returns false'. Refute it at one input. -/
def gradientInterpolationWrong : ChangeSpec := { name := "gradientInterpolation", fn := fun _ => fun
  | [d1, d2, d3] => { results := [.lit (.bool false)], args := [d1, d2, d3] }
  | _ => none }
def GradientInterpolationWrongFalsely : Prop := gradientInterpolationRow.holds Try.pinned (OpenSpec.ofChange gradientInterpolationWrong)

/-- 'grisaillelaw31.GradientColors': WHATEVER THE INPUT: true; the input reads as it did. -/
def gradientColorsSpec : ChangeSpec := { name := "gradientColors", fn := fun _ => fun
  | [d1, d2, d3] => { results := [.lit (.bool true)], args := [d1, d2, d3] }
  | _ => none }
def gradientColorsRow : OpenClaim := { program := "ytboomdbmeallfaa", sum := "890ec6b9939df721ac1c0ecaaf4259722cda01db5911a0972d763d416b34643f", func := "grisaille/grisaillelaw31.GradientColors", spec := "gradientColors", unfollowed := true, recurses := true, named := ["math/bits.divideError", "math/bits.overflowError"], apart := false }
def GradientColorsSaid : Prop := gradientColorsRow.holds Try.pinned (OpenSpec.ofChange gradientColorsSpec)

/-- ITS FALSE NEIGHBOUR: 'it returns false'. Refute it at one input. -/
def gradientColorsWrong : ChangeSpec := { name := "gradientColors", fn := fun _ => fun
  | [d1, d2, d3] => { results := [.lit (.bool false)], args := [d1, d2, d3] }
  | _ => none }
def GradientColorsWrongFalsely : Prop := gradientColorsRow.holds Try.pinned (OpenSpec.ofChange gradientColorsWrong)

/-- 'grisaillelaw31.GradientBasics': WHATEVER THE INPUT: true; the input reads as it did. -/
def gradientBasicsSpec : ChangeSpec := { name := "gradientBasics", fn := fun _ => fun
  | [d1, d2, d3] => { results := [.lit (.bool true)], args := [d1, d2, d3] }
  | _ => none }
def gradientBasicsRow : OpenClaim := { program := "ytboomdbmeallfaa", sum := "890ec6b9939df721ac1c0ecaaf4259722cda01db5911a0972d763d416b34643f", func := "grisaille/grisaillelaw31.GradientBasics", spec := "gradientBasics", unfollowed := true, recurses := true, named := ["math/bits.divideError", "math/bits.overflowError"], apart := false }
def GradientBasicsSaid : Prop := gradientBasicsRow.holds Try.pinned (OpenSpec.ofChange gradientBasicsSpec)

/-- ITS FALSE NEIGHBOUR: 'it returns false'. Refute it at one input. -/
def gradientBasicsWrong : ChangeSpec := { name := "gradientBasics", fn := fun _ => fun
  | [d1, d2, d3] => { results := [.lit (.bool false)], args := [d1, d2, d3] }
  | _ => none }
def GradientBasicsWrongFalsely : Prop := gradientBasicsRow.holds Try.pinned (OpenSpec.ofChange gradientBasicsWrong)

/-- 'grisaillelaw31.GradientSortStops': WHATEVER THE INPUT: true; the input reads as it did. -/
def gradientSortStopsSpec : ChangeSpec := { name := "gradientSortStops", fn := fun _ => fun
  | [d] => { results := [.lit (.bool true)], args := [d] }
  | _ => none }
def gradientSortStopsRow : OpenClaim := { program := "ytboomdbmeallfaa", sum := "890ec6b9939df721ac1c0ecaaf4259722cda01db5911a0972d763d416b34643f", func := "grisaille/grisaillelaw31.GradientSortStops", spec := "gradientSortStops", unfollowed := true, recurses := true, named := ["math/bits.divideError", "math/bits.overflowError"], apart := false }
def GradientSortStopsSaid : Prop := gradientSortStopsRow.holds Try.pinned (OpenSpec.ofChange gradientSortStopsSpec)

/-- ITS FALSE NEIGHBOUR: 'it returns false'. Refute it at one input. -/
def gradientSortStopsWrong : ChangeSpec := { name := "gradientSortStops", fn := fun _ => fun
  | [d] => { results := [.lit (.bool false)], args := [d] }
  | _ => none }
def GradientSortStopsWrongFalsely : Prop := gradientSortStopsRow.holds Try.pinned (OpenSpec.ofChange gradientSortStopsWrong)

/-- 'grisaillelaw31.GradientTable': WHATEVER THE INPUT: true; the input reads as it did. -/
def gradientTableSpec : ChangeSpec := { name := "gradientTable", fn := fun _ => fun
  | [d1, d2] => { results := [.lit (.bool true)], args := [d1, d2] }
  | _ => none }
def gradientTableRow : OpenClaim := { program := "ytboomdbmeallfaa", sum := "890ec6b9939df721ac1c0ecaaf4259722cda01db5911a0972d763d416b34643f", func := "grisaille/grisaillelaw31.GradientTable", spec := "gradientTable", unfollowed := true, recurses := true, named := ["math/bits.divideError", "math/bits.overflowError"], apart := false }
def GradientTableSaid : Prop := gradientTableRow.holds Try.pinned (OpenSpec.ofChange gradientTableSpec)

/-- ITS FALSE NEIGHBOUR: 'it returns false'. Refute it at one input. -/
def gradientTableWrong : ChangeSpec := { name := "gradientTable", fn := fun _ => fun
  | [d1, d2] => { results := [.lit (.bool false)], args := [d1, d2] }
  | _ => none }
def GradientTableWrongFalsely : Prop := gradientTableRow.holds Try.pinned (OpenSpec.ofChange gradientTableWrong)

/-- 'grisaillelaw31.GradientTableEnds': WHATEVER THE INPUT: true; the input reads as it did. -/
def gradientTableEndsSpec : ChangeSpec := { name := "gradientTableEnds", fn := fun _ => fun
  | [d1, d2, d3] => { results := [.lit (.bool true)], args := [d1, d2, d3] }
  | _ => none }
def gradientTableEndsRow : OpenClaim := { program := "ytboomdbmeallfaa", sum := "890ec6b9939df721ac1c0ecaaf4259722cda01db5911a0972d763d416b34643f", func := "grisaille/grisaillelaw31.GradientTableEnds", spec := "gradientTableEnds", unfollowed := true, recurses := true, named := ["math/bits.divideError", "math/bits.overflowError"], apart := false }
def GradientTableEndsSaid : Prop := gradientTableEndsRow.holds Try.pinned (OpenSpec.ofChange gradientTableEndsSpec)

/-- ITS FALSE NEIGHBOUR: 'it returns false'. Refute it at one input. -/
def gradientTableEndsWrong : ChangeSpec := { name := "gradientTableEnds", fn := fun _ => fun
  | [d1, d2, d3] => { results := [.lit (.bool false)], args := [d1, d2, d3] }
  | _ => none }
def GradientTableEndsWrongFalsely : Prop := gradientTableEndsRow.holds Try.pinned (OpenSpec.ofChange gradientTableEndsWrong)

/-- 'grisaillelaw31.GradientInsertNeutral': WHATEVER THE INPUT: true; the input reads as it did. -/
def gradientInsertNeutralSpec : ChangeSpec := { name := "gradientInsertNeutral", fn := fun _ => fun
  | [d1, d2, d3] => { results := [.lit (.bool true)], args := [d1, d2, d3] }
  | _ => none }
def gradientInsertNeutralRow : OpenClaim := { program := "ytboomdbmeallfaa", sum := "890ec6b9939df721ac1c0ecaaf4259722cda01db5911a0972d763d416b34643f", func := "grisaille/grisaillelaw31.GradientInsertNeutral", spec := "gradientInsertNeutral", inPlace := ["slices.overlaps[grisaille/api.ColorStop]"], unfollowed := true, recurses := true, named := ["math/bits.divideError", "math/bits.overflowError"], apart := false }
def GradientInsertNeutralSaid : Prop := gradientInsertNeutralRow.holds Try.pinned (OpenSpec.ofChange gradientInsertNeutralSpec)

/-- ITS FALSE NEIGHBOUR: 'it returns false'. Refute it at one input. -/
def gradientInsertNeutralWrong : ChangeSpec := { name := "gradientInsertNeutral", fn := fun _ => fun
  | [d1, d2, d3] => { results := [.lit (.bool false)], args := [d1, d2, d3] }
  | _ => none }
def GradientInsertNeutralWrongFalsely : Prop := gradientInsertNeutralRow.holds Try.pinned (OpenSpec.ofChange gradientInsertNeutralWrong)

/-- 'grisaillelaw31.GradientEdits': WHATEVER THE INPUT: true; the input reads as it did. -/
def gradientEditsSpec : ChangeSpec := { name := "gradientEdits", fn := fun _ => fun
  | [d1, d2] => { results := [.lit (.bool true)], args := [d1, d2] }
  | _ => none }
def gradientEditsRow : OpenClaim := { program := "ytboomdbmeallfaa", sum := "890ec6b9939df721ac1c0ecaaf4259722cda01db5911a0972d763d416b34643f", func := "grisaille/grisaillelaw31.GradientEdits", spec := "gradientEdits", inPlace := ["slices.overlaps[grisaille/api.ColorStop]"], unfollowed := true, recurses := true, named := ["math/bits.divideError", "math/bits.overflowError"], apart := false }
def GradientEditsSaid : Prop := gradientEditsRow.holds Try.pinned (OpenSpec.ofChange gradientEditsSpec)

/-- ITS FALSE NEIGHBOUR: 'it returns false'. Refute it at one input. -/
def gradientEditsWrong : ChangeSpec := { name := "gradientEdits", fn := fun _ => fun
  | [d1, d2] => { results := [.lit (.bool false)], args := [d1, d2] }
  | _ => none }
def GradientEditsWrongFalsely : Prop := gradientEditsRow.holds Try.pinned (OpenSpec.ofChange gradientEditsWrong)

/- THE SECOND FORM. 'bulk': how many values and letters a reading holds, each counted each time it is reached (what is shared counts as often as it is met; a slice's spare places count too). A statement '..UptoSaid' is the law's where the arguments, and the package variables that the reading takes, are together of bulk at most 1048576: NARROWER than '..Said'. Prove '..Said' where nothing that the law and all that it calls make is longer than what came in: it says more and counts as full. Else prove '..UptoSaid'. A law counts once. -/
mutual
def uptoBulk {H : Type} : DataW H → Nat
  | .lit (.string bytes) => bytes.length + 1
  | .lit _ => 1
  | .nil => 1
  | .ptr d => uptoBulk d + 1
  | .slice elems spare => uptoBulkAll elems + uptoBulkAll spare + 1
  | .agg parts => uptoBulkAll parts + 1
  | .iface _ d => uptoBulk d + 1
  | .map entries => uptoBulkEntries entries + 1
  | .held _ => 1
def uptoBulkAll {H : Type} : List (DataW H) → Nat
  | [] => 0
  | d :: r => uptoBulk d + uptoBulkAll r
def uptoBulkEntries {H : Type} : List (Lit × DataW H) → Nat
  | [] => 0
  | x :: r => uptoBulkEntry x + uptoBulkEntries r
def uptoBulkEntry {H : Type} : Lit × DataW H → Nat
  | (.string bytes, d) => bytes.length + uptoBulk d + 1
  | (_, d) => uptoBulk d + 1
 end
def uptoSmall : (H : Type) → List (DataW H) → Bool := fun _ ds => decide (uptoBulkAll ds ≤ 1048576)
def OpenSpec.upto (s : _root_.Go.ChangeSpec) : _root_.Go.OpenSpec := { _root_.Go.OpenSpec.ofChange s with cond := some uptoSmall }

/-- 'grisaillelaw31.GradientSpread', WHERE WHAT IT READS IS OF BULK AT MOST 1048576: true; the input reads as it did. -/
def gradientSpreadUptoRow : OpenClaim := { program := "ytboomdbmeallfaa", sum := "890ec6b9939df721ac1c0ecaaf4259722cda01db5911a0972d763d416b34643f", func := "grisaille/grisaillelaw31.GradientSpread", spec := "gradientSpread", unfollowed := true, recurses := true, named := ["math/bits.divideError", "math/bits.overflowError"], apart := false, narrowed := true }
def GradientSpreadUptoSaid : Prop := gradientSpreadUptoRow.holds Try.pinned (OpenSpec.upto gradientSpreadSpec)

/-- 'grisaillelaw31.GradientStops', WHERE WHAT IT READS IS OF BULK AT MOST 1048576: true; the input reads as it did. -/
def gradientStopsUptoRow : OpenClaim := { program := "ytboomdbmeallfaa", sum := "890ec6b9939df721ac1c0ecaaf4259722cda01db5911a0972d763d416b34643f", func := "grisaille/grisaillelaw31.GradientStops", spec := "gradientStops", unfollowed := true, recurses := true, named := ["math/bits.divideError", "math/bits.overflowError"], apart := false, narrowed := true }
def GradientStopsUptoSaid : Prop := gradientStopsUptoRow.holds Try.pinned (OpenSpec.upto gradientStopsSpec)

/-- 'grisaillelaw31.GradientInterpolation', WHERE WHAT IT READS IS OF BULK AT MOST 1048576: true; the input reads as it did. -/
def gradientInterpolationUptoRow : OpenClaim := { program := "ytboomdbmeallfaa", sum := "890ec6b9939df721ac1c0ecaaf4259722cda01db5911a0972d763d416b34643f", func := "grisaille/grisaillelaw31.GradientInterpolation", spec := "gradientInterpolation", unfollowed := true, recurses := true, named := ["math/bits.divideError", "math/bits.overflowError"], apart := false, narrowed := true }
def GradientInterpolationUptoSaid : Prop := gradientInterpolationUptoRow.holds Try.pinned (OpenSpec.upto gradientInterpolationSpec)

/-- 'grisaillelaw31.GradientColors', WHERE WHAT IT READS IS OF BULK AT MOST 1048576: true; the input reads as it did. -/
def gradientColorsUptoRow : OpenClaim := { program := "ytboomdbmeallfaa", sum := "890ec6b9939df721ac1c0ecaaf4259722cda01db5911a0972d763d416b34643f", func := "grisaille/grisaillelaw31.GradientColors", spec := "gradientColors", unfollowed := true, recurses := true, named := ["math/bits.divideError", "math/bits.overflowError"], apart := false, narrowed := true }
def GradientColorsUptoSaid : Prop := gradientColorsUptoRow.holds Try.pinned (OpenSpec.upto gradientColorsSpec)

/-- 'grisaillelaw31.GradientBasics', WHERE WHAT IT READS IS OF BULK AT MOST 1048576: true; the input reads as it did. -/
def gradientBasicsUptoRow : OpenClaim := { program := "ytboomdbmeallfaa", sum := "890ec6b9939df721ac1c0ecaaf4259722cda01db5911a0972d763d416b34643f", func := "grisaille/grisaillelaw31.GradientBasics", spec := "gradientBasics", unfollowed := true, recurses := true, named := ["math/bits.divideError", "math/bits.overflowError"], apart := false, narrowed := true }
def GradientBasicsUptoSaid : Prop := gradientBasicsUptoRow.holds Try.pinned (OpenSpec.upto gradientBasicsSpec)

/-- 'grisaillelaw31.GradientSortStops', WHERE WHAT IT READS IS OF BULK AT MOST 1048576: true; the input reads as it did. -/
def gradientSortStopsUptoRow : OpenClaim := { program := "ytboomdbmeallfaa", sum := "890ec6b9939df721ac1c0ecaaf4259722cda01db5911a0972d763d416b34643f", func := "grisaille/grisaillelaw31.GradientSortStops", spec := "gradientSortStops", unfollowed := true, recurses := true, named := ["math/bits.divideError", "math/bits.overflowError"], apart := false, narrowed := true }
def GradientSortStopsUptoSaid : Prop := gradientSortStopsUptoRow.holds Try.pinned (OpenSpec.upto gradientSortStopsSpec)

/-- 'grisaillelaw31.GradientTable', WHERE WHAT IT READS IS OF BULK AT MOST 1048576: true; the input reads as it did. -/
def gradientTableUptoRow : OpenClaim := { program := "ytboomdbmeallfaa", sum := "890ec6b9939df721ac1c0ecaaf4259722cda01db5911a0972d763d416b34643f", func := "grisaille/grisaillelaw31.GradientTable", spec := "gradientTable", unfollowed := true, recurses := true, named := ["math/bits.divideError", "math/bits.overflowError"], apart := false, narrowed := true }
def GradientTableUptoSaid : Prop := gradientTableUptoRow.holds Try.pinned (OpenSpec.upto gradientTableSpec)

/-- 'grisaillelaw31.GradientTableEnds', WHERE WHAT IT READS IS OF BULK AT MOST 1048576: true; the input reads as it did. -/
def gradientTableEndsUptoRow : OpenClaim := { program := "ytboomdbmeallfaa", sum := "890ec6b9939df721ac1c0ecaaf4259722cda01db5911a0972d763d416b34643f", func := "grisaille/grisaillelaw31.GradientTableEnds", spec := "gradientTableEnds", unfollowed := true, recurses := true, named := ["math/bits.divideError", "math/bits.overflowError"], apart := false, narrowed := true }
def GradientTableEndsUptoSaid : Prop := gradientTableEndsUptoRow.holds Try.pinned (OpenSpec.upto gradientTableEndsSpec)

/-- 'grisaillelaw31.GradientInsertNeutral', WHERE WHAT IT READS IS OF BULK AT MOST 1048576: true; the input reads as it did. -/
def gradientInsertNeutralUptoRow : OpenClaim := { program := "ytboomdbmeallfaa", sum := "890ec6b9939df721ac1c0ecaaf4259722cda01db5911a0972d763d416b34643f", func := "grisaille/grisaillelaw31.GradientInsertNeutral", spec := "gradientInsertNeutral", inPlace := ["slices.overlaps[grisaille/api.ColorStop]"], unfollowed := true, recurses := true, named := ["math/bits.divideError", "math/bits.overflowError"], apart := false, narrowed := true }
def GradientInsertNeutralUptoSaid : Prop := gradientInsertNeutralUptoRow.holds Try.pinned (OpenSpec.upto gradientInsertNeutralSpec)

/-- 'grisaillelaw31.GradientEdits', WHERE WHAT IT READS IS OF BULK AT MOST 1048576: true; the input reads as it did. -/
def gradientEditsUptoRow : OpenClaim := { program := "ytboomdbmeallfaa", sum := "890ec6b9939df721ac1c0ecaaf4259722cda01db5911a0972d763d416b34643f", func := "grisaille/grisaillelaw31.GradientEdits", spec := "gradientEdits", inPlace := ["slices.overlaps[grisaille/api.ColorStop]"], unfollowed := true, recurses := true, named := ["math/bits.divideError", "math/bits.overflowError"], apart := false, narrowed := true }
def GradientEditsUptoSaid : Prop := gradientEditsUptoRow.holds Try.pinned (OpenSpec.upto gradientEditsSpec)

end Rows
end Go.Proofs.Ytboomdbmeallfaa
