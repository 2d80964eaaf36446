/-
  No cell of these rows narrows 'for every input' (looked for: loops, veiled, ifaces, maps, wideKeys, modest, calm, conditions, laid).
  DERIVED. THE GIVEN ROWS OF THIS SEAT. 10 by the template 'for every input the law returns true; each argument reads behind the call as it read before'; 0 by the template 'total and deterministic' (their statements: YtdodgnpjlicnoaaTotals.lean).
  GIVEN WITH THE SEED: the statements are not yours to turn. If you find one false, say at which input.
  Laid BY PROGRAM, IN A SANDBOX (cutbox-rows.mjs): the forced cells as the released guide's own fill.sh prints them over the translation ea8be02c9b890f11… (all of the seat's roots in one cut). By AI agents, Wed Nov 11 2026. No macro, syntax, notation, axiom, sorry.
-/
import Derived.Test.YtdodgnpjlicnoaaChecked
import GoSem.Claim
import GoSem.ClaimJoined
import GoSem.ClaimMapViews
import Derived.JoinedTies
import Derived.KernelRfl
namespace Go.Proofs.Ytdodgnpjlicnoaa
/- THE CELL 'sum', in the pinned program and in every row, IS THE sha256 OF THE DUMP (.gsa) THAT YtdodgnpjlicnoaaProg.lean LOADS. Nothing in Lean hashes anything: it is a label: what it is worth is what the hold of that sum in a sandbox is worth. -/
noncomputable def Try.pinned : Pinned := { name := "ytdodgnpjlicnoaa", sum := "ea8be02c9b890f114cd989a96b1ce7da85b184813d7c5b0fbdd291e7d5464b43", checked := Try.checked }
namespace Rows
def none {H : Type} : Left H := { results := [], args := [] }

/-- 'grisaillelaw23.LinejoinOuterNormals': WHATEVER THE INPUT: true; the input reads as it did. -/
def linejoinOuterNormalsSpec : ChangeSpec := { name := "linejoinOuterNormals", fn := fun _ => fun
  | [d1, d2] => { results := [.lit (.bool true)], args := [d1, d2] }
  | _ => none }
def linejoinOuterNormalsRow : OpenClaim := { program := "ytdodgnpjlicnoaa", sum := "ea8be02c9b890f114cd989a96b1ce7da85b184813d7c5b0fbdd291e7d5464b43", func := "grisaille/grisaillelaw23.LinejoinOuterNormals", spec := "linejoinOuterNormals", unfollowed := true, recurses := true, named := ["math/bits.divideError", "math/bits.overflowError"], apart := false }
def LinejoinOuterNormalsSaid : Prop := linejoinOuterNormalsRow.holds Try.pinned (OpenSpec.ofChange linejoinOuterNormalsSpec)

/-- ITS FALSE NEIGHBOUR: 'it returns false'. Refute it at one input. -/
def linejoinOuterNormalsWrong : ChangeSpec := { name := "linejoinOuterNormals", fn := fun _ => fun
  | [d1, d2] => { results := [.lit (.bool false)], args := [d1, d2] }
  | _ => none }
def LinejoinOuterNormalsWrongFalsely : Prop := linejoinOuterNormalsRow.holds Try.pinned (OpenSpec.ofChange linejoinOuterNormalsWrong)

/-- 'grisaillelaw23.LinejoinTipValues': WHATEVER THE INPUT: true; the input reads as it did. -/
def linejoinTipValuesSpec : ChangeSpec := { name := "linejoinTipValues", fn := fun _ => fun
  | [d1, d2, d3] => { results := [.lit (.bool true)], args := [d1, d2, d3] }
  | _ => none }
def linejoinTipValuesRow : OpenClaim := { program := "ytdodgnpjlicnoaa", sum := "ea8be02c9b890f114cd989a96b1ce7da85b184813d7c5b0fbdd291e7d5464b43", func := "grisaille/grisaillelaw23.LinejoinTipValues", spec := "linejoinTipValues", unfollowed := true, recurses := true, named := ["math/bits.divideError", "math/bits.overflowError"], apart := false }
def LinejoinTipValuesSaid : Prop := linejoinTipValuesRow.holds Try.pinned (OpenSpec.ofChange linejoinTipValuesSpec)

/-- ITS FALSE NEIGHBOUR: 'it returns false'. Refute it at one input. -/
def linejoinTipValuesWrong : ChangeSpec := { name := "linejoinTipValues", fn := fun _ => fun
  | [d1, d2, d3] => { results := [.lit (.bool false)], args := [d1, d2, d3] }
  | _ => none }
def LinejoinTipValuesWrongFalsely : Prop := linejoinTipValuesRow.holds Try.pinned (OpenSpec.ofChange linejoinTipValuesWrong)

/-- 'grisaillelaw23.LinejoinPolygons': WHATEVER THE INPUT: true; the input reads as it did. -/
def linejoinPolygonsSpec : ChangeSpec := { name := "linejoinPolygons", fn := fun _ => fun
  | [d1, d2] => { results := [.lit (.bool true)], args := [d1, d2] }
  | _ => none }
def linejoinPolygonsRow : OpenClaim := { program := "ytdodgnpjlicnoaa", sum := "ea8be02c9b890f114cd989a96b1ce7da85b184813d7c5b0fbdd291e7d5464b43", func := "grisaille/grisaillelaw23.LinejoinPolygons", spec := "linejoinPolygons", unfollowed := true, recurses := true, named := ["math/bits.divideError", "math/bits.overflowError"], apart := false }
def LinejoinPolygonsSaid : Prop := linejoinPolygonsRow.holds Try.pinned (OpenSpec.ofChange linejoinPolygonsSpec)

/-- ITS FALSE NEIGHBOUR: 'it returns false'. Refute it at one input. -/
def linejoinPolygonsWrong : ChangeSpec := { name := "linejoinPolygons", fn := fun _ => fun
  | [d1, d2] => { results := [.lit (.bool false)], args := [d1, d2] }
  | _ => none }
def LinejoinPolygonsWrongFalsely : Prop := linejoinPolygonsRow.holds Try.pinned (OpenSpec.ofChange linejoinPolygonsWrong)

/-- 'grisaillelaw23.LinejoinReversal': WHATEVER THE INPUT: true; the input reads as it did. -/
def linejoinReversalSpec : ChangeSpec := { name := "linejoinReversal", fn := fun _ => fun
  | [d1, d2] => { results := [.lit (.bool true)], args := [d1, d2] }
  | _ => none }
def linejoinReversalRow : OpenClaim := { program := "ytdodgnpjlicnoaa", sum := "ea8be02c9b890f114cd989a96b1ce7da85b184813d7c5b0fbdd291e7d5464b43", func := "grisaille/grisaillelaw23.LinejoinReversal", spec := "linejoinReversal", unfollowed := true, recurses := true, named := ["math/bits.divideError", "math/bits.overflowError"], apart := false }
def LinejoinReversalSaid : Prop := linejoinReversalRow.holds Try.pinned (OpenSpec.ofChange linejoinReversalSpec)

/-- ITS FALSE NEIGHBOUR: 'it returns false'. Refute it at one input. -/
def linejoinReversalWrong : ChangeSpec := { name := "linejoinReversal", fn := fun _ => fun
  | [d1, d2] => { results := [.lit (.bool false)], args := [d1, d2] }
  | _ => none }
def LinejoinReversalWrongFalsely : Prop := linejoinReversalRow.holds Try.pinned (OpenSpec.ofChange linejoinReversalWrong)

/-- 'grisaillelaw23.LinejoinMiterTip': WHATEVER THE INPUT: true; the input reads as it did. -/
def linejoinMiterTipSpec : ChangeSpec := { name := "linejoinMiterTip", fn := fun _ => fun
  | [d1, d2, d3] => { results := [.lit (.bool true)], args := [d1, d2, d3] }
  | _ => none }
def linejoinMiterTipRow : OpenClaim := { program := "ytdodgnpjlicnoaa", sum := "ea8be02c9b890f114cd989a96b1ce7da85b184813d7c5b0fbdd291e7d5464b43", func := "grisaille/grisaillelaw23.LinejoinMiterTip", spec := "linejoinMiterTip", unfollowed := true, recurses := true, named := ["math/bits.divideError", "math/bits.overflowError"], apart := false }
def LinejoinMiterTipSaid : Prop := linejoinMiterTipRow.holds Try.pinned (OpenSpec.ofChange linejoinMiterTipSpec)

/-- ITS FALSE NEIGHBOUR: 'it returns false'. Refute it at one input. -/
def linejoinMiterTipWrong : ChangeSpec := { name := "linejoinMiterTip", fn := fun _ => fun
  | [d1, d2, d3] => { results := [.lit (.bool false)], args := [d1, d2, d3] }
  | _ => none }
def LinejoinMiterTipWrongFalsely : Prop := linejoinMiterTipRow.holds Try.pinned (OpenSpec.ofChange linejoinMiterTipWrong)

/-- 'grisaillelaw23.LinejoinOrientation': WHATEVER THE INPUT: true; the input reads as it did. -/
def linejoinOrientationSpec : ChangeSpec := { name := "linejoinOrientation", fn := fun _ => fun
  | [d1, d2] => { results := [.lit (.bool true)], args := [d1, d2] }
  | _ => none }
def linejoinOrientationRow : OpenClaim := { program := "ytdodgnpjlicnoaa", sum := "ea8be02c9b890f114cd989a96b1ce7da85b184813d7c5b0fbdd291e7d5464b43", func := "grisaille/grisaillelaw23.LinejoinOrientation", spec := "linejoinOrientation", unfollowed := true, recurses := true, named := ["math/bits.divideError", "math/bits.overflowError"], apart := false }
def LinejoinOrientationSaid : Prop := linejoinOrientationRow.holds Try.pinned (OpenSpec.ofChange linejoinOrientationSpec)

/-- ITS FALSE NEIGHBOUR: 'it returns false'. Refute it at one input. -/
def linejoinOrientationWrong : ChangeSpec := { name := "linejoinOrientation", fn := fun _ => fun
  | [d1, d2] => { results := [.lit (.bool false)], args := [d1, d2] }
  | _ => none }
def LinejoinOrientationWrongFalsely : Prop := linejoinOrientationRow.holds Try.pinned (OpenSpec.ofChange linejoinOrientationWrong)

/-- 'grisaillelaw24.StrokeDedup': WHATEVER THE INPUT: true; the input reads as it did. -/
def strokeDedupSpec : ChangeSpec := { name := "strokeDedup", fn := fun _ => fun
  | [d] => { results := [.lit (.bool true)], args := [d] }
  | _ => none }
def strokeDedupRow : OpenClaim := { program := "ytdodgnpjlicnoaa", sum := "ea8be02c9b890f114cd989a96b1ce7da85b184813d7c5b0fbdd291e7d5464b43", func := "grisaille/grisaillelaw24.StrokeDedup", spec := "strokeDedup", unfollowed := true, recurses := true, named := ["math/bits.divideError", "math/bits.overflowError"], apart := false }
def StrokeDedupSaid : Prop := strokeDedupRow.holds Try.pinned (OpenSpec.ofChange strokeDedupSpec)

/-- ITS FALSE NEIGHBOUR: 'it returns false'. Refute it at one input. -/
def strokeDedupWrong : ChangeSpec := { name := "strokeDedup", fn := fun _ => fun
  | [d] => { results := [.lit (.bool false)], args := [d] }
  | _ => none }
def StrokeDedupWrongFalsely : Prop := strokeDedupRow.holds Try.pinned (OpenSpec.ofChange strokeDedupWrong)

/-- 'grisaillelaw24.StrokeOriented': WHATEVER THE INPUT: true; the input reads as it did. -/
def strokeOrientedSpec : ChangeSpec := { name := "strokeOriented", fn := fun _ => fun
  | [d1, d2] => { results := [.lit (.bool true)], args := [d1, d2] }
  | _ => none }
def strokeOrientedRow : OpenClaim := { program := "ytdodgnpjlicnoaa", sum := "ea8be02c9b890f114cd989a96b1ce7da85b184813d7c5b0fbdd291e7d5464b43", func := "grisaille/grisaillelaw24.StrokeOriented", spec := "strokeOriented", unfollowed := true, recurses := true, named := ["math/bits.divideError", "math/bits.overflowError"], apart := false }
def StrokeOrientedSaid : Prop := strokeOrientedRow.holds Try.pinned (OpenSpec.ofChange strokeOrientedSpec)

/-- ITS FALSE NEIGHBOUR: 'it returns false'. Refute it at one input. -/
def strokeOrientedWrong : ChangeSpec := { name := "strokeOriented", fn := fun _ => fun
  | [d1, d2] => { results := [.lit (.bool false)], args := [d1, d2] }
  | _ => none }
def StrokeOrientedWrongFalsely : Prop := strokeOrientedRow.holds Try.pinned (OpenSpec.ofChange strokeOrientedWrong)

/-- 'grisaillelaw24.StrokeIgnoresDuplicates': WHATEVER THE INPUT: true; the input reads as it did. -/
def strokeIgnoresDuplicatesSpec : ChangeSpec := { name := "strokeIgnoresDuplicates", fn := fun _ => fun
  | [d1, d2] => { results := [.lit (.bool true)], args := [d1, d2] }
  | _ => none }
def strokeIgnoresDuplicatesRow : OpenClaim := { program := "ytdodgnpjlicnoaa", sum := "ea8be02c9b890f114cd989a96b1ce7da85b184813d7c5b0fbdd291e7d5464b43", func := "grisaille/grisaillelaw24.StrokeIgnoresDuplicates", spec := "strokeIgnoresDuplicates", unfollowed := true, recurses := true, named := ["math/bits.divideError", "math/bits.overflowError"], apart := false }
def StrokeIgnoresDuplicatesSaid : Prop := strokeIgnoresDuplicatesRow.holds Try.pinned (OpenSpec.ofChange strokeIgnoresDuplicatesSpec)

/-- ITS FALSE NEIGHBOUR: 'it returns false'. Refute it at one input. -/
def strokeIgnoresDuplicatesWrong : ChangeSpec := { name := "strokeIgnoresDuplicates", fn := fun _ => fun
  | [d1, d2] => { results := [.lit (.bool false)], args := [d1, d2] }
  | _ => none }
def StrokeIgnoresDuplicatesWrongFalsely : Prop := strokeIgnoresDuplicatesRow.holds Try.pinned (OpenSpec.ofChange strokeIgnoresDuplicatesWrong)

/-- 'grisaillelaw24.StrokeConcatenates': WHATEVER THE INPUT: true; the input reads as it did. -/
def strokeConcatenatesSpec : ChangeSpec := { name := "strokeConcatenates", fn := fun _ => fun
  | [d1, d2] => { results := [.lit (.bool true)], args := [d1, d2] }
  | _ => none }
def strokeConcatenatesRow : OpenClaim := { program := "ytdodgnpjlicnoaa", sum := "ea8be02c9b890f114cd989a96b1ce7da85b184813d7c5b0fbdd291e7d5464b43", func := "grisaille/grisaillelaw24.StrokeConcatenates", spec := "strokeConcatenates", unfollowed := true, recurses := true, named := ["math/bits.divideError", "math/bits.overflowError"], apart := false }
def StrokeConcatenatesSaid : Prop := strokeConcatenatesRow.holds Try.pinned (OpenSpec.ofChange strokeConcatenatesSpec)

/-- ITS FALSE NEIGHBOUR: 'it returns false'. Refute it at one input. -/
def strokeConcatenatesWrong : ChangeSpec := { name := "strokeConcatenates", fn := fun _ => fun
  | [d1, d2] => { results := [.lit (.bool false)], args := [d1, d2] }
  | _ => none }
def StrokeConcatenatesWrongFalsely : Prop := strokeConcatenatesRow.holds Try.pinned (OpenSpec.ofChange strokeConcatenatesWrong)

/- THE SECOND FORM. 'bulk': how many values and letters a reading holds, each counted each time it is reached (what is shared counts as often as it is met; a slice's spare places count too). A statement '..UptoSaid' is the law's where the arguments, and the package variables that the reading takes, are together of bulk at most 1048576: NARROWER than '..Said'. Prove '..Said' where nothing that the law and all that it calls make is longer than what came in: it says more and counts as full. Else prove '..UptoSaid'. A law counts once. -/
mutual
def uptoBulk {H : Type} : DataW H → Nat
  | .lit (.string bytes) => bytes.length + 1
  | .lit _ => 1
  | .nil => 1
  | .ptr d => uptoBulk d + 1
  | .slice elems spare => uptoBulkAll elems + uptoBulkAll spare + 1
  | .agg parts => uptoBulkAll parts + 1
  | .iface _ d => uptoBulk d + 1
  | .map entries => uptoBulkEntries entries + 1
  | .held _ => 1
def uptoBulkAll {H : Type} : List (DataW H) → Nat
  | [] => 0
  | d :: r => uptoBulk d + uptoBulkAll r
def uptoBulkEntries {H : Type} : List (Lit × DataW H) → Nat
  | [] => 0
  | x :: r => uptoBulkEntry x + uptoBulkEntries r
def uptoBulkEntry {H : Type} : Lit × DataW H → Nat
  | (.string bytes, d) => bytes.length + uptoBulk d + 1
  | (_, d) => uptoBulk d + 1
 end
def uptoSmall : (H : Type) → List (DataW H) → Bool := fun _ ds => decide (uptoBulkAll ds ≤ 1048576)
def OpenSpec.upto (s : _root_.Go.ChangeSpec) : _root_.Go.OpenSpec := { _root_.Go.OpenSpec.ofChange s with cond := some uptoSmall }

/-- 'grisaillelaw23.LinejoinOuterNormals', WHERE WHAT IT READS IS OF BULK AT MOST 1048576: true; the input reads as it did. -/
def linejoinOuterNormalsUptoRow : OpenClaim := { program := "ytdodgnpjlicnoaa", sum := "ea8be02c9b890f114cd989a96b1ce7da85b184813d7c5b0fbdd291e7d5464b43", func := "grisaille/grisaillelaw23.LinejoinOuterNormals", spec := "linejoinOuterNormals", unfollowed := true, recurses := true, named := ["math/bits.divideError", "math/bits.overflowError"], apart := false, narrowed := true }
def LinejoinOuterNormalsUptoSaid : Prop := linejoinOuterNormalsUptoRow.holds Try.pinned (OpenSpec.upto linejoinOuterNormalsSpec)

/-- 'grisaillelaw23.LinejoinTipValues', WHERE WHAT IT READS IS OF BULK AT MOST 1048576: true; the input reads as it did. -/
def linejoinTipValuesUptoRow : OpenClaim := { program := "ytdodgnpjlicnoaa", sum := "ea8be02c9b890f114cd989a96b1ce7da85b184813d7c5b0fbdd291e7d5464b43", func := "grisaille/grisaillelaw23.LinejoinTipValues", spec := "linejoinTipValues", unfollowed := true, recurses := true, named := ["math/bits.divideError", "math/bits.overflowError"], apart := false, narrowed := true }
def LinejoinTipValuesUptoSaid : Prop := linejoinTipValuesUptoRow.holds Try.pinned (OpenSpec.upto linejoinTipValuesSpec)

/-- 'grisaillelaw23.LinejoinPolygons', WHERE WHAT IT READS IS OF BULK AT MOST 1048576: true; the input reads as it did. -/
def linejoinPolygonsUptoRow : OpenClaim := { program := "ytdodgnpjlicnoaa", sum := "ea8be02c9b890f114cd989a96b1ce7da85b184813d7c5b0fbdd291e7d5464b43", func := "grisaille/grisaillelaw23.LinejoinPolygons", spec := "linejoinPolygons", unfollowed := true, recurses := true, named := ["math/bits.divideError", "math/bits.overflowError"], apart := false, narrowed := true }
def LinejoinPolygonsUptoSaid : Prop := linejoinPolygonsUptoRow.holds Try.pinned (OpenSpec.upto linejoinPolygonsSpec)

/-- 'grisaillelaw23.LinejoinReversal', WHERE WHAT IT READS IS OF BULK AT MOST 1048576: true; the input reads as it did. -/
def linejoinReversalUptoRow : OpenClaim := { program := "ytdodgnpjlicnoaa", sum := "ea8be02c9b890f114cd989a96b1ce7da85b184813d7c5b0fbdd291e7d5464b43", func := "grisaille/grisaillelaw23.LinejoinReversal", spec := "linejoinReversal", unfollowed := true, recurses := true, named := ["math/bits.divideError", "math/bits.overflowError"], apart := false, narrowed := true }
def LinejoinReversalUptoSaid : Prop := linejoinReversalUptoRow.holds Try.pinned (OpenSpec.upto linejoinReversalSpec)

/-- 'grisaillelaw23.LinejoinMiterTip', WHERE WHAT IT READS IS OF BULK AT MOST 1048576: true; the input reads as it did. -/
def linejoinMiterTipUptoRow : OpenClaim := { program := "ytdodgnpjlicnoaa", sum := "ea8be02c9b890f114cd989a96b1ce7da85b184813d7c5b0fbdd291e7d5464b43", func := "grisaille/grisaillelaw23.LinejoinMiterTip", spec := "linejoinMiterTip", unfollowed := true, recurses := true, named := ["math/bits.divideError", "math/bits.overflowError"], apart := false, narrowed := true }
def LinejoinMiterTipUptoSaid : Prop := linejoinMiterTipUptoRow.holds Try.pinned (OpenSpec.upto linejoinMiterTipSpec)

/-- 'grisaillelaw23.LinejoinOrientation', WHERE WHAT IT READS IS OF BULK AT MOST 1048576: true; the input reads as it did. -/
def linejoinOrientationUptoRow : OpenClaim := { program := "ytdodgnpjlicnoaa", sum := "ea8be02c9b890f114cd989a96b1ce7da85b184813d7c5b0fbdd291e7d5464b43", func := "grisaille/grisaillelaw23.LinejoinOrientation", spec := "linejoinOrientation", unfollowed := true, recurses := true, named := ["math/bits.divideError", "math/bits.overflowError"], apart := false, narrowed := true }
def LinejoinOrientationUptoSaid : Prop := linejoinOrientationUptoRow.holds Try.pinned (OpenSpec.upto linejoinOrientationSpec)

/-- 'grisaillelaw24.StrokeDedup', WHERE WHAT IT READS IS OF BULK AT MOST 1048576: true; the input reads as it did. -/
def strokeDedupUptoRow : OpenClaim := { program := "ytdodgnpjlicnoaa", sum := "ea8be02c9b890f114cd989a96b1ce7da85b184813d7c5b0fbdd291e7d5464b43", func := "grisaille/grisaillelaw24.StrokeDedup", spec := "strokeDedup", unfollowed := true, recurses := true, named := ["math/bits.divideError", "math/bits.overflowError"], apart := false, narrowed := true }
def StrokeDedupUptoSaid : Prop := strokeDedupUptoRow.holds Try.pinned (OpenSpec.upto strokeDedupSpec)

/-- 'grisaillelaw24.StrokeOriented', WHERE WHAT IT READS IS OF BULK AT MOST 1048576: true; the input reads as it did. -/
def strokeOrientedUptoRow : OpenClaim := { program := "ytdodgnpjlicnoaa", sum := "ea8be02c9b890f114cd989a96b1ce7da85b184813d7c5b0fbdd291e7d5464b43", func := "grisaille/grisaillelaw24.StrokeOriented", spec := "strokeOriented", unfollowed := true, recurses := true, named := ["math/bits.divideError", "math/bits.overflowError"], apart := false, narrowed := true }
def StrokeOrientedUptoSaid : Prop := strokeOrientedUptoRow.holds Try.pinned (OpenSpec.upto strokeOrientedSpec)

/-- 'grisaillelaw24.StrokeIgnoresDuplicates', WHERE WHAT IT READS IS OF BULK AT MOST 1048576: true; the input reads as it did. -/
def strokeIgnoresDuplicatesUptoRow : OpenClaim := { program := "ytdodgnpjlicnoaa", sum := "ea8be02c9b890f114cd989a96b1ce7da85b184813d7c5b0fbdd291e7d5464b43", func := "grisaille/grisaillelaw24.StrokeIgnoresDuplicates", spec := "strokeIgnoresDuplicates", unfollowed := true, recurses := true, named := ["math/bits.divideError", "math/bits.overflowError"], apart := false, narrowed := true }
def StrokeIgnoresDuplicatesUptoSaid : Prop := strokeIgnoresDuplicatesUptoRow.holds Try.pinned (OpenSpec.upto strokeIgnoresDuplicatesSpec)

/-- 'grisaillelaw24.StrokeConcatenates', WHERE WHAT IT READS IS OF BULK AT MOST 1048576: true; the input reads as it did. -/
def strokeConcatenatesUptoRow : OpenClaim := { program := "ytdodgnpjlicnoaa", sum := "ea8be02c9b890f114cd989a96b1ce7da85b184813d7c5b0fbdd291e7d5464b43", func := "grisaille/grisaillelaw24.StrokeConcatenates", spec := "strokeConcatenates", unfollowed := true, recurses := true, named := ["math/bits.divideError", "math/bits.overflowError"], apart := false, narrowed := true }
def StrokeConcatenatesUptoSaid : Prop := strokeConcatenatesUptoRow.holds Try.pinned (OpenSpec.upto strokeConcatenatesSpec)

end Rows
end Go.Proofs.Ytdodgnpjlicnoaa
