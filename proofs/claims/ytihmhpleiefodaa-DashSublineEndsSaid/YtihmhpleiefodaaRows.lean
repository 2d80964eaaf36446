/-
  No cell of these rows narrows 'for every input' (looked for: loops, veiled, ifaces, maps, wideKeys, modest, calm, conditions, laid).
  DERIVED. THE GIVEN ROWS OF THIS SEAT. 7 by the template 'for every input the law returns true; each argument reads behind the call as it read before'; 0 by the template 'total and deterministic' (their statements: YtihmhpleiefodaaTotals.lean).
  GIVEN WITH THE SEED: the statements are not yours to turn. If you find one false, say at which input.
  Laid BY PROGRAM, IN A SANDBOX (cutbox-rows.mjs): the forced cells as the released guide's own fill.sh prints them over the translation 00f4915ba1068cb7… (all of the seat's roots in one cut). By AI agents, Wed Nov 11 2026. No macro, syntax, notation, axiom, sorry.
-/
import Derived.Test.YtihmhpleiefodaaChecked
import GoSem.Claim
import GoSem.ClaimJoined
import GoSem.ClaimMapViews
import Derived.JoinedTies
import Derived.KernelRfl
namespace Go.Proofs.Ytihmhpleiefodaa
/- THE CELL 'sum', in the pinned program and in every row, IS THE sha256 OF THE DUMP (.gsa) THAT YtihmhpleiefodaaProg.lean LOADS. Nothing in Lean hashes anything: it is a label: what it is worth is what the hold of that sum in a sandbox is worth. -/
noncomputable def Try.pinned : Pinned := { name := "ytihmhpleiefodaa", sum := "00f4915ba1068cb724524d1dcb740a1636240c5b2dd276635a6e92817366e3be", checked := Try.checked }
namespace Rows
def none {H : Type} : Left H := { results := [], args := [] }

/-- 'grisaillelaw25.DashLengthAndPattern': WHATEVER THE INPUT: true; the input reads as it did. -/
def dashLengthAndPatternSpec : ChangeSpec := { name := "dashLengthAndPattern", fn := fun _ => fun
  | [d1, d2, d3] => { results := [.lit (.bool true)], args := [d1, d2, d3] }
  | _ => none }
def dashLengthAndPatternRow : OpenClaim := { program := "ytihmhpleiefodaa", sum := "00f4915ba1068cb724524d1dcb740a1636240c5b2dd276635a6e92817366e3be", func := "grisaille/grisaillelaw25.DashLengthAndPattern", spec := "dashLengthAndPattern", unfollowed := true, recurses := true, named := ["math/bits.divideError", "math/bits.overflowError"], apart := false }
def DashLengthAndPatternSaid : Prop := dashLengthAndPatternRow.holds Try.pinned (OpenSpec.ofChange dashLengthAndPatternSpec)

/-- ITS FALSE NEIGHBOUR: 'it returns false'. Refute it at one input. -/
def dashLengthAndPatternWrong : ChangeSpec := { name := "dashLengthAndPattern", fn := fun _ => fun
  | [d1, d2, d3] => { results := [.lit (.bool false)], args := [d1, d2, d3] }
  | _ => none }
def DashLengthAndPatternWrongFalsely : Prop := dashLengthAndPatternRow.holds Try.pinned (OpenSpec.ofChange dashLengthAndPatternWrong)

/-- 'grisaillelaw25.DashIntervals': WHATEVER THE INPUT: true; the input reads as it did. -/
def dashIntervalsSpec : ChangeSpec := { name := "dashIntervals", fn := fun _ => fun
  | [d1, d2, d3] => { results := [.lit (.bool true)], args := [d1, d2, d3] }
  | _ => none }
def dashIntervalsRow : OpenClaim := { program := "ytihmhpleiefodaa", sum := "00f4915ba1068cb724524d1dcb740a1636240c5b2dd276635a6e92817366e3be", func := "grisaille/grisaillelaw25.DashIntervals", spec := "dashIntervals", unfollowed := true, recurses := true, named := ["math/bits.divideError", "math/bits.overflowError"], apart := false }
def DashIntervalsSaid : Prop := dashIntervalsRow.holds Try.pinned (OpenSpec.ofChange dashIntervalsSpec)

/-- ITS FALSE NEIGHBOUR: 'it returns false'. Refute it at one input. -/
def dashIntervalsWrong : ChangeSpec := { name := "dashIntervals", fn := fun _ => fun
  | [d1, d2, d3] => { results := [.lit (.bool false)], args := [d1, d2, d3] }
  | _ => none }
def DashIntervalsWrongFalsely : Prop := dashIntervalsRow.holds Try.pinned (OpenSpec.ofChange dashIntervalsWrong)

/-- 'grisaillelaw25.DashIntervalsAgree': WHATEVER THE INPUT: true; the input reads as it did. -/
def dashIntervalsAgreeSpec : ChangeSpec := { name := "dashIntervalsAgree", fn := fun _ => fun
  | [d1, d2] => { results := [.lit (.bool true)], args := [d1, d2] }
  | _ => none }
def dashIntervalsAgreeRow : OpenClaim := { program := "ytihmhpleiefodaa", sum := "00f4915ba1068cb724524d1dcb740a1636240c5b2dd276635a6e92817366e3be", func := "grisaille/grisaillelaw25.DashIntervalsAgree", spec := "dashIntervalsAgree", unfollowed := true, recurses := true, named := ["math/bits.divideError", "math/bits.overflowError"], apart := false }
def DashIntervalsAgreeSaid : Prop := dashIntervalsAgreeRow.holds Try.pinned (OpenSpec.ofChange dashIntervalsAgreeSpec)

/-- ITS FALSE NEIGHBOUR: 'it returns false'. Refute it at one input. -/
def dashIntervalsAgreeWrong : ChangeSpec := { name := "dashIntervalsAgree", fn := fun _ => fun
  | [d1, d2] => { results := [.lit (.bool false)], args := [d1, d2] }
  | _ => none }
def DashIntervalsAgreeWrongFalsely : Prop := dashIntervalsAgreeRow.holds Try.pinned (OpenSpec.ofChange dashIntervalsAgreeWrong)

/-- 'grisaillelaw25.DashPeriod': WHATEVER THE INPUT: true; the input reads as it did. -/
def dashPeriodSpec : ChangeSpec := { name := "dashPeriod", fn := fun _ => fun
  | [d1, d2] => { results := [.lit (.bool true)], args := [d1, d2] }
  | _ => none }
def dashPeriodRow : OpenClaim := { program := "ytihmhpleiefodaa", sum := "00f4915ba1068cb724524d1dcb740a1636240c5b2dd276635a6e92817366e3be", func := "grisaille/grisaillelaw25.DashPeriod", spec := "dashPeriod", unfollowed := true, recurses := true, named := ["math/bits.divideError", "math/bits.overflowError"], apart := false }
def DashPeriodSaid : Prop := dashPeriodRow.holds Try.pinned (OpenSpec.ofChange dashPeriodSpec)

/-- ITS FALSE NEIGHBOUR: 'it returns false'. Refute it at one input. -/
def dashPeriodWrong : ChangeSpec := { name := "dashPeriod", fn := fun _ => fun
  | [d1, d2] => { results := [.lit (.bool false)], args := [d1, d2] }
  | _ => none }
def DashPeriodWrongFalsely : Prop := dashPeriodRow.holds Try.pinned (OpenSpec.ofChange dashPeriodWrong)

/-- 'grisaillelaw25.DashApply': WHATEVER THE INPUT: true; the input reads as it did. -/
def dashApplySpec : ChangeSpec := { name := "dashApply", fn := fun _ => fun
  | [d1, d2] => { results := [.lit (.bool true)], args := [d1, d2] }
  | _ => none }
def dashApplyRow : OpenClaim := { program := "ytihmhpleiefodaa", sum := "00f4915ba1068cb724524d1dcb740a1636240c5b2dd276635a6e92817366e3be", func := "grisaille/grisaillelaw25.DashApply", spec := "dashApply", unfollowed := true, recurses := true, named := ["math/bits.divideError", "math/bits.overflowError"], apart := false }
def DashApplySaid : Prop := dashApplyRow.holds Try.pinned (OpenSpec.ofChange dashApplySpec)

/-- ITS FALSE NEIGHBOUR: 'it returns false'. Refute it at one input. -/
def dashApplyWrong : ChangeSpec := { name := "dashApply", fn := fun _ => fun
  | [d1, d2] => { results := [.lit (.bool false)], args := [d1, d2] }
  | _ => none }
def DashApplyWrongFalsely : Prop := dashApplyRow.holds Try.pinned (OpenSpec.ofChange dashApplyWrong)

/-- 'grisaillelaw25.DashSubline': WHATEVER THE INPUT: true; the input reads as it did. -/
def dashSublineSpec : ChangeSpec := { name := "dashSubline", fn := fun _ => fun
  | [d1, d2, d3] => { results := [.lit (.bool true)], args := [d1, d2, d3] }
  | _ => none }
def dashSublineRow : OpenClaim := { program := "ytihmhpleiefodaa", sum := "00f4915ba1068cb724524d1dcb740a1636240c5b2dd276635a6e92817366e3be", func := "grisaille/grisaillelaw25.DashSubline", spec := "dashSubline", unfollowed := true, recurses := true, named := ["math/bits.divideError", "math/bits.overflowError"], apart := false }
def DashSublineSaid : Prop := dashSublineRow.holds Try.pinned (OpenSpec.ofChange dashSublineSpec)

/-- ITS FALSE NEIGHBOUR: 'it returns false'. Refute it at one input. -/
def dashSublineWrong : ChangeSpec := { name := "dashSubline", fn := fun _ => fun
  | [d1, d2, d3] => { results := [.lit (.bool false)], args := [d1, d2, d3] }
  | _ => none }
def DashSublineWrongFalsely : Prop := dashSublineRow.holds Try.pinned (OpenSpec.ofChange dashSublineWrong)

/-- 'grisaillelaw25.DashSublineEnds': WHATEVER THE INPUT: true; the input reads as it did. -/
def dashSublineEndsSpec : ChangeSpec := { name := "dashSublineEnds", fn := fun _ => fun
  | [d1, d2, d3, d4] => { results := [.lit (.bool true)], args := [d1, d2, d3, d4] }
  | _ => none }
def dashSublineEndsRow : OpenClaim := { program := "ytihmhpleiefodaa", sum := "00f4915ba1068cb724524d1dcb740a1636240c5b2dd276635a6e92817366e3be", func := "grisaille/grisaillelaw25.DashSublineEnds", spec := "dashSublineEnds", unfollowed := true, recurses := true, named := ["math/bits.divideError", "math/bits.overflowError"], apart := false }
def DashSublineEndsSaid : Prop := dashSublineEndsRow.holds Try.pinned (OpenSpec.ofChange dashSublineEndsSpec)

/-- ITS FALSE NEIGHBOUR: 'it returns false'. Refute it at one input. -/
def dashSublineEndsWrong : ChangeSpec := { name := "dashSublineEnds", fn := fun _ => fun
  | [d1, d2, d3, d4] => { results := [.lit (.bool false)], args := [d1, d2, d3, d4] }
  | _ => none }
def DashSublineEndsWrongFalsely : Prop := dashSublineEndsRow.holds Try.pinned (OpenSpec.ofChange dashSublineEndsWrong)

/- THE SECOND FORM. 'bulk': how many values and letters a reading holds, each counted each time it is reached (what is shared counts as often as it is met; a slice's spare places count too). A statement '..UptoSaid' is the law's where the arguments, and the package variables that the reading takes, are together of bulk at most 1048576: NARROWER than '..Said'. Prove '..Said' where nothing that the law and all that it calls make is longer than what came in: it says more and counts as full. Else prove '..UptoSaid'. A law counts once. -/
mutual
def uptoBulk {H : Type} : DataW H → Nat
  | .lit (.string bytes) => bytes.length + 1
  | .lit _ => 1
  | .nil => 1
  | .ptr d => uptoBulk d + 1
  | .slice elems spare => uptoBulkAll elems + uptoBulkAll spare + 1
  | .agg parts => uptoBulkAll parts + 1
  | .iface _ d => uptoBulk d + 1
  | .map entries => uptoBulkEntries entries + 1
  | .held _ => 1
def uptoBulkAll {H : Type} : List (DataW H) → Nat
  | [] => 0
  | d :: r => uptoBulk d + uptoBulkAll r
def uptoBulkEntries {H : Type} : List (Lit × DataW H) → Nat
  | [] => 0
  | x :: r => uptoBulkEntry x + uptoBulkEntries r
def uptoBulkEntry {H : Type} : Lit × DataW H → Nat
  | (.string bytes, d) => bytes.length + uptoBulk d + 1
  | (_, d) => uptoBulk d + 1
 end
def uptoSmall : (H : Type) → List (DataW H) → Bool := fun _ ds => decide (uptoBulkAll ds ≤ 1048576)
def OpenSpec.upto (s : _root_.Go.ChangeSpec) : _root_.Go.OpenSpec := { _root_.Go.OpenSpec.ofChange s with cond := some uptoSmall }

/-- 'grisaillelaw25.DashLengthAndPattern', WHERE WHAT IT READS IS OF BULK AT MOST 1048576: true; the input reads as it did. -/
def dashLengthAndPatternUptoRow : OpenClaim := { program := "ytihmhpleiefodaa", sum := "00f4915ba1068cb724524d1dcb740a1636240c5b2dd276635a6e92817366e3be", func := "grisaille/grisaillelaw25.DashLengthAndPattern", spec := "dashLengthAndPattern", unfollowed := true, recurses := true, named := ["math/bits.divideError", "math/bits.overflowError"], apart := false, narrowed := true }
def DashLengthAndPatternUptoSaid : Prop := dashLengthAndPatternUptoRow.holds Try.pinned (OpenSpec.upto dashLengthAndPatternSpec)

/-- 'grisaillelaw25.DashIntervals', WHERE WHAT IT READS IS OF BULK AT MOST 1048576: true; the input reads as it did. -/
def dashIntervalsUptoRow : OpenClaim := { program := "ytihmhpleiefodaa", sum := "00f4915ba1068cb724524d1dcb740a1636240c5b2dd276635a6e92817366e3be", func := "grisaille/grisaillelaw25.DashIntervals", spec := "dashIntervals", unfollowed := true, recurses := true, named := ["math/bits.divideError", "math/bits.overflowError"], apart := false, narrowed := true }
def DashIntervalsUptoSaid : Prop := dashIntervalsUptoRow.holds Try.pinned (OpenSpec.upto dashIntervalsSpec)

/-- 'grisaillelaw25.DashIntervalsAgree', WHERE WHAT IT READS IS OF BULK AT MOST 1048576: true; the input reads as it did. -/
def dashIntervalsAgreeUptoRow : OpenClaim := { program := "ytihmhpleiefodaa", sum := "00f4915ba1068cb724524d1dcb740a1636240c5b2dd276635a6e92817366e3be", func := "grisaille/grisaillelaw25.DashIntervalsAgree", spec := "dashIntervalsAgree", unfollowed := true, recurses := true, named := ["math/bits.divideError", "math/bits.overflowError"], apart := false, narrowed := true }
def DashIntervalsAgreeUptoSaid : Prop := dashIntervalsAgreeUptoRow.holds Try.pinned (OpenSpec.upto dashIntervalsAgreeSpec)

/-- 'grisaillelaw25.DashPeriod', WHERE WHAT IT READS IS OF BULK AT MOST 1048576: true; the input reads as it did. -/
def dashPeriodUptoRow : OpenClaim := { program := "ytihmhpleiefodaa", sum := "00f4915ba1068cb724524d1dcb740a1636240c5b2dd276635a6e92817366e3be", func := "grisaille/grisaillelaw25.DashPeriod", spec := "dashPeriod", unfollowed := true, recurses := true, named := ["math/bits.divideError", "math/bits.overflowError"], apart := false, narrowed := true }
def DashPeriodUptoSaid : Prop := dashPeriodUptoRow.holds Try.pinned (OpenSpec.upto dashPeriodSpec)

/-- 'grisaillelaw25.DashApply', WHERE WHAT IT READS IS OF BULK AT MOST 1048576: true; the input reads as it did. -/
def dashApplyUptoRow : OpenClaim := { program := "ytihmhpleiefodaa", sum := "00f4915ba1068cb724524d1dcb740a1636240c5b2dd276635a6e92817366e3be", func := "grisaille/grisaillelaw25.DashApply", spec := "dashApply", unfollowed := true, recurses := true, named := ["math/bits.divideError", "math/bits.overflowError"], apart := false, narrowed := true }
def DashApplyUptoSaid : Prop := dashApplyUptoRow.holds Try.pinned (OpenSpec.upto dashApplySpec)

/-- 'grisaillelaw25.DashSubline', WHERE WHAT IT READS IS OF BULK AT MOST 1048576: true; the input reads as it did. -/
def dashSublineUptoRow : OpenClaim := { program := "ytihmhpleiefodaa", sum := "00f4915ba1068cb724524d1dcb740a1636240c5b2dd276635a6e92817366e3be", func := "grisaille/grisaillelaw25.DashSubline", spec := "dashSubline", unfollowed := true, recurses := true, named := ["math/bits.divideError", "math/bits.overflowError"], apart := false, narrowed := true }
def DashSublineUptoSaid : Prop := dashSublineUptoRow.holds Try.pinned (OpenSpec.upto dashSublineSpec)

/-- 'grisaillelaw25.DashSublineEnds', WHERE WHAT IT READS IS OF BULK AT MOST 1048576: true; the input reads as it did. -/
def dashSublineEndsUptoRow : OpenClaim := { program := "ytihmhpleiefodaa", sum := "00f4915ba1068cb724524d1dcb740a1636240c5b2dd276635a6e92817366e3be", func := "grisaille/grisaillelaw25.DashSublineEnds", spec := "dashSublineEnds", unfollowed := true, recurses := true, named := ["math/bits.divideError", "math/bits.overflowError"], apart := false, narrowed := true }
def DashSublineEndsUptoSaid : Prop := dashSublineEndsUptoRow.holds Try.pinned (OpenSpec.upto dashSublineEndsSpec)

end Rows
end Go.Proofs.Ytihmhpleiefodaa
