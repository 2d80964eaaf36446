/-
  No cell of these rows narrows 'for every input' (looked for: loops, veiled, ifaces, maps, wideKeys, modest, calm, conditions, laid).
  DERIVED. THE GIVEN ROWS OF THIS SEAT. 6 by the template 'for every input the law returns true; each argument reads behind the call as it read before'; 0 by the template 'total and deterministic' (their statements: YtafcchemcbjocaaTotals.lean).
  GIVEN WITH THE SEED: the statements are not yours to turn. If you find one false, say at which input.
  Laid BY PROGRAM, IN A SANDBOX (cutbox-rows.mjs): the forced cells as the released guide's own fill.sh prints them over the translation 49373bc6f0f1e3f1… (all of the seat's roots in one cut). By AI agents, Wed Nov 11 2026. No macro, syntax, notation, axiom, sorry.
-/
import Derived.Test.YtafcchemcbjocaaChecked
import GoSem.Claim
import GoSem.ClaimJoined
import GoSem.ClaimMapViews
import Derived.JoinedTies
import Derived.KernelRfl
namespace Go.Proofs.Ytafcchemcbjocaa
/- THE CELL 'sum', in the pinned program and in every row, IS THE sha256 OF THE DUMP (.gsa) THAT YtafcchemcbjocaaProg.lean LOADS. Nothing in Lean hashes anything: it is a label: what it is worth is what the hold of that sum in a sandbox is worth. -/
noncomputable def Try.pinned : Pinned := { name := "ytafcchemcbjocaa", sum := "49373bc6f0f1e3f18875fbf2eb3c4731d7fa332955a2f9f41a7911b6541e6a08", checked := Try.checked }
namespace Rows
def none {H : Type} : Left H := { results := [], args := [] }

/-- 'grisaillelaw08.IntmathValues': WHATEVER THE INPUT: true; the input reads as it did. -/
def intmathValuesSpec : ChangeSpec := { name := "intmathValues", fn := fun _ => fun
  | [d1, d2, d3] => { results := [.lit (.bool true)], args := [d1, d2, d3] }
  | _ => none }
def intmathValuesRow : OpenClaim := { program := "ytafcchemcbjocaa", sum := "49373bc6f0f1e3f18875fbf2eb3c4731d7fa332955a2f9f41a7911b6541e6a08", func := "grisaille/grisaillelaw08.IntmathValues", spec := "intmathValues", unfollowed := true, recurses := true, named := ["math/bits.divideError", "math/bits.overflowError"], apart := false }
def IntmathValuesSaid : Prop := intmathValuesRow.holds Try.pinned (OpenSpec.ofChange intmathValuesSpec)

/-- ITS FALSE NEIGHBOUR: 'it returns false'. Refute it at one input. -/
def intmathValuesWrong : ChangeSpec := { name := "intmathValues", fn := fun _ => fun
  | [d1, d2, d3] => { results := [.lit (.bool false)], args := [d1, d2, d3] }
  | _ => none }
def IntmathValuesWrongFalsely : Prop := intmathValuesRow.holds Try.pinned (OpenSpec.ofChange intmathValuesWrong)

/-- 'grisaillelaw08.IntmathBytes': WHATEVER THE INPUT: true; the input reads as it did. -/
def intmathBytesSpec : ChangeSpec := { name := "intmathBytes", fn := fun _ => fun
  | [d1, d2, d3] => { results := [.lit (.bool true)], args := [d1, d2, d3] }
  | _ => none }
def intmathBytesRow : OpenClaim := { program := "ytafcchemcbjocaa", sum := "49373bc6f0f1e3f18875fbf2eb3c4731d7fa332955a2f9f41a7911b6541e6a08", func := "grisaille/grisaillelaw08.IntmathBytes", spec := "intmathBytes", unfollowed := true, recurses := true, named := ["math/bits.divideError", "math/bits.overflowError"], apart := false }
def IntmathBytesSaid : Prop := intmathBytesRow.holds Try.pinned (OpenSpec.ofChange intmathBytesSpec)

/-- ITS FALSE NEIGHBOUR: 'it returns false'. Refute it at one input. -/
def intmathBytesWrong : ChangeSpec := { name := "intmathBytes", fn := fun _ => fun
  | [d1, d2, d3] => { results := [.lit (.bool false)], args := [d1, d2, d3] }
  | _ => none }
def IntmathBytesWrongFalsely : Prop := intmathBytesRow.holds Try.pinned (OpenSpec.ofChange intmathBytesWrong)

/-- 'grisaillelaw08.IntmathRounding': WHATEVER THE INPUT: true; the input reads as it did. -/
def intmathRoundingSpec : ChangeSpec := { name := "intmathRounding", fn := fun _ => fun
  | [d1, d2, d3] => { results := [.lit (.bool true)], args := [d1, d2, d3] }
  | _ => none }
def intmathRoundingRow : OpenClaim := { program := "ytafcchemcbjocaa", sum := "49373bc6f0f1e3f18875fbf2eb3c4731d7fa332955a2f9f41a7911b6541e6a08", func := "grisaille/grisaillelaw08.IntmathRounding", spec := "intmathRounding", unfollowed := true, recurses := true, named := ["math/bits.divideError", "math/bits.overflowError"], apart := false }
def IntmathRoundingSaid : Prop := intmathRoundingRow.holds Try.pinned (OpenSpec.ofChange intmathRoundingSpec)

/-- ITS FALSE NEIGHBOUR: 'it returns false'. Refute it at one input. -/
def intmathRoundingWrong : ChangeSpec := { name := "intmathRounding", fn := fun _ => fun
  | [d1, d2, d3] => { results := [.lit (.bool false)], args := [d1, d2, d3] }
  | _ => none }
def IntmathRoundingWrongFalsely : Prop := intmathRoundingRow.holds Try.pinned (OpenSpec.ofChange intmathRoundingWrong)

/-- 'grisaillelaw08.IntmathProducts': WHATEVER THE INPUT: true; the input reads as it did. -/
def intmathProductsSpec : ChangeSpec := { name := "intmathProducts", fn := fun _ => fun
  | [d1, d2, d3] => { results := [.lit (.bool true)], args := [d1, d2, d3] }
  | _ => none }
def intmathProductsRow : OpenClaim := { program := "ytafcchemcbjocaa", sum := "49373bc6f0f1e3f18875fbf2eb3c4731d7fa332955a2f9f41a7911b6541e6a08", func := "grisaille/grisaillelaw08.IntmathProducts", spec := "intmathProducts", unfollowed := true, recurses := true, named := ["math/bits.divideError", "math/bits.overflowError"], apart := false }
def IntmathProductsSaid : Prop := intmathProductsRow.holds Try.pinned (OpenSpec.ofChange intmathProductsSpec)

/-- ITS FALSE NEIGHBOUR: 'it returns false'. Refute it at one input. -/
def intmathProductsWrong : ChangeSpec := { name := "intmathProducts", fn := fun _ => fun
  | [d1, d2, d3] => { results := [.lit (.bool false)], args := [d1, d2, d3] }
  | _ => none }
def IntmathProductsWrongFalsely : Prop := intmathProductsRow.holds Try.pinned (OpenSpec.ofChange intmathProductsWrong)

/-- 'grisaillelaw08.IntmathNorm8': WHATEVER THE INPUT: true; the input reads as it did. -/
def intmathNorm8Spec : ChangeSpec := { name := "intmathNorm8", fn := fun _ => fun
  | [d1, d2] => { results := [.lit (.bool true)], args := [d1, d2] }
  | _ => none }
def intmathNorm8Row : OpenClaim := { program := "ytafcchemcbjocaa", sum := "49373bc6f0f1e3f18875fbf2eb3c4731d7fa332955a2f9f41a7911b6541e6a08", func := "grisaille/grisaillelaw08.IntmathNorm8", spec := "intmathNorm8", unfollowed := true, recurses := true, named := ["math/bits.divideError", "math/bits.overflowError"], apart := false }
def IntmathNorm8Said : Prop := intmathNorm8Row.holds Try.pinned (OpenSpec.ofChange intmathNorm8Spec)

/-- ITS FALSE NEIGHBOUR: 'it returns false'. Refute it at one input. -/
def intmathNorm8Wrong : ChangeSpec := { name := "intmathNorm8", fn := fun _ => fun
  | [d1, d2] => { results := [.lit (.bool false)], args := [d1, d2] }
  | _ => none }
def IntmathNorm8WrongFalsely : Prop := intmathNorm8Row.holds Try.pinned (OpenSpec.ofChange intmathNorm8Wrong)

/-- 'grisaillelaw08.IntmathResidues': WHATEVER THE INPUT: true; the input reads as it did. -/
def intmathResiduesSpec : ChangeSpec := { name := "intmathResidues", fn := fun _ => fun
  | [d1, d2, d3] => { results := [.lit (.bool true)], args := [d1, d2, d3] }
  | _ => none }
def intmathResiduesRow : OpenClaim := { program := "ytafcchemcbjocaa", sum := "49373bc6f0f1e3f18875fbf2eb3c4731d7fa332955a2f9f41a7911b6541e6a08", func := "grisaille/grisaillelaw08.IntmathResidues", spec := "intmathResidues", unfollowed := true, recurses := true, named := ["math/bits.divideError", "math/bits.overflowError"], apart := false }
def IntmathResiduesSaid : Prop := intmathResiduesRow.holds Try.pinned (OpenSpec.ofChange intmathResiduesSpec)

/-- ITS FALSE NEIGHBOUR: 'it returns false'. Refute it at one input. -/
def intmathResiduesWrong : ChangeSpec := { name := "intmathResidues", fn := fun _ => fun
  | [d1, d2, d3] => { results := [.lit (.bool false)], args := [d1, d2, d3] }
  | _ => none }
def IntmathResiduesWrongFalsely : Prop := intmathResiduesRow.holds Try.pinned (OpenSpec.ofChange intmathResiduesWrong)

/- THE SECOND FORM. 'bulk': how many values and letters a reading holds, each counted each time it is reached (what is shared counts as often as it is met; a slice's spare places count too). A statement '..UptoSaid' is the law's where the arguments, and the package variables that the reading takes, are together of bulk at most 1048576: NARROWER than '..Said'. Prove '..Said' where nothing that the law and all that it calls make is longer than what came in: it says more and counts as full. Else prove '..UptoSaid'. A law counts once. -/
mutual
def uptoBulk {H : Type} : DataW H → Nat
  | .lit (.string bytes) => bytes.length + 1
  | .lit _ => 1
  | .nil => 1
  | .ptr d => uptoBulk d + 1
  | .slice elems spare => uptoBulkAll elems + uptoBulkAll spare + 1
  | .agg parts => uptoBulkAll parts + 1
  | .iface _ d => uptoBulk d + 1
  | .map entries => uptoBulkEntries entries + 1
  | .held _ => 1
def uptoBulkAll {H : Type} : List (DataW H) → Nat
  | [] => 0
  | d :: r => uptoBulk d + uptoBulkAll r
def uptoBulkEntries {H : Type} : List (Lit × DataW H) → Nat
  | [] => 0
  | x :: r => uptoBulkEntry x + uptoBulkEntries r
def uptoBulkEntry {H : Type} : Lit × DataW H → Nat
  | (.string bytes, d) => bytes.length + uptoBulk d + 1
  | (_, d) => uptoBulk d + 1
 end
def uptoSmall : (H : Type) → List (DataW H) → Bool := fun _ ds => decide (uptoBulkAll ds ≤ 1048576)
def OpenSpec.upto (s : _root_.Go.ChangeSpec) : _root_.Go.OpenSpec := { _root_.Go.OpenSpec.ofChange s with cond := some uptoSmall }

/-- 'grisaillelaw08.IntmathValues', WHERE WHAT IT READS IS OF BULK AT MOST 1048576: true; the input reads as it did. -/
def intmathValuesUptoRow : OpenClaim := { program := "ytafcchemcbjocaa", sum := "49373bc6f0f1e3f18875fbf2eb3c4731d7fa332955a2f9f41a7911b6541e6a08", func := "grisaille/grisaillelaw08.IntmathValues", spec := "intmathValues", unfollowed := true, recurses := true, named := ["math/bits.divideError", "math/bits.overflowError"], apart := false, narrowed := true }
def IntmathValuesUptoSaid : Prop := intmathValuesUptoRow.holds Try.pinned (OpenSpec.upto intmathValuesSpec)

/-- 'grisaillelaw08.IntmathBytes', WHERE WHAT IT READS IS OF BULK AT MOST 1048576: true; the input reads as it did. -/
def intmathBytesUptoRow : OpenClaim := { program := "ytafcchemcbjocaa", sum := "49373bc6f0f1e3f18875fbf2eb3c4731d7fa332955a2f9f41a7911b6541e6a08", func := "grisaille/grisaillelaw08.IntmathBytes", spec := "intmathBytes", unfollowed := true, recurses := true, named := ["math/bits.divideError", "math/bits.overflowError"], apart := false, narrowed := true }
def IntmathBytesUptoSaid : Prop := intmathBytesUptoRow.holds Try.pinned (OpenSpec.upto intmathBytesSpec)

/-- 'grisaillelaw08.IntmathRounding', WHERE WHAT IT READS IS OF BULK AT MOST 1048576: true; the input reads as it did. -/
def intmathRoundingUptoRow : OpenClaim := { program := "ytafcchemcbjocaa", sum := "49373bc6f0f1e3f18875fbf2eb3c4731d7fa332955a2f9f41a7911b6541e6a08", func := "grisaille/grisaillelaw08.IntmathRounding", spec := "intmathRounding", unfollowed := true, recurses := true, named := ["math/bits.divideError", "math/bits.overflowError"], apart := false, narrowed := true }
def IntmathRoundingUptoSaid : Prop := intmathRoundingUptoRow.holds Try.pinned (OpenSpec.upto intmathRoundingSpec)

/-- 'grisaillelaw08.IntmathProducts', WHERE WHAT IT READS IS OF BULK AT MOST 1048576: true; the input reads as it did. -/
def intmathProductsUptoRow : OpenClaim := { program := "ytafcchemcbjocaa", sum := "49373bc6f0f1e3f18875fbf2eb3c4731d7fa332955a2f9f41a7911b6541e6a08", func := "grisaille/grisaillelaw08.IntmathProducts", spec := "intmathProducts", unfollowed := true, recurses := true, named := ["math/bits.divideError", "math/bits.overflowError"], apart := false, narrowed := true }
def IntmathProductsUptoSaid : Prop := intmathProductsUptoRow.holds Try.pinned (OpenSpec.upto intmathProductsSpec)

/-- 'grisaillelaw08.IntmathNorm8', WHERE WHAT IT READS IS OF BULK AT MOST 1048576: true; the input reads as it did. -/
def intmathNorm8UptoRow : OpenClaim := { program := "ytafcchemcbjocaa", sum := "49373bc6f0f1e3f18875fbf2eb3c4731d7fa332955a2f9f41a7911b6541e6a08", func := "grisaille/grisaillelaw08.IntmathNorm8", spec := "intmathNorm8", unfollowed := true, recurses := true, named := ["math/bits.divideError", "math/bits.overflowError"], apart := false, narrowed := true }
def IntmathNorm8UptoSaid : Prop := intmathNorm8UptoRow.holds Try.pinned (OpenSpec.upto intmathNorm8Spec)

/-- 'grisaillelaw08.IntmathResidues', WHERE WHAT IT READS IS OF BULK AT MOST 1048576: true; the input reads as it did. -/
def intmathResiduesUptoRow : OpenClaim := { program := "ytafcchemcbjocaa", sum := "49373bc6f0f1e3f18875fbf2eb3c4731d7fa332955a2f9f41a7911b6541e6a08", func := "grisaille/grisaillelaw08.IntmathResidues", spec := "intmathResidues", unfollowed := true, recurses := true, named := ["math/bits.divideError", "math/bits.overflowError"], apart := false, narrowed := true }
def IntmathResiduesUptoSaid : Prop := intmathResiduesUptoRow.holds Try.pinned (OpenSpec.upto intmathResiduesSpec)

end Rows
end Go.Proofs.Ytafcchemcbjocaa
