/-
  No cell of these rows narrows 'for every input' (looked for: loops, veiled, ifaces, maps, wideKeys, modest, calm, conditions, laid).
  DERIVED. THE GIVEN ROWS OF THIS SEAT. 10 by the template 'for every input the law returns true; each argument reads behind the call as it read before'; 0 by the template 'total and deterministic' (their statements: YtjfimlcljbdglaaTotals.lean).
  GIVEN WITH THE SEED: the statements are not yours to turn. If you find one false, say at which input.
  Laid BY PROGRAM, IN A SANDBOX (cutbox-rows.mjs): the forced cells as the released guide's own fill.sh prints them over the translation 3b455441a28384c7… (all of the seat's roots in one cut). By AI agents, Wed Nov 11 2026. No macro, syntax, notation, axiom, sorry.
-/
import Derived.Test.YtjfimlcljbdglaaChecked
import GoSem.Claim
import GoSem.ClaimJoined
import GoSem.ClaimMapViews
import Derived.JoinedTies
import Derived.KernelRfl
namespace Go.Proofs.Ytjfimlcljbdglaa
/- THE CELL 'sum', in the pinned program and in every row, IS THE sha256 OF THE DUMP (.gsa) THAT YtjfimlcljbdglaaProg.lean LOADS. Nothing in Lean hashes anything: it is a label: what it is worth is what the hold of that sum in a sandbox is worth. -/
noncomputable def Try.pinned : Pinned := { name := "ytjfimlcljbdglaa", sum := "3b455441a28384c7b4ed5e9b8bba6217d48d62915f4405dd410cfd05abe15658", checked := Try.checked }
namespace Rows
def none {H : Type} : Left H := { results := [], args := [] }

/-- 'grisaillelaw27.ColorParse': WHATEVER THE INPUT: true; the input reads as it did. -/
def colorParseSpec : ChangeSpec := { name := "colorParse", fn := fun _ => fun
  | [d] => { results := [.lit (.bool true)], args := [d] }
  | _ => none }
def colorParseRow : OpenClaim := { program := "ytjfimlcljbdglaa", sum := "3b455441a28384c7b4ed5e9b8bba6217d48d62915f4405dd410cfd05abe15658", func := "grisaille/grisaillelaw27.ColorParse", spec := "colorParse", unfollowed := true, recurses := true, named := ["math/bits.divideError", "math/bits.overflowError"], apart := false }
def ColorParseSaid : Prop := colorParseRow.holds Try.pinned (OpenSpec.ofChange colorParseSpec)

/-- ITS FALSE NEIGHBOUR: 'it returns false'. Refute it at one input. -/
def colorParseWrong : ChangeSpec := { name := "colorParse", fn := fun _ => fun
  | [d] => { results := [.lit (.bool false)], args := [d] }
  | _ => none }
def ColorParseWrongFalsely : Prop := colorParseRow.holds Try.pinned (OpenSpec.ofChange colorParseWrong)

/-- 'grisaillelaw27.ColorPremultiply': WHATEVER THE INPUT: true; the input reads as it did. -/
def colorPremultiplySpec : ChangeSpec := { name := "colorPremultiply", fn := fun _ => fun
  | [d] => { results := [.lit (.bool true)], args := [d] }
  | _ => none }
def colorPremultiplyRow : OpenClaim := { program := "ytjfimlcljbdglaa", sum := "3b455441a28384c7b4ed5e9b8bba6217d48d62915f4405dd410cfd05abe15658", func := "grisaille/grisaillelaw27.ColorPremultiply", spec := "colorPremultiply", unfollowed := true, recurses := true, named := ["math/bits.divideError", "math/bits.overflowError"], apart := false }
def ColorPremultiplySaid : Prop := colorPremultiplyRow.holds Try.pinned (OpenSpec.ofChange colorPremultiplySpec)

/-- ITS FALSE NEIGHBOUR: 'it returns false'. Refute it at one input. -/
def colorPremultiplyWrong : ChangeSpec := { name := "colorPremultiply", fn := fun _ => fun
  | [d] => { results := [.lit (.bool false)], args := [d] }
  | _ => none }
def ColorPremultiplyWrongFalsely : Prop := colorPremultiplyRow.holds Try.pinned (OpenSpec.ofChange colorPremultiplyWrong)

/-- 'grisaillelaw27.ColorClamp': WHATEVER THE INPUT: true; the input reads as it did. -/
def colorClampSpec : ChangeSpec := { name := "colorClamp", fn := fun _ => fun
  | [d] => { results := [.lit (.bool true)], args := [d] }
  | _ => none }
def colorClampRow : OpenClaim := { program := "ytjfimlcljbdglaa", sum := "3b455441a28384c7b4ed5e9b8bba6217d48d62915f4405dd410cfd05abe15658", func := "grisaille/grisaillelaw27.ColorClamp", spec := "colorClamp", unfollowed := true, recurses := true, named := ["math/bits.divideError", "math/bits.overflowError"], apart := false }
def ColorClampSaid : Prop := colorClampRow.holds Try.pinned (OpenSpec.ofChange colorClampSpec)

/-- ITS FALSE NEIGHBOUR: 'it returns false'. Refute it at one input. -/
def colorClampWrong : ChangeSpec := { name := "colorClamp", fn := fun _ => fun
  | [d] => { results := [.lit (.bool false)], args := [d] }
  | _ => none }
def ColorClampWrongFalsely : Prop := colorClampRow.holds Try.pinned (OpenSpec.ofChange colorClampWrong)

/-- 'grisaillelaw27.ColorScale': WHATEVER THE INPUT: true; the input reads as it did. -/
def colorScaleSpec : ChangeSpec := { name := "colorScale", fn := fun _ => fun
  | [d1, d2, d3] => { results := [.lit (.bool true)], args := [d1, d2, d3] }
  | _ => none }
def colorScaleRow : OpenClaim := { program := "ytjfimlcljbdglaa", sum := "3b455441a28384c7b4ed5e9b8bba6217d48d62915f4405dd410cfd05abe15658", func := "grisaille/grisaillelaw27.ColorScale", spec := "colorScale", unfollowed := true, recurses := true, named := ["math/bits.divideError", "math/bits.overflowError"], apart := false }
def ColorScaleSaid : Prop := colorScaleRow.holds Try.pinned (OpenSpec.ofChange colorScaleSpec)

/-- ITS FALSE NEIGHBOUR: 'it returns false'. Refute it at one input. -/
def colorScaleWrong : ChangeSpec := { name := "colorScale", fn := fun _ => fun
  | [d1, d2, d3] => { results := [.lit (.bool false)], args := [d1, d2, d3] }
  | _ => none }
def ColorScaleWrongFalsely : Prop := colorScaleRow.holds Try.pinned (OpenSpec.ofChange colorScaleWrong)

/-- 'grisaillelaw27.ColorLerpColor': WHATEVER THE INPUT: true; the input reads as it did. -/
def colorLerpColorSpec : ChangeSpec := { name := "colorLerpColor", fn := fun _ => fun
  | [d1, d2, d3] => { results := [.lit (.bool true)], args := [d1, d2, d3] }
  | _ => none }
def colorLerpColorRow : OpenClaim := { program := "ytjfimlcljbdglaa", sum := "3b455441a28384c7b4ed5e9b8bba6217d48d62915f4405dd410cfd05abe15658", func := "grisaille/grisaillelaw27.ColorLerpColor", spec := "colorLerpColor", unfollowed := true, recurses := true, named := ["math/bits.divideError", "math/bits.overflowError"], apart := false }
def ColorLerpColorSaid : Prop := colorLerpColorRow.holds Try.pinned (OpenSpec.ofChange colorLerpColorSpec)

/-- ITS FALSE NEIGHBOUR: 'it returns false'. Refute it at one input. -/
def colorLerpColorWrong : ChangeSpec := { name := "colorLerpColor", fn := fun _ => fun
  | [d1, d2, d3] => { results := [.lit (.bool false)], args := [d1, d2, d3] }
  | _ => none }
def ColorLerpColorWrongFalsely : Prop := colorLerpColorRow.holds Try.pinned (OpenSpec.ofChange colorLerpColorWrong)

/-- 'grisaillelaw27.ColorMatrix': WHATEVER THE INPUT: true; the input reads as it did. -/
def colorMatrixSpec : ChangeSpec := { name := "colorMatrix", fn := fun _ => fun
  | [d1, d2] => { results := [.lit (.bool true)], args := [d1, d2] }
  | _ => none }
def colorMatrixRow : OpenClaim := { program := "ytjfimlcljbdglaa", sum := "3b455441a28384c7b4ed5e9b8bba6217d48d62915f4405dd410cfd05abe15658", func := "grisaille/grisaillelaw27.ColorMatrix", spec := "colorMatrix", unfollowed := true, recurses := true, named := ["math/bits.divideError", "math/bits.overflowError"], apart := false }
def ColorMatrixSaid : Prop := colorMatrixRow.holds Try.pinned (OpenSpec.ofChange colorMatrixSpec)

/-- ITS FALSE NEIGHBOUR: 'it returns false'. Refute it at one input. -/
def colorMatrixWrong : ChangeSpec := { name := "colorMatrix", fn := fun _ => fun
  | [d1, d2] => { results := [.lit (.bool false)], args := [d1, d2] }
  | _ => none }
def ColorMatrixWrongFalsely : Prop := colorMatrixRow.holds Try.pinned (OpenSpec.ofChange colorMatrixWrong)

/-- 'grisaillelaw27.ColorMatrixIdentity': WHATEVER THE INPUT: true; the input reads as it did. -/
def colorMatrixIdentitySpec : ChangeSpec := { name := "colorMatrixIdentity", fn := fun _ => fun
  | [d1, d2] => { results := [.lit (.bool true)], args := [d1, d2] }
  | _ => none }
def colorMatrixIdentityRow : OpenClaim := { program := "ytjfimlcljbdglaa", sum := "3b455441a28384c7b4ed5e9b8bba6217d48d62915f4405dd410cfd05abe15658", func := "grisaille/grisaillelaw27.ColorMatrixIdentity", spec := "colorMatrixIdentity", unfollowed := true, recurses := true, named := ["math/bits.divideError", "math/bits.overflowError"], apart := false }
def ColorMatrixIdentitySaid : Prop := colorMatrixIdentityRow.holds Try.pinned (OpenSpec.ofChange colorMatrixIdentitySpec)

/-- ITS FALSE NEIGHBOUR: 'it returns false'. Refute it at one input. -/
def colorMatrixIdentityWrong : ChangeSpec := { name := "colorMatrixIdentity", fn := fun _ => fun
  | [d1, d2] => { results := [.lit (.bool false)], args := [d1, d2] }
  | _ => none }
def ColorMatrixIdentityWrongFalsely : Prop := colorMatrixIdentityRow.holds Try.pinned (OpenSpec.ofChange colorMatrixIdentityWrong)

/-- 'grisaillelaw27.ColorRoundTrip': WHATEVER THE INPUT: true; the input reads as it did. -/
def colorRoundTripSpec : ChangeSpec := { name := "colorRoundTrip", fn := fun _ => fun
  | [d1, d2, d3] => { results := [.lit (.bool true)], args := [d1, d2, d3] }
  | _ => none }
def colorRoundTripRow : OpenClaim := { program := "ytjfimlcljbdglaa", sum := "3b455441a28384c7b4ed5e9b8bba6217d48d62915f4405dd410cfd05abe15658", func := "grisaille/grisaillelaw27.ColorRoundTrip", spec := "colorRoundTrip", unfollowed := true, recurses := true, named := ["math/bits.divideError", "math/bits.overflowError"], apart := false }
def ColorRoundTripSaid : Prop := colorRoundTripRow.holds Try.pinned (OpenSpec.ofChange colorRoundTripSpec)

/-- ITS FALSE NEIGHBOUR: 'it returns false'. Refute it at one input. -/
def colorRoundTripWrong : ChangeSpec := { name := "colorRoundTrip", fn := fun _ => fun
  | [d1, d2, d3] => { results := [.lit (.bool false)], args := [d1, d2, d3] }
  | _ => none }
def ColorRoundTripWrongFalsely : Prop := colorRoundTripRow.holds Try.pinned (OpenSpec.ofChange colorRoundTripWrong)

/-- 'grisaillelaw27.ColorHSL': WHATEVER THE INPUT: true; the input reads as it did. -/
def colorHSLSpec : ChangeSpec := { name := "colorHSL", fn := fun _ => fun
  | [d1, d2] => { results := [.lit (.bool true)], args := [d1, d2] }
  | _ => none }
def colorHSLRow : OpenClaim := { program := "ytjfimlcljbdglaa", sum := "3b455441a28384c7b4ed5e9b8bba6217d48d62915f4405dd410cfd05abe15658", func := "grisaille/grisaillelaw27.ColorHSL", spec := "colorHSL", unfollowed := true, recurses := true, named := ["math/bits.divideError", "math/bits.overflowError"], apart := false }
def ColorHSLSaid : Prop := colorHSLRow.holds Try.pinned (OpenSpec.ofChange colorHSLSpec)

/-- ITS FALSE NEIGHBOUR: 'it returns false'. Refute it at one input. -/
def colorHSLWrong : ChangeSpec := { name := "colorHSL", fn := fun _ => fun
  | [d1, d2] => { results := [.lit (.bool false)], args := [d1, d2] }
  | _ => none }
def ColorHSLWrongFalsely : Prop := colorHSLRow.holds Try.pinned (OpenSpec.ofChange colorHSLWrong)

/-- 'grisaillelaw27.ColorHSLRoundTrip': WHATEVER THE INPUT: true; the input reads as it did. -/
def colorHSLRoundTripSpec : ChangeSpec := { name := "colorHSLRoundTrip", fn := fun _ => fun
  | [d] => { results := [.lit (.bool true)], args := [d] }
  | _ => none }
def colorHSLRoundTripRow : OpenClaim := { program := "ytjfimlcljbdglaa", sum := "3b455441a28384c7b4ed5e9b8bba6217d48d62915f4405dd410cfd05abe15658", func := "grisaille/grisaillelaw27.ColorHSLRoundTrip", spec := "colorHSLRoundTrip", unfollowed := true, recurses := true, named := ["math/bits.divideError", "math/bits.overflowError"], apart := false }
def ColorHSLRoundTripSaid : Prop := colorHSLRoundTripRow.holds Try.pinned (OpenSpec.ofChange colorHSLRoundTripSpec)

/-- ITS FALSE NEIGHBOUR: 'it returns false'. Refute it at one input. -/
def colorHSLRoundTripWrong : ChangeSpec := { name := "colorHSLRoundTrip", fn := fun _ => fun
  | [d] => { results := [.lit (.bool false)], args := [d] }
  | _ => none }
def ColorHSLRoundTripWrongFalsely : Prop := colorHSLRoundTripRow.holds Try.pinned (OpenSpec.ofChange colorHSLRoundTripWrong)

/- THE SECOND FORM. 'bulk': how many values and letters a reading holds, each counted each time it is reached (what is shared counts as often as it is met; a slice's spare places count too). A statement '..UptoSaid' is the law's where the arguments, and the package variables that the reading takes, are together of bulk at most 1048576: NARROWER than '..Said'. Prove '..Said' where nothing that the law and all that it calls make is longer than what came in: it says more and counts as full. Else prove '..UptoSaid'. A law counts once. -/
mutual
def uptoBulk {H : Type} : DataW H → Nat
  | .lit (.string bytes) => bytes.length + 1
  | .lit _ => 1
  | .nil => 1
  | .ptr d => uptoBulk d + 1
  | .slice elems spare => uptoBulkAll elems + uptoBulkAll spare + 1
  | .agg parts => uptoBulkAll parts + 1
  | .iface _ d => uptoBulk d + 1
  | .map entries => uptoBulkEntries entries + 1
  | .held _ => 1
def uptoBulkAll {H : Type} : List (DataW H) → Nat
  | [] => 0
  | d :: r => uptoBulk d + uptoBulkAll r
def uptoBulkEntries {H : Type} : List (Lit × DataW H) → Nat
  | [] => 0
  | x :: r => uptoBulkEntry x + uptoBulkEntries r
def uptoBulkEntry {H : Type} : Lit × DataW H → Nat
  | (.string bytes, d) => bytes.length + uptoBulk d + 1
  | (_, d) => uptoBulk d + 1
 end
def uptoSmall : (H : Type) → List (DataW H) → Bool := fun _ ds => decide (uptoBulkAll ds ≤ 1048576)
def OpenSpec.upto (s : _root_.Go.ChangeSpec) : _root_.Go.OpenSpec := { _root_.Go.OpenSpec.ofChange s with cond := some uptoSmall }

/-- 'grisaillelaw27.ColorParse', WHERE WHAT IT READS IS OF BULK AT MOST 1048576: true; the input reads as it did. -/
def colorParseUptoRow : OpenClaim := { program := "ytjfimlcljbdglaa", sum := "3b455441a28384c7b4ed5e9b8bba6217d48d62915f4405dd410cfd05abe15658", func := "grisaille/grisaillelaw27.ColorParse", spec := "colorParse", unfollowed := true, recurses := true, named := ["math/bits.divideError", "math/bits.overflowError"], apart := false, narrowed := true }
def ColorParseUptoSaid : Prop := colorParseUptoRow.holds Try.pinned (OpenSpec.upto colorParseSpec)

/-- 'grisaillelaw27.ColorPremultiply', WHERE WHAT IT READS IS OF BULK AT MOST 1048576: true; the input reads as it did. -/
def colorPremultiplyUptoRow : OpenClaim := { program := "ytjfimlcljbdglaa", sum := "3b455441a28384c7b4ed5e9b8bba6217d48d62915f4405dd410cfd05abe15658", func := "grisaille/grisaillelaw27.ColorPremultiply", spec := "colorPremultiply", unfollowed := true, recurses := true, named := ["math/bits.divideError", "math/bits.overflowError"], apart := false, narrowed := true }
def ColorPremultiplyUptoSaid : Prop := colorPremultiplyUptoRow.holds Try.pinned (OpenSpec.upto colorPremultiplySpec)

/-- 'grisaillelaw27.ColorClamp', WHERE WHAT IT READS IS OF BULK AT MOST 1048576: true; the input reads as it did. -/
def colorClampUptoRow : OpenClaim := { program := "ytjfimlcljbdglaa", sum := "3b455441a28384c7b4ed5e9b8bba6217d48d62915f4405dd410cfd05abe15658", func := "grisaille/grisaillelaw27.ColorClamp", spec := "colorClamp", unfollowed := true, recurses := true, named := ["math/bits.divideError", "math/bits.overflowError"], apart := false, narrowed := true }
def ColorClampUptoSaid : Prop := colorClampUptoRow.holds Try.pinned (OpenSpec.upto colorClampSpec)

/-- 'grisaillelaw27.ColorScale', WHERE WHAT IT READS IS OF BULK AT MOST 1048576: true; the input reads as it did. -/
def colorScaleUptoRow : OpenClaim := { program := "ytjfimlcljbdglaa", sum := "3b455441a28384c7b4ed5e9b8bba6217d48d62915f4405dd410cfd05abe15658", func := "grisaille/grisaillelaw27.ColorScale", spec := "colorScale", unfollowed := true, recurses := true, named := ["math/bits.divideError", "math/bits.overflowError"], apart := false, narrowed := true }
def ColorScaleUptoSaid : Prop := colorScaleUptoRow.holds Try.pinned (OpenSpec.upto colorScaleSpec)

/-- 'grisaillelaw27.ColorLerpColor', WHERE WHAT IT READS IS OF BULK AT MOST 1048576: true; the input reads as it did. -/
def colorLerpColorUptoRow : OpenClaim := { program := "ytjfimlcljbdglaa", sum := "3b455441a28384c7b4ed5e9b8bba6217d48d62915f4405dd410cfd05abe15658", func := "grisaille/grisaillelaw27.ColorLerpColor", spec := "colorLerpColor", unfollowed := true, recurses := true, named := ["math/bits.divideError", "math/bits.overflowError"], apart := false, narrowed := true }
def ColorLerpColorUptoSaid : Prop := colorLerpColorUptoRow.holds Try.pinned (OpenSpec.upto colorLerpColorSpec)

/-- 'grisaillelaw27.ColorMatrix', WHERE WHAT IT READS IS OF BULK AT MOST 1048576: true; the input reads as it did. -/
def colorMatrixUptoRow : OpenClaim := { program := "ytjfimlcljbdglaa", sum := "3b455441a28384c7b4ed5e9b8bba6217d48d62915f4405dd410cfd05abe15658", func := "grisaille/grisaillelaw27.ColorMatrix", spec := "colorMatrix", unfollowed := true, recurses := true, named := ["math/bits.divideError", "math/bits.overflowError"], apart := false, narrowed := true }
def ColorMatrixUptoSaid : Prop := colorMatrixUptoRow.holds Try.pinned (OpenSpec.upto colorMatrixSpec)

/-- 'grisaillelaw27.ColorMatrixIdentity', WHERE WHAT IT READS IS OF BULK AT MOST 1048576: true; the input reads as it did. -/
def colorMatrixIdentityUptoRow : OpenClaim := { program := "ytjfimlcljbdglaa", sum := "3b455441a28384c7b4ed5e9b8bba6217d48d62915f4405dd410cfd05abe15658", func := "grisaille/grisaillelaw27.ColorMatrixIdentity", spec := "colorMatrixIdentity", unfollowed := true, recurses := true, named := ["math/bits.divideError", "math/bits.overflowError"], apart := false, narrowed := true }
def ColorMatrixIdentityUptoSaid : Prop := colorMatrixIdentityUptoRow.holds Try.pinned (OpenSpec.upto colorMatrixIdentitySpec)

/-- 'grisaillelaw27.ColorRoundTrip', WHERE WHAT IT READS IS OF BULK AT MOST 1048576: true; the input reads as it did. -/
def colorRoundTripUptoRow : OpenClaim := { program := "ytjfimlcljbdglaa", sum := "3b455441a28384c7b4ed5e9b8bba6217d48d62915f4405dd410cfd05abe15658", func := "grisaille/grisaillelaw27.ColorRoundTrip", spec := "colorRoundTrip", unfollowed := true, recurses := true, named := ["math/bits.divideError", "math/bits.overflowError"], apart := false, narrowed := true }
def ColorRoundTripUptoSaid : Prop := colorRoundTripUptoRow.holds Try.pinned (OpenSpec.upto colorRoundTripSpec)

/-- 'grisaillelaw27.ColorHSL', WHERE WHAT IT READS IS OF BULK AT MOST 1048576: true; the input reads as it did. -/
def colorHSLUptoRow : OpenClaim := { program := "ytjfimlcljbdglaa", sum := "3b455441a28384c7b4ed5e9b8bba6217d48d62915f4405dd410cfd05abe15658", func := "grisaille/grisaillelaw27.ColorHSL", spec := "colorHSL", unfollowed := true, recurses := true, named := ["math/bits.divideError", "math/bits.overflowError"], apart := false, narrowed := true }
def ColorHSLUptoSaid : Prop := colorHSLUptoRow.holds Try.pinned (OpenSpec.upto colorHSLSpec)

/-- 'grisaillelaw27.ColorHSLRoundTrip', WHERE WHAT IT READS IS OF BULK AT MOST 1048576: true; the input reads as it did. -/
def colorHSLRoundTripUptoRow : OpenClaim := { program := "ytjfimlcljbdglaa", sum := "3b455441a28384c7b4ed5e9b8bba6217d48d62915f4405dd410cfd05abe15658", func := "grisaille/grisaillelaw27.ColorHSLRoundTrip", spec := "colorHSLRoundTrip", unfollowed := true, recurses := true, named := ["math/bits.divideError", "math/bits.overflowError"], apart := false, narrowed := true }
def ColorHSLRoundTripUptoSaid : Prop := colorHSLRoundTripUptoRow.holds Try.pinned (OpenSpec.upto colorHSLRoundTripSpec)

end Rows
end Go.Proofs.Ytjfimlcljbdglaa
