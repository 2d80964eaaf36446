/- ToHSL and FromHSL at every argument, in the shape the laws take. -/
import Derived.Test.YtjfimlcljbdglaaCs
namespace Go.Proofs.Ytjfimlcljbdglaa
open Go.RowKit
set_option linter.unusedVariables false
set_option linter.unusedSimpArgs false
theorem hsl_is (r g b : Int) : ∃ h s l : Int, hslV r g b = .tuple #[.int .i64 h, .int .i64 s, .int .i64 l] := by
  unfold hslV
  split
  · exact ⟨_, _, _, rfl⟩
  · exact ⟨_, _, _, rfl⟩
theorem fh_is (h s l a : Int) : ∃ p q r t : Int, ∃ k : Bool,
    (∀ w : World, Calls Try.prog 36 #[.int .i64 h, .int .i64 s, .int .i64 l, .int .u8 a] w fun e w' => e = .returned (.tuple #[.agg #[.int .u8 p, .int .u8 q, .int .u8 r, .int .u8 t], .bool k]) ∧ Keeps w w') ∧
    (∀ w : World, Calls Try.prog 37 #[.int .i64 h, .int .i64 s, .int .i64 l, .int .u8 a] w fun e w' => e = .returned (.tuple #[.agg #[.int .u8 p, .int .u8 q, .int .u8 r, .int .u8 t], .bool k]) ∧ Keeps w w') := by
  by_cases hv : fhOk h s l
  · exact ⟨_, _, _, _, _, fun w => fromhsl_any h s l a w hv, fun w => rfromhsl_any h s l a w hv⟩
  · exact ⟨_, _, _, _, _, fun w => fromhsl_no h s l a w hv, fun w => rfromhsl_no h s l a w hv⟩
end Go.Proofs.Ytjfimlcljbdglaa
