/- Contracts of reference 27: Clamp, Valid, Premultiply, Unpremultiply, Scale, Lerp. -/
import Derived.Test.YtboomdbmeallfaaCf
import Derived.Test.YtboomdbmeallfaaR8
import Derived.Test.YtboomdbmeallfaaN19
namespace Go.Proofs.Ytboomdbmeallfaa
open Go.RowKit
set_option linter.unusedVariables false
set_option linter.unusedSimpArgs false
theorem keep0 {P : Program} {f : FuncId} {args : Array Value} {w : World} {v : Value} (c : Calls P f args w fun e w' => e = .returned v ∧ w = w') :
    Calls P f args w fun e w' => e = .returned v ∧ Keeps w w' := c.mono fun _ _ ⟨he, hb⟩ => ⟨he, hb ▸ Keeps.refl _⟩
theorem ret_b {a b : Bool} (h : a = b) : Ending.returned (.bool a) = .returned (.bool b) := by rw [h]
theorem validP_all {p0 p1 p2 p3 : Int} (h0 : p0 ≤ p3) (h1 : p1 ≤ p3) (h2 : p2 ≤ p3) : validP p0 p1 p2 p3 = true := by
  unfold validP; rw [Int.min_eq_left h0, Int.min_eq_left h1, Int.min_eq_left h2]; exact eq4_refl _ _ _ _
theorem validP_not {p0 p1 p2 p3 : Int} (h : ¬ (p0 ≤ p3 ∧ p1 ≤ p3 ∧ p2 ≤ p3)) : validP p0 p1 p2 p3 = false := by
  unfold validP eq4
  by_cases h0 : p0 ≤ p3
  · by_cases h1 : p1 ≤ p3
    · have : (min p2 p3 == p2) = false := beq_eq_false_iff_ne.2 (by omega)
      rw [this]; simp
    · have : (min p1 p3 == p1) = false := beq_eq_false_iff_ne.2 (by omega)
      rw [this]; simp
  · have : (min p0 p3 == p0) = false := beq_eq_false_iff_ne.2 (by omega)
    rw [this]; simp
end Go.Proofs.Ytboomdbmeallfaa
