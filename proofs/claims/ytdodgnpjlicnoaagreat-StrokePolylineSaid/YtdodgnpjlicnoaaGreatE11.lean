/- The examples of chapter 11 hold. -/
import Derived.Test.YtdodgnpjlicnoaaGreatVd
namespace Go.Proofs.YtdodgnpjlicnoaaGreat
section
open Go.RowKit
attribute [local go_sem ↓] Go.wp_at_zero Go.wp_at_succ

/-- Lerp's coordinate. -/
def lerpI (a b n d : Int) : Int := if d < 1 ∨ 1099511627776 < d then hc a else hc a + dvr (clI n 0 d * (hc b - hc a)) d
theorem dvr_le (a b : Int) (h : -4611686018427387904 ≤ a ∧ a ≤ 4611686018427387904) : -4611686018427387904 ≤ dvr a b ∧ dvr a b ≤ 4611686018427387904 := by
  by_cases hb : b = 0
  · subst hb; rw [dvr_zero]; omega
  · have h1 := rndN_le (a.natAbs * (1 : Int).natAbs) b.natAbs (by omega)
    have e : a.natAbs * (1 : Int).natAbs = a.natAbs := by simp
    unfold dvr mdrN
    split
    · unfold mdrQ
      rw [e] at h1 ⊢
      split <;> omega
    · omega
theorem at_prod (f t n : Int) (f0 : -1048576 ≤ f) (f1 : f ≤ 1048576) (t0 : -1048576 ≤ t) (t1 : t ≤ 1048576) (n0 : 0 ≤ n) (n1 : n ≤ 1099511627776) :
    ∃ p : Int, n * (t - f) = p ∧ -2305843009213693952 ≤ p ∧ p ≤ 2305843009213693952 := by
  refine ⟨_, rfl, ?_⟩
  have h := Nat.mul_le_mul (show n.natAbs ≤ 1099511627776 by omega) (show (t - f).natAbs ≤ 2097152 by omega)
  rw [← Int.natAbs_mul] at h
  omega
end

section
open Go.RowKit
set_option linter.unusedVariables false
end
end Go.Proofs.YtdodgnpjlicnoaaGreat
