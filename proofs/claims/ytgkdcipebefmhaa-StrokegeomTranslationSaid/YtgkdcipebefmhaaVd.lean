/- Contracts of package vec: Length, OnSegment, Less, Lerp. -/
import Derived.Test.YtgkdcipebefmhaaVc
namespace Go.Proofs.Ytgkdcipebefmhaa
open Go.RowKit
attribute [local go_sem ↓] Go.wp_at_zero Go.wp_at_succ
set_option linter.unusedSimpArgs false

def lenI (x y : Int) : Nat := isq (65536 * dotI (hc x) (hc y) (hc x) (hc y)).toNat
theorem dotI_self (x y : Int) : ∃ d m : Nat, dotI (hc x) (hc y) (hc x) (hc y) = (d : Int) ∧ (d : Int) ≤ 2199023255552 ∧ 65536 * (d : Int) = (m : Int) ∧ (m : Int) ≤ 144115188075855872 ∧ Hid (lenI x y = isq m) := by
  have hx := hc_bd x
  have hy := hc_bd y
  have h1 := Nat.mul_le_mul (show (hc x).natAbs ≤ 1048576 by omega) (show (hc x).natAbs ≤ 1048576 by omega)
  have h2 := Nat.mul_le_mul (show (hc y).natAbs ≤ 1048576 by omega) (show (hc y).natAbs ≤ 1048576 by omega)
  have e : dotI (hc x) (hc y) (hc x) (hc y) = (((hc x).natAbs * (hc x).natAbs + (hc y).natAbs * (hc y).natAbs : Nat) : Int) := by
    unfold dotI; simp only [Int.natCast_add, Int.natCast_mul, Int.natAbs_mul_self']
  refine ⟨_, 65536 * ((hc x).natAbs * (hc x).natAbs + (hc y).natAbs * (hc y).natAbs), e, ?_, ?_, ?_, ?_⟩
  · omega
  · simp
  · omega
  · unfold Hid lenI; rw [e]; congr 1
theorem isq_le32 (m : Nat) (h : (m : Int) ≤ 144115188075855872) : (isq m : Int) ≤ 4294967295 := by
  have := isq_lt m (by omega)
  omega
def lessB (x y z t : Int) : Bool := decide (hc y < hc t) || (hc y == hc t && decide (hc x < hc z))
def onB (ax ay bx by' px py : Int) : Bool := oriI ax ay bx by' px py == 0 && decide (dotI (subc ax px) (subc ay py) (subc bx px) (subc by' py) ≤ 0)
end Go.Proofs.Ytgkdcipebefmhaa
