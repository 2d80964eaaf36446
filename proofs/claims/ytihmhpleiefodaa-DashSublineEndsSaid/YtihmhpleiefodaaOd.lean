/- Plain laws of rounded division up to 2^62. -/
import Derived.Test.YtihmhpleiefodaaPq
namespace Go.Proofs.Ytihmhpleiefodaa
set_option linter.unusedVariables false
theorem dvr_Q2 (a b : Int) (hb : b ≠ 0) (ha : -4611686018427387904 ≤ a ∧ a ≤ 4611686018427387904) : dvr a b = mdrQ a 1 b := by
  have h1 := rndN_le (a.natAbs * (1 : Int).natAbs) b.natAbs (by omega)
  have h2 : -4611686018427387904 ≤ mdrQ a 1 b ∧ mdrQ a 1 b ≤ 4611686018427387904 := by
    unfold mdrQ
    simp at h1
    split <;> simp <;> omega
  have h3 : mdrB a 1 b = true := by unfold mdrB; exact decide_eq_true ⟨hb, by omega, by omega⟩
  unfold dvr mdrN; rw [h3]; rfl
theorem dvr_off2 (a b : Int) (hb : 0 < b) (ha : -4611686018427387904 ≤ a ∧ a ≤ 4611686018427387904) : 2 * a ≤ 2 * (dvr a b * b) + b ∧ 2 * (dvr a b * b) ≤ 2 * a + b := by
  obtain ⟨h1, h2⟩ := rndN_off a.natAbs b.natAbs (by omega)
  rw [dvr_Q2 a b (by omega) ha]
  have e : mdrQ a 1 b * b = if a < 0 then -((rndN a.natAbs b.natAbs * b.natAbs : Nat) : Int) else ((rndN a.natAbs b.natAbs * b.natAbs : Nat) : Int) := by
    have hn : mdrNeg a 1 b = decide (a < 0) := by unfold mdrNeg; rw [decide_eq_false (show ¬ b < 0 by omega)]; cases decide (a < 0) <;> rfl
    unfold mdrQ
    rw [show a.natAbs * (1 : Int).natAbs = a.natAbs by simp, hn, Int.natCast_mul, show ((b.natAbs : Nat) : Int) = b by omega]
    generalize rndN a.natAbs b.natAbs = r
    by_cases h3 : a < 0
    · rw [decide_eq_true h3, if_pos rfl, if_pos h3, Int.neg_mul]
    · rw [decide_eq_false h3, if_neg (by decide), if_neg h3]
  rw [e]
  generalize rndN a.natAbs b.natAbs * b.natAbs = M at *
  split <;> omega
/-- k of d parts of the way w, rounded: between 0 and w. -/
theorem part_bd (k w d : Int) (k0 : 0 ≤ k) (k1 : k ≤ d) (d0 : 1 ≤ d) (d1 : d ≤ 1099511627776) (w0 : -2097152 ≤ w) (w1 : w ≤ 2097152) :
    (0 ≤ w → 0 ≤ dvr (k * w) d ∧ dvr (k * w) d ≤ w) ∧ (w ≤ 0 → w ≤ dvr (k * w) d ∧ dvr (k * w) d ≤ 0) := by
  have hp := Nat.mul_le_mul (show k.natAbs ≤ 1099511627776 by omega) (show w.natAbs ≤ 2097152 by omega)
  rw [← Int.natAbs_mul] at hp
  obtain ⟨h1, h2⟩ := dvr_off2 (k * w) d (by omega) (by omega)
  generalize dvr (k * w) d = r at *
  constructor
  · intro hw
    have a1 : 0 ≤ k * w := Int.mul_nonneg k0 hw
    have a2 : k * w ≤ d * w := Int.mul_le_mul_of_nonneg_right k1 hw
    constructor
    · apply Classical.byContradiction; intro hr
      have : r * d ≤ (-1) * d := Int.mul_le_mul_of_nonneg_right (by omega) (by omega)
      omega
    · apply Classical.byContradiction; intro hr
      have : (w + 1) * d ≤ r * d := Int.mul_le_mul_of_nonneg_right (by omega) (by omega)
      rw [Int.add_mul, Int.mul_comm w d] at this
      omega
  · intro hw
    have a1 : 0 ≤ k * -w := Int.mul_nonneg k0 (by omega)
    have a2 : k * -w ≤ d * -w := Int.mul_le_mul_of_nonneg_right k1 (by omega)
    rw [Int.mul_neg] at a1 a2
    rw [Int.mul_neg] at a2
    constructor
    · apply Classical.byContradiction; intro hr
      have : r * d ≤ (w - 1) * d := Int.mul_le_mul_of_nonneg_right (by omega) (by omega)
      rw [Int.sub_mul, Int.mul_comm w d] at this
      omega
    · apply Classical.byContradiction; intro hr
      have : 1 * d ≤ r * d := Int.mul_le_mul_of_nonneg_right (by omega) (by omega)
      omega
theorem part_sum (k w d : Int) (k0 : 0 ≤ k) (k1 : k ≤ d) (d0 : 1 ≤ d) (d1 : d ≤ 1099511627776) (w0 : -2097152 ≤ w) (w1 : w ≤ 2097152) :
    -1 ≤ dvr (k * w) d - w - dvr ((d - k) * -w) d ∧ dvr (k * w) d - w - dvr ((d - k) * -w) d ≤ 1 := by
  have hp := Nat.mul_le_mul (show k.natAbs ≤ 1099511627776 by omega) (show w.natAbs ≤ 2097152 by omega)
  rw [← Int.natAbs_mul] at hp
  have hq := Nat.mul_le_mul (show (d - k).natAbs ≤ 1099511627776 by omega) (show (-w).natAbs ≤ 2097152 by omega)
  rw [← Int.natAbs_mul] at hq
  obtain ⟨h1, h2⟩ := dvr_off2 (k * w) d (by omega) (by omega)
  obtain ⟨h3, h4⟩ := dvr_off2 ((d - k) * -w) d (by omega) (by omega)
  have e : (d - k) * -w = k * w - d * w := by rw [Int.mul_neg, Int.sub_mul]; omega
  rw [e] at h3 h4
  rw [e]
  generalize hr : dvr (k * w) d = r at *
  generalize hs : dvr (k * w - d * w) d = s at *
  generalize k * w = x at *
  have e2 : (r - w - s) * d = r * d - d * w - s * d := by rw [Int.sub_mul, Int.sub_mul, Int.mul_comm w d]
  constructor
  · apply Classical.byContradiction; intro hc
    have : (r - w - s) * d ≤ (-2) * d := Int.mul_le_mul_of_nonneg_right (by omega) (by omega)
    omega
  · apply Classical.byContradiction; intro hc
    have : 2 * d ≤ (r - w - s) * d := Int.mul_le_mul_of_nonneg_right (by omega) (by omega)
    omega
theorem clI_in (n d : Int) (d0 : 0 ≤ d) : 0 ≤ clI n 0 d ∧ clI n 0 d ≤ d := by unfold clI; split <;> (try split) <;> omega
theorem dvr_none (d : Int) (d0 : 1 ≤ d) : dvr 0 d = 0 := by
  have h := dvr_off2 0 d (by omega) (by omega)
  generalize dvr 0 d = r at *
  apply Classical.byContradiction; intro hr
  rcases Int.lt_or_gt_of_ne hr with h1 | h1
  · have : r * d ≤ (-1) * d := Int.mul_le_mul_of_nonneg_right (by omega) (by omega)
    omega
  · have : 1 * d ≤ r * d := Int.mul_le_mul_of_nonneg_right (by omega) (by omega)
    omega
theorem dvr_full (d w : Int) (d0 : 1 ≤ d) (d1 : d ≤ 1099511627776) (w0 : -2097152 ≤ w) (w1 : w ≤ 2097152) : dvr (d * w) d = w := by
  have hp := Nat.mul_le_mul (show d.natAbs ≤ 1099511627776 by omega) (show w.natAbs ≤ 2097152 by omega)
  rw [← Int.natAbs_mul] at hp
  have h := dvr_off2 (d * w) d (by omega) (by omega)
  generalize dvr (d * w) d = r at *
  apply Classical.byContradiction; intro hr
  rcases Int.lt_or_gt_of_ne hr with h1 | h1
  · have : r * d ≤ (w - 1) * d := Int.mul_le_mul_of_nonneg_right (by omega) (by omega)
    rw [Int.sub_mul, Int.mul_comm w d] at this
    omega
  · have : (w + 1) * d ≤ r * d := Int.mul_le_mul_of_nonneg_right (by omega) (by omega)
    rw [Int.add_mul, Int.mul_comm w d] at this
    omega
end Go.Proofs.Ytihmhpleiefodaa
