/- Reference 11: OnSegment. -/
import Derived.Test.YtgkdcipebefmhaaRv
namespace Go.Proofs.Ytgkdcipebefmhaa
open Go.RowKit
attribute [local go_sem ↓] Go.wp_at_zero Go.wp_at_succ
set_option linter.unusedSimpArgs false
set_option linter.unusedVariables false
theorem seg_sgn (a b p : Int) : (a - p) * (b - p) ≤ 0 ↔ min a b ≤ p ∧ p ≤ max a b := by
  constructor
  · intro h
    refine ⟨?_, ?_⟩
    · apply Classical.byContradiction; intro hn
      have := Int.mul_pos (show 0 < a - p by omega) (show 0 < b - p by omega)
      omega
    · apply Classical.byContradiction; intro hn
      have := Int.mul_pos (show 0 < p - a by omega) (show 0 < p - b by omega)
      rw [show (p - a) * (p - b) = (a - p) * (b - p) by rw [← Int.neg_sub a p, ← Int.neg_sub b p, Int.neg_mul_neg]] at this
      omega
  · intro h
    by_cases h1 : a ≤ p
    · by_cases h2 : b ≤ p
      · have : a = p ∨ b = p := by omega
        rcases this with h | h <;> subst h <;> simp
      · exact Int.mul_nonpos_of_nonpos_of_nonneg (by omega) (by omega)
    · exact Int.mul_nonpos_of_nonneg_of_nonpos (by omega) (by omega)
theorem seg_core (s t m : Int) (h : s * t = m * m) : s + t ≤ 0 ↔ s ≤ 0 ∧ t ≤ 0 := by
  constructor
  · intro h1
    have hm : 0 ≤ m * m := by
      rcases Int.le_total 0 m with h | h
      · exact Int.mul_nonneg h h
      · exact Int.mul_nonneg_of_nonpos_of_nonpos h h
    refine ⟨?_, ?_⟩
    · apply Classical.byContradiction; intro hn
      have := Int.mul_neg_of_pos_of_neg (show 0 < s by omega) (show t < 0 by omega)
      omega
    · apply Classical.byContradiction; intro hn
      have := Int.mul_neg_of_neg_of_pos (show s < 0 by omega) (show 0 < t by omega)
      omega
  · omega
theorem seg_box (ax ay bx b_y px py : Int) (hc : (bx - ax) * (py - ay) - (b_y - ay) * (px - ax) = 0) :
    (ax - px) * (bx - px) + (ay - py) * (b_y - py) ≤ 0 ↔ (min ax bx ≤ px ∧ px ≤ max ax bx) ∧ (min ay b_y ≤ py ∧ py ≤ max ay b_y) := by
  have e : (ax - px) * (b_y - py) = (bx - px) * (ay - py) := by
    have h1 : (bx - ax) * (py - ay) = (b_y - ay) * (px - ax) := by omega
    simp only [Int.sub_mul, Int.mul_sub] at h1 ⊢
    rw [Int.mul_comm b_y px, Int.mul_comm b_y ax, Int.mul_comm ay px, Int.mul_comm ay ax] at h1
    omega
  rw [← seg_sgn, ← seg_sgn]
  refine seg_core _ _ ((bx - px) * (ay - py)) ?_
  calc (ax - px) * (bx - px) * ((ay - py) * (b_y - py)) = (ax - px) * (b_y - py) * ((bx - px) * (ay - py)) := by
        simp only [Int.mul_assoc, Int.mul_comm, Int.mul_left_comm]
    _ = _ := by rw [e]
theorem hc_hc (n : Int) : hc (hc n) = hc n := hc_id (hc_bd n)
theorem cl1_zero (n : Int) : clI n (-1) 1 = 0 ↔ n = 0 := by unfold clI; split <;> (try split) <;> omega
theorem onB_iff (ax ay bx b_y px py : Int) : onB ax ay bx b_y px py = true ↔ oriI (hc ax) (hc ay) (hc bx) (hc b_y) (hc px) (hc py) = 0 ∧ min (hc ax) (hc bx) ≤ hc px ∧ hc px ≤ max (hc ax) (hc bx) ∧ min (hc ay) (hc b_y) ≤ hc py ∧ hc py ≤ max (hc ay) (hc b_y) := by
  unfold onB oriI
  simp only [Bool.and_eq_true, beq_iff_eq, decide_eq_true_eq, cl1_zero]
  unfold crossI dotI subc
  simp only [hc_hc]
  constructor
  · rintro ⟨h1, h2⟩
    have := (seg_box (hc ax) (hc ay) (hc bx) (hc b_y) (hc px) (hc py) h1).1 h2
    exact ⟨h1, this.1.1, this.1.2, this.2.1, this.2.2⟩
  · rintro ⟨h1, h2, h3, h4, h5⟩
    exact ⟨h1, (seg_box (hc ax) (hc ay) (hc bx) (hc b_y) (hc px) (hc py) h1).2 ⟨⟨h2, h3⟩, h4, h5⟩⟩
theorem ret_bool {X Y : Bool} (h : X = Y) : Ending.returned (.bool X) = Ending.returned (.bool Y) := by rw [h]
end Go.Proofs.Ytgkdcipebefmhaa
