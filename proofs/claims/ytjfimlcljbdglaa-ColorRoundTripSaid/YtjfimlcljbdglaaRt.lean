/- Premultiply inverts Unpremultiply at valid pixels; Scale and Lerp keep validity. -/
import Derived.Test.YtjfimlcljbdglaaCi
import Derived.Test.YtjfimlcljbdglaaCj
import Derived.Test.YtjfimlcljbdglaaPm
namespace Go.Proofs.Ytjfimlcljbdglaa
open Go.RowKit
set_option linter.unusedVariables false
set_option linter.unusedSimpArgs false
theorem back_any (p q r t : Int) (h0 : u8b p) (h1 : u8b q) (h2 : u8b r) (h3 : u8b t) (l0 : p ≤ t) (l1 : q ≤ t) (l2 : r ≤ t) : ∃ x y z v : Int,
    (∀ w : World, Calls Try.prog 24 #[.agg #[.int .u8 p, .int .u8 q, .int .u8 r, .int .u8 t]] w fun e w' => e = .returned (.agg #[.int .u8 x, .int .u8 y, .int .u8 z, .int .u8 v]) ∧ Keeps w w') ∧
    (∀ w : World, Calls Try.prog 17 #[.agg #[.int .u8 x, .int .u8 y, .int .u8 z, .int .u8 v]] w fun e w' => e = .returned (.agg #[.int .u8 p, .int .u8 q, .int .u8 r, .int .u8 t]) ∧ Keeps w w') := by
  by_cases ht : t = 0
  · subst ht
    have e0 : p = 0 := Int.le_antisymm l0 h0.1
    have e1 : q = 0 := Int.le_antisymm l1 h1.1
    have e2 : r = 0 := Int.le_antisymm l2 h2.1
    subst e0 e1 e2
    refine ⟨0, 0, 0, 0, fun w => unprem_zero 0 0 0 w, fun w => ?_⟩
    have h := prem_any 0 0 0 0 w ⟨by decide, by decide⟩ ⟨by decide, by decide⟩ ⟨by decide, by decide⟩ ⟨by decide, by decide⟩
    rw [show mn8 0 0 = 0 by decide] at h
    exact h
  · have t1 : 1 ≤ t := by have := h3.1; omega
    obtain ⟨a0, b0⟩ := un8_ok p t h0.1 l0 t1 h3.2
    obtain ⟨a1, b1⟩ := un8_ok q t h1.1 l1 t1 h3.2
    obtain ⟨a2, b2⟩ := un8_ok r t h2.1 l2 t1 h3.2
    refine ⟨un8 p t, un8 q t, un8 r t, t, fun w => ?_, fun w => ?_⟩
    · have h := unprem_any p q r t w h0 h1 h2 h3 ht
      rw [Int.min_eq_left l0, Int.min_eq_left l1, Int.min_eq_left l2] at h
      exact h
    · have h := prem_any (un8 p t) (un8 q t) (un8 r t) t w a0 a1 a2 h3
      rw [b0, b1, b2] at h
      exact h
theorem lp8_in (x y k : Int) (hx : u8b x) (hy : u8b y) (hk : u8b k) : u8b (lp8 x y k) := by
  unfold lp8 dn8
  exact clI_in _ 255 (by omega)
theorem lp8_mono (x y x' y' k : Int) (hx : x ≤ x') (hy : y ≤ y') (hk : u8b k) : lp8 x y k ≤ lp8 x' y' k := by
  have h1 := Int.mul_le_mul_of_nonneg_right hx (show 0 ≤ 255 - k by have := hk.2; omega)
  have h2 := Int.mul_le_mul_of_nonneg_right hy hk.1
  unfold lp8 dn8
  have h3 : (2 * (x * (255 - k) + y * k) + 255) / 510 ≤ (2 * (x' * (255 - k) + y' * k) + 255) / 510 := by omega
  generalize (2 * (x * (255 - k) + y * k) + 255) / 510 = a at *
  generalize (2 * (x' * (255 - k) + y' * k) + 255) / 510 = b at *
  unfold clI
  split <;> (try split) <;> (try split) <;> (try split) <;> omega
theorem mn8_in (x k : Int) (hx : u8b x) (hk : u8b k) : u8b (mn8 x k) := by
  have h := mn8_bd x k hx.1 hx.2 hk.1 hk.2
  exact ⟨h.1, by have := hx.2; omega⟩
theorem mn8_monol (x y k : Int) (h : x ≤ y) (hk : u8b k) : mn8 x k ≤ mn8 y k := by
  rw [mn8_comm x, mn8_comm y]; exact mn8_mono k x y hk.1 h
theorem scale_valid (p q r t k : Int) (w : World) (h0 : u8b p) (h1 : u8b q) (h2 : u8b r) (h3 : u8b t) (hk : u8b k) (l0 : p ≤ t) (l1 : q ≤ t) (l2 : r ≤ t) :
    Calls Try.prog 19 #[.agg #[.int .u8 (mn8 p k), .int .u8 (mn8 q k), .int .u8 (mn8 r k), .int .u8 (mn8 t k)]] w fun e w' => e = .returned (.bool true) ∧ Keeps w w' := by
  have h := validc_any (mn8 p k) (mn8 q k) (mn8 r k) (mn8 t k) w (mn8_in _ _ h0 hk) (mn8_in _ _ h1 hk) (mn8_in _ _ h2 hk) (mn8_in _ _ h3 hk)
  rw [validP_all (mn8_monol _ _ _ l0 hk) (mn8_monol _ _ _ l1 hk) (mn8_monol _ _ _ l2 hk)] at h
  exact h
theorem lerp_valid (p q r t x y z v k : Int) (w : World) (h0 : u8b p) (h1 : u8b q) (h2 : u8b r) (h3 : u8b t) (i0 : u8b x) (i1 : u8b y) (i2 : u8b z) (i3 : u8b v) (hk : u8b k) (l0 : p ≤ t) (l1 : q ≤ t) (l2 : r ≤ t) (m0 : x ≤ v) (m1 : y ≤ v) (m2 : z ≤ v) :
    Calls Try.prog 19 #[.agg #[.int .u8 (lp8 p x k), .int .u8 (lp8 q y k), .int .u8 (lp8 r z k), .int .u8 (lp8 t v k)]] w fun e w' => e = .returned (.bool true) ∧ Keeps w w' := by
  have h := validc_any (lp8 p x k) (lp8 q y k) (lp8 r z k) (lp8 t v k) w (lp8_in _ _ _ h0 i0 hk) (lp8_in _ _ _ h1 i1 hk) (lp8_in _ _ _ h2 i2 hk) (lp8_in _ _ _ h3 i3 hk)
  rw [validP_all (lp8_mono _ _ _ _ _ l0 m0 hk) (lp8_mono _ _ _ _ _ l1 m1 hk) (lp8_mono _ _ _ _ _ l2 m2 hk)] at h
  exact h
theorem parse_format (p q r t : Nat) (w : World) (h0 : p < 256) (h1 : q < 256) (h2 : r < 256) (h3 : t < 256) :
    Calls Try.prog 13 #[.string (strB (fmtL p q r t))] w fun x w' => x = .returned (.tuple #[.agg #[.int .u8 (p : Int), .int .u8 (q : Int), .int .u8 (r : Int), .int .u8 (t : Int)], .int .i64 0]) ∧ Keeps w w' := by
  have h := parse_any (strB (fmtL p q r t)) p q r t 0 w (Or.inl ⟨rfl, h0, h1, h2, h3, by
    rw [bytesOf_strB]
    intro d hd
    unfold fmtL at hd
    rcases List.mem_cons.1 hd with rfl | hd
    · decide
    · exact hexS_bd (by intro d hd; simp at hd; omega) d hd⟩)
  exact h
end Go.Proofs.Ytjfimlcljbdglaa
