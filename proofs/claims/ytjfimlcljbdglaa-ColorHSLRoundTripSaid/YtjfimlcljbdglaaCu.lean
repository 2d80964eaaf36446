/- FromHSL inverts ToHSL: plain law. -/
import Derived.Test.YtjfimlcljbdglaaCt
namespace Go.Proofs.Ytjfimlcljbdglaa
set_option linter.unusedVariables false
set_option linter.unusedSimpArgs false
theorem hue_part (y d : Int) (h0 : 0 ≤ y) (h1 : y ≤ d) (d0 : 1 ≤ d) (d1 : d ≤ 255) :
    0 ≤ dvr (256 * y) d ∧ dvr (256 * y) d ≤ 256 ∧ (dvr (256 * y) d = 256 → y = d) ∧ (1 ≤ y → 1 ≤ dvr (256 * y) d) ∧ dvr (d * dvr (256 * y) d) 256 = y := by
  obtain ⟨q1, q2⟩ := dvr_off2 (256 * y) d (by omega) (by omega)
  generalize dvr (256 * y) d = x at *
  have a0 : 0 ≤ x := by
    apply Classical.byContradiction; intro hn
    have := Int.mul_le_mul_of_nonneg_right (show x ≤ -1 by omega) (show 0 ≤ d by omega)
    omega
  have a1 : x ≤ 256 := by
    apply Classical.byContradiction; intro hn
    have := Int.mul_le_mul_of_nonneg_right (show 257 ≤ x by omega) (show 0 ≤ d by omega)
    omega
  refine ⟨a0, a1, ?_, ?_, ?_⟩
  · rintro rfl; omega
  · intro hy
    apply Classical.byContradiction; intro hn
    obtain rfl : x = 0 := by omega
    omega
  · rw [Int.mul_comm d x]
    have b0 := Int.mul_nonneg a0 (show 0 ≤ d by omega)
    obtain ⟨q3, q4⟩ := dvr_off2 (x * d) 256 (by omega) (by omega)
    generalize dvr (x * d) 256 = u at *
    generalize x * d = p at *
    omega
theorem hue_part_neg (y d : Int) (h0 : 1 ≤ y) (h1 : y ≤ d) (d0 : 1 ≤ d) (d1 : d ≤ 255) :
    ∃ x : Int, dvr (256 * (-y)) d = -x ∧ 1 ≤ x ∧ x ≤ 256 ∧ dvr (d * x) 256 = y := by
  obtain ⟨a0, a1, a2, a3, a4⟩ := hue_part y d (by omega) h1 d0 d1
  exact ⟨_, by rw [show 256 * (-y) = -(256 * y) by omega, dvr_neg_left _ _ (by omega)], a3 h0, a1, a4⟩
theorem sat_part (d l : Int) (d0 : 1 ≤ d) (d1 : d ≤ l) (d2 : d ≤ 510 - l) : 1 ≤ satI d l ∧ satI d l ≤ 255 ∧ fhD (satI d l) l = d := by
  unfold satI fhD
  have hm : d ≤ min l (510 - l) ∧ min l (510 - l) ≤ 255 := by omega
  generalize min l (510 - l) = m at *
  obtain ⟨m0, m1⟩ := hm
  obtain ⟨q1, q2⟩ := dvr_off2 (255 * d) m (by omega) (by omega)
  generalize dvr (255 * d) m = s at *
  have a0 : 1 ≤ s := by
    apply Classical.byContradiction; intro hn
    have := Int.mul_le_mul_of_nonneg_right (show s ≤ 0 by omega) (show 0 ≤ m by omega)
    omega
  have a1 : s ≤ 255 := by
    apply Classical.byContradiction; intro hn
    have := Int.mul_le_mul_of_nonneg_right (show 256 ≤ s by omega) (show 0 ≤ m by omega)
    omega
  refine ⟨a0, a1, ?_⟩
  have b0 := Int.mul_nonneg (show 0 ≤ s by omega) (show 0 ≤ m by omega)
  obtain ⟨q3, q4⟩ := dvr_off2 (s * m) 255 (by omega) (by omega)
  generalize dvr (s * m) 255 = u at *
  by_cases hm : m = 255
  · subst hm
    omega
  · generalize s * m = p at *
    omega
theorem fhV_of (h s d lo k f : Int) (e1 : fhD s (lo + d + lo) = d) (e2 : h / 256 = k) (e3 : h % 256 = f) :
    fhV h s (lo + d + lo) = fhP k (lo + d) lo (lo + dvr (d * f) 256) (lo + dvr (d * (256 - f)) 256) := by
  unfold fhV fhU fhN fhL
  rw [e1, e2, e3, show (lo + d + lo - d) / 2 = lo by omega]
theorem modI_in (x : Int) (h0 : 0 ≤ x) (h1 : x < 1536) : modI x 1536 = x := by unfold modI; rw [if_neg (by omega)]; omega
theorem modI_up (x : Int) (h0 : -1536 ≤ x) (h1 : x < 0) : modI x 1536 = x + 1536 := by unfold modI; rw [if_neg (by omega)]; omega
theorem fhP0 (hi lo up dn : Int) : fhP 0 hi lo up dn = (hi, up, lo) := rfl
theorem fhP1 (hi lo up dn : Int) : fhP 1 hi lo up dn = (dn, hi, lo) := rfl
theorem fhP2 (hi lo up dn : Int) : fhP 2 hi lo up dn = (lo, hi, up) := rfl
theorem fhP3 (hi lo up dn : Int) : fhP 3 hi lo up dn = (lo, dn, hi) := rfl
theorem fhP4 (hi lo up dn : Int) : fhP 4 hi lo up dn = (up, lo, hi) := rfl
theorem fhP5 (hi lo up dn : Int) : fhP 5 hi lo up dn = (hi, lo, dn) := rfl
theorem dvr_256 (d : Int) (d0 : 0 ≤ d) (d1 : d ≤ 255) : dvr (d * 256) 256 = d := by
  obtain ⟨q3, q4⟩ := dvr_off2 (d * 256) 256 (by omega) (by omega)
  generalize dvr (d * 256) 256 = u at *
  omega
theorem tri (a b c a' b' c' : Int) (h1 : a = a') (h2 : b = b') (h3 : c = c') : (a, b, c) = (a', b', c') := by subst h1 h2 h3; rfl
/-- The three hues. -/
theorem hue_back (r g b lo d s : Int) (hr : u8b r) (hg : u8b g) (hb : u8b b) (h1 : lo = loI r g b) (h2 : lo + d = hiI r g b) (hd : 1 ≤ d) (e1 : fhD s (lo + d + lo) = d) :
    0 ≤ hueI r g b (lo + d) d ∧ hueI r g b (lo + d) d ≤ 1535 ∧ fhV (hueI r g b (lo + d) d) s (lo + d + lo) = (r, g, b) := by
  have hd2 : d ≤ 255 := by unfold u8b hiI loI at *; omega
  unfold u8b at hr hg hb
  unfold hueI hue0
  unfold hiI at h2
  unfold loI at h1
  have z := dvr_256 d (by omega) hd2
  by_cases k1 : lo + d = r
  · rw [if_pos k1]
    by_cases k2 : b ≤ g
    · obtain ⟨a0, a1, a2, a3, a4⟩ := hue_part (g - b) d (by omega) (by omega) hd hd2
      generalize dvr (256 * (g - b)) d = x at *
      rw [modI_in x a0 (by omega)]
      refine ⟨a0, by omega, ?_⟩
      by_cases k3 : x = 256
      · have := a2 k3
        rw [fhV_of x s d lo 1 0 e1 (by omega) (by omega), fhP1, show (256 : Int) - 0 = 256 from rfl, z]
        exact tri _ _ _ _ _ _ (by omega) (by omega) (by omega)
      · rw [fhV_of x s d lo 0 x e1 (by omega) (by omega), fhP0, a4]
        exact tri _ _ _ _ _ _ (by omega) (by omega) (by omega)
    · obtain ⟨x, a0, a1, a2, a3⟩ := hue_part_neg (b - g) d (by omega) (by omega) hd hd2
      rw [show g - b = -(b - g) by omega, a0, modI_up _ (by omega) (by omega)]
      refine ⟨by omega, by omega, ?_⟩
      rw [fhV_of _ s d lo 5 (256 - x) e1 (by omega) (by omega), fhP5, show 256 - (256 - x) = x by omega, a3]
      exact tri _ _ _ _ _ _ (by omega) (by omega) (by omega)
  · rw [if_neg k1]
    by_cases k2 : lo + d = g
    · rw [if_pos k2]
      by_cases k3 : r ≤ b
      · obtain ⟨a0, a1, a2, a3, a4⟩ := hue_part (b - r) d (by omega) (by omega) hd hd2
        generalize dvr (256 * (b - r)) d = x at *
        rw [modI_in _ (by omega) (by omega)]
        refine ⟨by omega, by omega, ?_⟩
        by_cases k4 : x = 256
        · have := a2 k4
          rw [fhV_of _ s d lo 3 0 e1 (by omega) (by omega), fhP3, show (256 : Int) - 0 = 256 from rfl, z]
          exact tri _ _ _ _ _ _ (by omega) (by omega) (by omega)
        · rw [fhV_of _ s d lo 2 x e1 (by omega) (by omega), fhP2, a4]
          exact tri _ _ _ _ _ _ (by omega) (by omega) (by omega)
      · obtain ⟨x, a0, a1, a2, a3⟩ := hue_part_neg (r - b) d (by omega) (by omega) hd hd2
        rw [show b - r = -(r - b) by omega, a0, modI_in _ (by omega) (by omega)]
        refine ⟨by omega, by omega, ?_⟩
        rw [fhV_of _ s d lo 1 (256 - x) e1 (by omega) (by omega), fhP1, show 256 - (256 - x) = x by omega, a3]
        exact tri _ _ _ _ _ _ (by omega) (by omega) (by omega)
    · rw [if_neg k2]
      by_cases k3 : g ≤ r
      · obtain ⟨a0, a1, a2, a3, a4⟩ := hue_part (r - g) d (by omega) (by omega) hd hd2
        generalize dvr (256 * (r - g)) d = x at *
        rw [modI_in _ (by omega) (by omega)]
        refine ⟨by omega, by omega, ?_⟩
        have k4 : x ≠ 256 := fun h => by have := a2 h; omega
        rw [fhV_of _ s d lo 4 x e1 (by omega) (by omega), fhP4, a4]
        exact tri _ _ _ _ _ _ (by omega) (by omega) (by omega)
      · obtain ⟨x, a0, a1, a2, a3⟩ := hue_part_neg (g - r) d (by omega) (by omega) hd hd2
        rw [show r - g = -(g - r) by omega, a0, modI_in _ (by omega) (by omega)]
        refine ⟨by omega, by omega, ?_⟩
        rw [fhV_of _ s d lo 3 (256 - x) e1 (by omega) (by omega), fhP3, show 256 - (256 - x) = x by omega, a3]
        exact tri _ _ _ _ _ _ (by omega) (by omega) (by omega)
theorem fhD_none (l : Int) : fhD 0 l = 0 := by
  unfold fhD
  rw [Int.zero_mul]
  exact dvr_none 255 (by omega)
/-- ToHSL's three numbers, and FromHSL at them. -/
theorem hsl_round (r g b : Int) (h0 : u8b r) (h1 : u8b g) (h2 : u8b b) :
    ∃ h s l : Int, hslV r g b = .tuple #[.int .i64 h, .int .i64 s, .int .i64 l] ∧ fhOk h s l ∧ fhV h s l = (r, g, b) ∧ (s = 0 ↔ r = g ∧ g = b) := by
  have p1 : 0 ≤ loI r g b ∧ loI r g b ≤ hiI r g b ∧ hiI r g b ≤ 255 := by unfold u8b at *; unfold hiI loI; omega
  unfold hslV
  by_cases k : hiI r g b - loI r g b = 0
  · rw [if_pos k]
    refine ⟨_, _, _, rfl, ?_, ?_, ?_⟩
    · unfold fhOk; omega
    · have e : r = g ∧ g = b ∧ hiI r g b = r ∧ loI r g b = r := by unfold hiI loI at *; omega
      obtain ⟨rfl, rfl, e1, e2⟩ := e
      rw [e1, e2]
      have := fhV_of 0 0 0 r 0 0 (fhD_none _) (by omega) (by omega)
      rw [Int.add_zero] at this
      rw [this, fhP0, Int.zero_mul, dvr_none 256 (by omega), Int.add_zero]
    · unfold hiI loI at *; omega
  · rw [if_neg k]
    obtain ⟨s0, s1, s2⟩ := sat_part (hiI r g b - loI r g b) (hiI r g b + loI r g b) (by omega) (by omega) (by omega)
    have e : loI r g b + (hiI r g b - loI r g b) = hiI r g b := by omega
    have H := hue_back r g b (loI r g b) (hiI r g b - loI r g b) (satI (hiI r g b - loI r g b) (hiI r g b + loI r g b)) h0 h1 h2 rfl e (by omega) (by rw [e]; exact s2)
    rw [e] at H
    refine ⟨_, _, _, rfl, ⟨H.1, H.2.1, by omega, s1, by omega, by omega⟩, H.2.2, ?_⟩
    constructor
    · intro h; omega
    · rintro ⟨rfl, rfl⟩; exact absurd (show hiI r r r - loI r r r = 0 by unfold hiI loI; omega) k
end Go.Proofs.Ytjfimlcljbdglaa
