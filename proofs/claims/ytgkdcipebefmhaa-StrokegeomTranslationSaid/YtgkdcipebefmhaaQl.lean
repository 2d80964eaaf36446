/- Plain laws: the length of an offset vector, up to rounding. -/
import Derived.Test.YtgkdcipebefmhaaWd
namespace Go.Proofs.Ytgkdcipebefmhaa
set_option linter.unusedVariables false
theorem sqn (a : Int) : 0 ≤ a * a := by
  rcases Int.le_total 0 a with h | h
  · exact Int.mul_nonneg h h
  · have := Int.mul_nonneg (show 0 ≤ -a by omega) (show 0 ≤ -a by omega)
    rwa [Int.neg_mul_neg] at this
theorem id_a1 (a s : Int) : a * (65536 * s) = 4 * (16384 * a * s) := by grind
theorem id_b1 (u1 u2 e1 e2 V : Int) : (V + 255) * (255 * (u1 * u1 + u2 * u2) + V * (e1 * e1 + e2 * e2)) = 255 * V * ((u1 + e1) * (u1 + e1) + (u2 + e2) * (u2 + e2)) + (255 * u1 - V * e1) * (255 * u1 - V * e1) + (255 * u2 - V * e2) * (255 * u2 - V * e2) := by grind
theorem id_b2 (u a b V Q : Int) : 255 * (4 * (255 * u + V * (a + b))) = 65025 * (4 * u) + 255 * (V * (4 * a + 4 * b)) := by grind
theorem id_b2r (Q V : Int) : 255 * (V * (2 * Q)) = 510 * V * Q := by grind
theorem id_b4 (n Q V : Int) : (V * Q) * (65025 * (4 * n)) = 260100 * (V * (Q * n)) := by grind
theorem id_b4r (Q V : Int) : (V * Q) * ((V + 255) * (V + 510)) = (V + 255) * (V * V * Q + 510 * V * Q) := by grind
theorem id_b4s (c V : Int) : (V + 255) * (255 * (4 * c)) = 1020 * ((V + 255) * c) := by grind
theorem id_b4t (n V : Int) : 260100 * (V * n) = 1020 * (255 * V * n) := by grind
theorem id_m5 (p q a b k Q N : Int) : 2 * k * (4 * ((p - a) * (p - a) + (q - b) * (q - b))) + 4 * ((2 * p + k * a) * (2 * p + k * a) + (2 * q + k * b) * (2 * q + k * b)) = (2 * k + 4) * (4 * (p * p + q * q)) + (k * k + 2 * k) * (4 * (a * a) + 4 * (b * b)) := by grind
theorem id_m5n (L a b : Int) : L * L * (4 * (a * a + b * b)) = 4 * (L * a * (L * a) + L * b * (L * b)) := by grind
theorem id_m5l (Q k : Int) : Q * (2 * k * ((k + 2) * (k + 2))) = 2 * k * ((k + 2) * (k + 2) * Q) := by grind
theorem id_m5r (Q k : Int) : Q * ((2 * k + 4) * (k * k) + 2 * (k * k + 2 * k)) = (2 * k + 4) * (Q * (k * k)) + (k * k + 2 * k) * (2 * Q) := by grind
theorem id_m5s (Q k : Int) : Q * (k * k) = k * k * Q := by grind
/-- From below. -/
theorem off_low (x y w L nx ny : Int) (hw : 2 ≤ w) (hL : 0 < L) (hS : L * L ≤ 65536 * (x * x + y * y))
    (r1 : 4 * ((L * nx + 128 * w * y) * (L * nx + 128 * w * y)) ≤ L * L) (r2 : 4 * ((L * ny - 128 * w * x) * (L * ny - 128 * w * x)) ≤ L * L) :
    (w - 2) * (w - 2) ≤ 4 * (nx * nx + ny * ny) := by
  obtain ⟨k, rfl⟩ : ∃ k, w = k + 2 := ⟨w - 2, by omega⟩
  have hk : 0 ≤ k := by omega
  rw [show k + 2 - 2 = k by omega]
  by_cases h : k * k ≤ 4 * (nx * nx + ny * ny)
  · exact h
  exfalso
  have h1 : 4 * (nx * nx + ny * ny) + 1 ≤ k * k := by omega
  have k1 : 1 ≤ k := by
    by_cases h0 : k = 0
    · subst h0
      have := sqn nx
      have := sqn ny
      omega
    · omega
  generalize he1 : L * nx + 128 * (k + 2) * y = e1 at *
  generalize he2 : L * ny - 128 * (k + 2) * x = e2 at *
  have q1 := sqn (2 * (L * nx) + k * e1)
  have q2 := sqn (2 * (L * ny) + k * e2)
  have hLL : 0 < L * L := Int.mul_pos hL hL
  -- U = (128 w)^2 S
  have hU : (L * nx - e1) * (L * nx - e1) + (L * ny - e2) * (L * ny - e2) = 16384 * ((k + 2) * (k + 2)) * (x * x + y * y) := by
    rw [← he1, ← he2]; grind
  have hU2 : (k + 2) * (k + 2) * (L * L) ≤ 4 * (16384 * ((k + 2) * (k + 2)) * (x * x + y * y)) := by
    have h1 := Int.mul_le_mul_of_nonneg_left hS (sqn (k + 2))
    have h2 := id_a1 ((k + 2) * (k + 2)) (x * x + y * y)
    omega
  have m1 : (L * L) * (4 * (nx * nx + ny * ny)) ≤ (L * L) * (k * k) := Int.mul_le_mul_of_nonneg_left (by omega) (by omega)
  have m2 : (2 * k + 4) * ((L * L) * (4 * (nx * nx + ny * ny))) ≤ (2 * k + 4) * ((L * L) * (k * k)) := Int.mul_le_mul_of_nonneg_left m1 (by omega)
  have m3 : (k * k + 2 * k) * (4 * (e1 * e1) + 4 * (e2 * e2)) ≤ (k * k + 2 * k) * (2 * (L * L)) := Int.mul_le_mul_of_nonneg_left (by omega) (by have := sqn k; omega)
  have m4 : 2 * k * ((k + 2) * (k + 2) * (L * L)) ≤ 2 * k * (4 * ((L * nx - e1) * (L * nx - e1) + (L * ny - e2) * (L * ny - e2))) := Int.mul_le_mul_of_nonneg_left (by omega) (by omega)
  have m5 : (L * L) * (2 * k * ((k + 2) * (k + 2))) ≤ (L * L) * ((2 * k + 4) * (k * k) + 2 * (k * k + 2 * k)) := by
    have := id_m5 (L * nx) (L * ny) e1 e2 k (L * L) (nx * nx + ny * ny)
    rw [id_m5n L nx ny] at m2
    have := id_m5l (L * L) k
    have := id_m5r (L * L) k
    have := id_m5s (L * L) k
    omega
  have m6 := Int.le_of_mul_le_mul_left m5 hLL
  have m7 : 2 * k * ((k + 2) * (k + 2)) - ((2 * k + 4) * (k * k) + 2 * (k * k + 2 * k)) = 2 * (k * k) + 4 * k := by grind
  have := sqn k
  omega
/-- From above. -/
theorem off_high (x y w L nx ny : Int) (hw : 1 ≤ w) (hL : 256 ≤ L) (hS : 65536 * (x * x + y * y) ≤ L * L + 2 * L)
    (r1 : 4 * ((L * nx + 128 * w * y) * (L * nx + 128 * w * y)) ≤ L * L) (r2 : 4 * ((L * ny - 128 * w * x) * (L * ny - 128 * w * x)) ≤ L * L) (T : Int) (hT : 256 * w + 510 ≤ 255 * T) :
    4 * (nx * nx + ny * ny) ≤ T * T := by
  generalize he1 : L * nx + 128 * w * y = e1 at *
  generalize he2 : L * ny - 128 * w * x = e2 at *
  have hL0 : 0 < L := by omega
  have hLL : 0 < L * L := Int.mul_pos hL0 hL0
  have hL2 : 256 * L ≤ L * L := Int.mul_le_mul_of_nonneg_right hL (by omega)
  obtain ⟨V, hV⟩ : ∃ V, V = 256 * w := ⟨_, rfl⟩
  have hV0 : 0 < V := by omega
  have hU : (L * nx - e1) * (L * nx - e1) + (L * ny - e2) * (L * ny - e2) = 16384 * (w * w) * (x * x + y * y) := by
    rw [← he1, ← he2]; grind
  have hU2 : 65025 * (4 * (16384 * (w * w) * (x * x + y * y))) ≤ V * V * (L * L) := by
    have a1 := Int.mul_le_mul_of_nonneg_left hS (sqn w)
    have a2 : (w * w) * (128 * (L * L + 2 * L)) ≤ (w * w) * (129 * (L * L)) := Int.mul_le_mul_of_nonneg_left (by omega) (sqn w)
    have a3 : 0 ≤ (w * w) * (L * L) := Int.mul_nonneg (sqn w) (by omega)
    have a4 : V * V * (L * L) = 65536 * ((w * w) * (L * L)) := by rw [hV]; grind
    have a5 : (w * w) * (128 * (L * L + 2 * L)) = 128 * ((w * w) * (L * L + 2 * L)) := by grind
    have a6 : (w * w) * (129 * (L * L)) = 129 * ((w * w) * (L * L)) := by grind
    have a7 : (w * w) * (65536 * (x * x + y * y)) = 4 * (16384 * (w * w) * (x * x + y * y)) := by grind
    rw [a4]
    rw [a5, a6] at a2
    rw [a7] at a1
    generalize (w * w) * (L * L) = z at *
    generalize (w * w) * (L * L + 2 * L) = z2 at *
    generalize 16384 * (w * w) * (x * x + y * y) = z3 at *
    omega
  have q1 := sqn (255 * (L * nx - e1) - V * e1)
  have q2 := sqn (255 * (L * ny - e2) - V * e2)
  rw [← hU] at hU2
  generalize hu1 : L * nx - e1 = u1 at *
  generalize hu2 : L * ny - e2 = u2 at *
  have hn1 : L * nx = u1 + e1 := by omega
  have hn2 : L * ny = u2 + e2 := by omega
  have hN : (L * L) * (nx * nx + ny * ny) = (u1 + e1) * (u1 + e1) + (u2 + e2) * (u2 + e2) := by rw [← hn1, ← hn2]; grind
  have b1 : 255 * V * ((u1 + e1) * (u1 + e1) + (u2 + e2) * (u2 + e2)) ≤ (V + 255) * (255 * (u1 * u1 + u2 * u2) + V * (e1 * e1 + e2 * e2)) := by
    have := id_b1 u1 u2 e1 e2 V
    omega
  have b2 : 255 * (4 * (255 * (u1 * u1 + u2 * u2) + V * (e1 * e1 + e2 * e2))) ≤ V * V * (L * L) + 510 * V * (L * L) := by
    have c1 : V * (4 * (e1 * e1) + 4 * (e2 * e2)) ≤ V * (2 * (L * L)) := Int.mul_le_mul_of_nonneg_left (by omega) (by omega)
    have := id_b2 (u1 * u1 + u2 * u2) (e1 * e1) (e2 * e2) V (L * L)
    have := id_b2r (L * L) V
    omega
  have b3 : (V + 255) * (255 * (4 * (255 * (u1 * u1 + u2 * u2) + V * (e1 * e1 + e2 * e2)))) ≤ (V + 255) * (V * V * (L * L) + 510 * V * (L * L)) := Int.mul_le_mul_of_nonneg_left b2 (by omega)
  have b4 : (V * (L * L)) * (65025 * (4 * (nx * nx + ny * ny))) ≤ (V * (L * L)) * ((V + 255) * (V + 510)) := by
    have := id_b4 (nx * nx + ny * ny) (L * L) V
    have := id_b4r (L * L) V
    rw [hN] at *
    have := id_b4s (255 * (u1 * u1 + u2 * u2) + V * (e1 * e1 + e2 * e2)) V
    have := id_b4t ((u1 + e1) * (u1 + e1) + (u2 + e2) * (u2 + e2)) V
    omega
  have b5 := Int.le_of_mul_le_mul_left b4 (Int.mul_pos hV0 hLL)
  have b6 : (V + 255) * (V + 510) ≤ (255 * T) * (255 * T) := Int.mul_le_mul (by omega) (by omega) (by omega) (by omega)
  have b7 : (255 * T) * (255 * T) = 65025 * (T * T) := by grind
  omega
/-- Perpendicular up to rounding. -/
theorem off_perp (x y w L nx ny : Int) (hL : 0 < L) (a1 : -L ≤ 2 * (L * nx + 128 * w * y)) (a2 : 2 * (L * nx + 128 * w * y) ≤ L) (b1 : -L ≤ 2 * (L * ny - 128 * w * x)) (b2 : 2 * (L * ny - 128 * w * x) ≤ L) :
    2 * (x * nx + y * ny) ≤ max x (-x) + max y (-y) ∧ -(max x (-x) + max y (-y)) ≤ 2 * (x * nx + y * ny) := by
  generalize he1 : L * nx + 128 * w * y = e1 at *
  generalize he2 : L * ny - 128 * w * x = e2 at *
  have hp : L * (2 * (x * nx + y * ny)) = x * (2 * e1) + y * (2 * e2) := by rw [← he1, ← he2]; grind
  have key : ∀ x e : Int, -L ≤ e → e ≤ L → x * e ≤ L * max x (-x) ∧ -(L * max x (-x)) ≤ x * e := by
    intro x e h1 h2
    by_cases hx : 0 ≤ x
    · rw [show max x (-x) = x by omega]
      have c1 := Int.mul_le_mul_of_nonneg_left h2 hx
      have c2 := Int.mul_le_mul_of_nonneg_left h1 hx
      rw [Int.mul_comm L x]
      rw [Int.mul_neg] at c2
      exact ⟨c1, c2⟩
    · rw [show max x (-x) = -x by omega]
      have c1 := Int.mul_le_mul_of_nonneg_left h2 (show 0 ≤ -x by omega)
      have c2 := Int.mul_le_mul_of_nonneg_left h1 (show 0 ≤ -x by omega)
      rw [Int.mul_comm L (-x)]
      rw [Int.mul_neg, Int.neg_mul, Int.neg_mul, Int.neg_neg] at c2
      rw [Int.neg_mul, Int.neg_mul] at c1
      rw [Int.neg_mul]
      generalize x * e = p at *
      generalize x * L = q at *
      omega
  obtain ⟨k1, k2⟩ := key x (2 * e1) a1 a2
  obtain ⟨k3, k4⟩ := key y (2 * e2) b1 b2
  have f : L * (max x (-x) + max y (-y)) = L * max x (-x) + L * max y (-y) := by grind
  constructor
  · refine Int.le_of_mul_le_mul_left (a := L) ?_ hL
    rw [hp, f]; omega
  · refine Int.le_of_mul_le_mul_left (a := L) ?_ hL
    rw [Int.mul_neg, hp, f]; omega
end Go.Proofs.Ytgkdcipebefmhaa
