/- Plain laws of areas: the reverse of a ring, a ring oriented; OffsetVector of the opposite vector. -/
import Derived.Test.YtdodgnpjlicnoaaGreatQo
import Derived.Test.YtdodgnpjlicnoaaGreatQq
import Derived.Test.YtdodgnpjlicnoaaGreatQm
import Derived.Test.YtdodgnpjlicnoaaGreatWd
namespace Go.Proofs.YtdodgnpjlicnoaaGreat
section
section
open Go.RowKit
set_option linter.unusedVariables false
/-- The slice returned reads as L; nothing that lay in w0 has turned. -/
def RetP (w0 : World) (L : List Pt) (n : Nat) (e : Ending) (w' : World) : Prop := ∃ A c, e = .returned (.slice A n c) ∧ Pts w' A n c L ∧ Keeps w0 w'
theorem OwnP.ret {w0 w' : World} {L : List Pt} {e : Ending} {n : Nat} (hn : L.length = n) (ho : ∀ p ∈ L, okP p) (h : OwnP w0 L e w') : RetP w0 L n e w' := by
  obtain ⟨v, rfl, hown, hk⟩ := h
  subst hn
  obtain ⟨A, c, rfl, hP⟩ := Pts.of_own hown rfl ho
  exact ⟨A, c, rfl, hP, hk⟩
theorem bodyL_ok (a b : Pt) (v : Int) : ∀ p ∈ bodyL a b v, okP p := by
  unfold bodyL
  cases hm : mayB a b v with
  | false => rw [if_neg (by decide)]; intro p hp; cases hp
  | true =>
    rw [if_pos rfl]
    obtain ⟨⟨b0, b1, b2, b3⟩, ⟨b4, b5, b6, b7⟩, _⟩ := mayB_bd hm
    obtain ⟨⟨n0, n1⟩, n2, n3⟩ := ofs_bd' (subP b a) v
    apply orient_ok
    intro p hp
    simp at hp
    unfold okP i64b
    rcases hp with rfl | rfl | rfl | rfl <;> (simp only [addP, subP] at *; omega)
theorem capL_ok (a b : Pt) (v : Int) : ∀ p ∈ capL a b v, okP p := by
  unfold capL
  cases hm : mayB a b v with
  | false => rw [if_neg (by decide)]; intro p hp; cases hp
  | true =>
    rw [if_pos rfl]
    obtain ⟨⟨b0, b1, b2, b3⟩, ⟨b4, b5, b6, b7⟩, _⟩ := mayB_bd hm
    obtain ⟨⟨n0, n1⟩, n2, n3⟩ := ofs_bd' (subP b a) v
    apply orient_ok
    intro p hp
    simp at hp
    unfold okP i64b
    rcases hp with rfl | rfl | rfl | rfl <;> (simp only [addP, subP] at *; omega)
theorem dotL_ok (q : Pt) (v : Int) : ∀ p ∈ dotL q v, okP p := by
  unfold dotL
  cases hm : mayB q q v with
  | false => rw [if_neg (by decide)]; intro p hp; cases hp
  | true =>
    rw [if_pos rfl]
    obtain ⟨⟨b0, b1, b2, b3⟩, _, bv⟩ := mayB_bd hm
    obtain ⟨d0, d1⟩ := (dvr_Q v 2 (by omega) (by omega)).2
    apply orient_ok
    intro p hp
    simp at hp
    unfold okP i64b
    rcases hp with rfl | rfl | rfl | rfl <;> (dsimp only; omega)
theorem orient_len (L : List Pt) : (orient L).length ≤ L.length := by
  unfold orient
  split
  · exact Nat.le_refl _
  · split
    · rw [revT_length]; exact Nat.le_refl _
    · simp
theorem bodyL_len (a b : Pt) (v : Int) : (bodyL a b v).length ≤ 4 := by
  unfold bodyL; split
  · exact orient_len _
  · simp
theorem capL_len (a b : Pt) (v : Int) : (capL a b v).length ≤ 4 := by
  unfold capL; split
  · exact orient_len _
  · simp
theorem dotL_len (a : Pt) (v : Int) : (dotL a v).length ≤ 4 := by
  unfold dotL; split
  · exact orient_len _
  · simp
end

section
open Go.RowKit
set_option linter.unusedVariables false
set_option linter.unusedSimpArgs false
end
end

section
section
set_option linter.unusedVariables false
theorem sqn (a : Int) : 0 ≤ a * a := by
  rcases Int.le_total 0 a with h | h
  · exact Int.mul_nonneg h h
  · have := Int.mul_nonneg (show 0 ≤ -a by omega) (show 0 ≤ -a by omega)
    rwa [Int.neg_mul_neg] at this
theorem id_a1 (a s : Int) : a * (65536 * s) = 4 * (16384 * a * s) := by grind
theorem id_b1 (u1 u2 e1 e2 V : Int) : (V + 255) * (255 * (u1 * u1 + u2 * u2) + V * (e1 * e1 + e2 * e2)) = 255 * V * ((u1 + e1) * (u1 + e1) + (u2 + e2) * (u2 + e2)) + (255 * u1 - V * e1) * (255 * u1 - V * e1) + (255 * u2 - V * e2) * (255 * u2 - V * e2) := by grind
theorem id_b2 (u a b V Q : Int) : 255 * (4 * (255 * u + V * (a + b))) = 65025 * (4 * u) + 255 * (V * (4 * a + 4 * b)) := by grind
theorem id_b2r (Q V : Int) : 255 * (V * (2 * Q)) = 510 * V * Q := by grind
theorem id_b4 (n Q V : Int) : (V * Q) * (65025 * (4 * n)) = 260100 * (V * (Q * n)) := by grind
theorem id_b4r (Q V : Int) : (V * Q) * ((V + 255) * (V + 510)) = (V + 255) * (V * V * Q + 510 * V * Q) := by grind
theorem id_b4s (c V : Int) : (V + 255) * (255 * (4 * c)) = 1020 * ((V + 255) * c) := by grind
theorem id_b4t (n V : Int) : 260100 * (V * n) = 1020 * (255 * V * n) := by grind
theorem id_m5 (p q a b k Q N : Int) : 2 * k * (4 * ((p - a) * (p - a) + (q - b) * (q - b))) + 4 * ((2 * p + k * a) * (2 * p + k * a) + (2 * q + k * b) * (2 * q + k * b)) = (2 * k + 4) * (4 * (p * p + q * q)) + (k * k + 2 * k) * (4 * (a * a) + 4 * (b * b)) := by grind
theorem id_m5n (L a b : Int) : L * L * (4 * (a * a + b * b)) = 4 * (L * a * (L * a) + L * b * (L * b)) := by grind
theorem id_m5l (Q k : Int) : Q * (2 * k * ((k + 2) * (k + 2))) = 2 * k * ((k + 2) * (k + 2) * Q) := by grind
theorem id_m5r (Q k : Int) : Q * ((2 * k + 4) * (k * k) + 2 * (k * k + 2 * k)) = (2 * k + 4) * (Q * (k * k)) + (k * k + 2 * k) * (2 * Q) := by grind
theorem id_m5s (Q k : Int) : Q * (k * k) = k * k * Q := by grind
/-- From below. -/
theorem off_low (x y w L nx ny : Int) (hw : 2 ≤ w) (hL : 0 < L) (hS : L * L ≤ 65536 * (x * x + y * y))
    (r1 : 4 * ((L * nx + 128 * w * y) * (L * nx + 128 * w * y)) ≤ L * L) (r2 : 4 * ((L * ny - 128 * w * x) * (L * ny - 128 * w * x)) ≤ L * L) :
    (w - 2) * (w - 2) ≤ 4 * (nx * nx + ny * ny) := by
  obtain ⟨k, rfl⟩ : ∃ k, w = k + 2 := ⟨w - 2, by omega⟩
  have hk : 0 ≤ k := by omega
  rw [show k + 2 - 2 = k by omega]
  by_cases h : k * k ≤ 4 * (nx * nx + ny * ny)
  · exact h
  exfalso
  have h1 : 4 * (nx * nx + ny * ny) + 1 ≤ k * k := by omega
  have k1 : 1 ≤ k := by
    by_cases h0 : k = 0
    · subst h0
      have := sqn nx
      have := sqn ny
      omega
    · omega
  generalize he1 : L * nx + 128 * (k + 2) * y = e1 at *
  generalize he2 : L * ny - 128 * (k + 2) * x = e2 at *
  have q1 := sqn (2 * (L * nx) + k * e1)
  have q2 := sqn (2 * (L * ny) + k * e2)
  have hLL : 0 < L * L := Int.mul_pos hL hL
  -- U = (128 w)^2 S
  have hU : (L * nx - e1) * (L * nx - e1) + (L * ny - e2) * (L * ny - e2) = 16384 * ((k + 2) * (k + 2)) * (x * x + y * y) := by
    rw [← he1, ← he2]; grind
  have hU2 : (k + 2) * (k + 2) * (L * L) ≤ 4 * (16384 * ((k + 2) * (k + 2)) * (x * x + y * y)) := by
    have h1 := Int.mul_le_mul_of_nonneg_left hS (sqn (k + 2))
    have h2 := id_a1 ((k + 2) * (k + 2)) (x * x + y * y)
    omega
  have m1 : (L * L) * (4 * (nx * nx + ny * ny)) ≤ (L * L) * (k * k) := Int.mul_le_mul_of_nonneg_left (by omega) (by omega)
  have m2 : (2 * k + 4) * ((L * L) * (4 * (nx * nx + ny * ny))) ≤ (2 * k + 4) * ((L * L) * (k * k)) := Int.mul_le_mul_of_nonneg_left m1 (by omega)
  have m3 : (k * k + 2 * k) * (4 * (e1 * e1) + 4 * (e2 * e2)) ≤ (k * k + 2 * k) * (2 * (L * L)) := Int.mul_le_mul_of_nonneg_left (by omega) (by have := sqn k; omega)
  have m4 : 2 * k * ((k + 2) * (k + 2) * (L * L)) ≤ 2 * k * (4 * ((L * nx - e1) * (L * nx - e1) + (L * ny - e2) * (L * ny - e2))) := Int.mul_le_mul_of_nonneg_left (by omega) (by omega)
  have m5 : (L * L) * (2 * k * ((k + 2) * (k + 2))) ≤ (L * L) * ((2 * k + 4) * (k * k) + 2 * (k * k + 2 * k)) := by
    have := id_m5 (L * nx) (L * ny) e1 e2 k (L * L) (nx * nx + ny * ny)
    rw [id_m5n L nx ny] at m2
    have := id_m5l (L * L) k
    have := id_m5r (L * L) k
    have := id_m5s (L * L) k
    omega
  have m6 := Int.le_of_mul_le_mul_left m5 hLL
  have m7 : 2 * k * ((k + 2) * (k + 2)) - ((2 * k + 4) * (k * k) + 2 * (k * k + 2 * k)) = 2 * (k * k) + 4 * k := by grind
  have := sqn k
  omega
/-- From above. -/
theorem off_high (x y w L nx ny : Int) (hw : 1 ≤ w) (hL : 256 ≤ L) (hS : 65536 * (x * x + y * y) ≤ L * L + 2 * L)
    (r1 : 4 * ((L * nx + 128 * w * y) * (L * nx + 128 * w * y)) ≤ L * L) (r2 : 4 * ((L * ny - 128 * w * x) * (L * ny - 128 * w * x)) ≤ L * L) (T : Int) (hT : 256 * w + 510 ≤ 255 * T) :
    4 * (nx * nx + ny * ny) ≤ T * T := by
  generalize he1 : L * nx + 128 * w * y = e1 at *
  generalize he2 : L * ny - 128 * w * x = e2 at *
  have hL0 : 0 < L := by omega
  have hLL : 0 < L * L := Int.mul_pos hL0 hL0
  have hL2 : 256 * L ≤ L * L := Int.mul_le_mul_of_nonneg_right hL (by omega)
  obtain ⟨V, hV⟩ : ∃ V, V = 256 * w := ⟨_, rfl⟩
  have hV0 : 0 < V := by omega
  have hU : (L * nx - e1) * (L * nx - e1) + (L * ny - e2) * (L * ny - e2) = 16384 * (w * w) * (x * x + y * y) := by
    rw [← he1, ← he2]; grind
  have hU2 : 65025 * (4 * (16384 * (w * w) * (x * x + y * y))) ≤ V * V * (L * L) := by
    have a1 := Int.mul_le_mul_of_nonneg_left hS (sqn w)
    have a2 : (w * w) * (128 * (L * L + 2 * L)) ≤ (w * w) * (129 * (L * L)) := Int.mul_le_mul_of_nonneg_left (by omega) (sqn w)
    have a3 : 0 ≤ (w * w) * (L * L) := Int.mul_nonneg (sqn w) (by omega)
    have a4 : V * V * (L * L) = 65536 * ((w * w) * (L * L)) := by rw [hV]; grind
    have a5 : (w * w) * (128 * (L * L + 2 * L)) = 128 * ((w * w) * (L * L + 2 * L)) := by grind
    have a6 : (w * w) * (129 * (L * L)) = 129 * ((w * w) * (L * L)) := by grind
    have a7 : (w * w) * (65536 * (x * x + y * y)) = 4 * (16384 * (w * w) * (x * x + y * y)) := by grind
    rw [a4]
    rw [a5, a6] at a2
    rw [a7] at a1
    generalize (w * w) * (L * L) = z at *
    generalize (w * w) * (L * L + 2 * L) = z2 at *
    generalize 16384 * (w * w) * (x * x + y * y) = z3 at *
    omega
  have q1 := sqn (255 * (L * nx - e1) - V * e1)
  have q2 := sqn (255 * (L * ny - e2) - V * e2)
  rw [← hU] at hU2
  generalize hu1 : L * nx - e1 = u1 at *
  generalize hu2 : L * ny - e2 = u2 at *
  have hn1 : L * nx = u1 + e1 := by omega
  have hn2 : L * ny = u2 + e2 := by omega
  have hN : (L * L) * (nx * nx + ny * ny) = (u1 + e1) * (u1 + e1) + (u2 + e2) * (u2 + e2) := by rw [← hn1, ← hn2]; grind
  have b1 : 255 * V * ((u1 + e1) * (u1 + e1) + (u2 + e2) * (u2 + e2)) ≤ (V + 255) * (255 * (u1 * u1 + u2 * u2) + V * (e1 * e1 + e2 * e2)) := by
    have := id_b1 u1 u2 e1 e2 V
    omega
  have b2 : 255 * (4 * (255 * (u1 * u1 + u2 * u2) + V * (e1 * e1 + e2 * e2))) ≤ V * V * (L * L) + 510 * V * (L * L) := by
    have c1 : V * (4 * (e1 * e1) + 4 * (e2 * e2)) ≤ V * (2 * (L * L)) := Int.mul_le_mul_of_nonneg_left (by omega) (by omega)
    have := id_b2 (u1 * u1 + u2 * u2) (e1 * e1) (e2 * e2) V (L * L)
    have := id_b2r (L * L) V
    omega
  have b3 : (V + 255) * (255 * (4 * (255 * (u1 * u1 + u2 * u2) + V * (e1 * e1 + e2 * e2)))) ≤ (V + 255) * (V * V * (L * L) + 510 * V * (L * L)) := Int.mul_le_mul_of_nonneg_left b2 (by omega)
  have b4 : (V * (L * L)) * (65025 * (4 * (nx * nx + ny * ny))) ≤ (V * (L * L)) * ((V + 255) * (V + 510)) := by
    have := id_b4 (nx * nx + ny * ny) (L * L) V
    have := id_b4r (L * L) V
    rw [hN] at *
    have := id_b4s (255 * (u1 * u1 + u2 * u2) + V * (e1 * e1 + e2 * e2)) V
    have := id_b4t ((u1 + e1) * (u1 + e1) + (u2 + e2) * (u2 + e2)) V
    omega
  have b5 := Int.le_of_mul_le_mul_left b4 (Int.mul_pos hV0 hLL)
  have b6 : (V + 255) * (V + 510) ≤ (255 * T) * (255 * T) := Int.mul_le_mul (by omega) (by omega) (by omega) (by omega)
  have b7 : (255 * T) * (255 * T) = 65025 * (T * T) := by grind
  omega
/-- Perpendicular up to rounding. -/
theorem off_perp (x y w L nx ny : Int) (hL : 0 < L) (a1 : -L ≤ 2 * (L * nx + 128 * w * y)) (a2 : 2 * (L * nx + 128 * w * y) ≤ L) (b1 : -L ≤ 2 * (L * ny - 128 * w * x)) (b2 : 2 * (L * ny - 128 * w * x) ≤ L) :
    2 * (x * nx + y * ny) ≤ max x (-x) + max y (-y) ∧ -(max x (-x) + max y (-y)) ≤ 2 * (x * nx + y * ny) := by
  generalize he1 : L * nx + 128 * w * y = e1 at *
  generalize he2 : L * ny - 128 * w * x = e2 at *
  have hp : L * (2 * (x * nx + y * ny)) = x * (2 * e1) + y * (2 * e2) := by rw [← he1, ← he2]; grind
  have key : ∀ x e : Int, -L ≤ e → e ≤ L → x * e ≤ L * max x (-x) ∧ -(L * max x (-x)) ≤ x * e := by
    intro x e h1 h2
    by_cases hx : 0 ≤ x
    · rw [show max x (-x) = x by omega]
      have c1 := Int.mul_le_mul_of_nonneg_left h2 hx
      have c2 := Int.mul_le_mul_of_nonneg_left h1 hx
      rw [Int.mul_comm L x]
      rw [Int.mul_neg] at c2
      exact ⟨c1, c2⟩
    · rw [show max x (-x) = -x by omega]
      have c1 := Int.mul_le_mul_of_nonneg_left h2 (show 0 ≤ -x by omega)
      have c2 := Int.mul_le_mul_of_nonneg_left h1 (show 0 ≤ -x by omega)
      rw [Int.mul_comm L (-x)]
      rw [Int.mul_neg, Int.neg_mul, Int.neg_mul, Int.neg_neg] at c2
      rw [Int.neg_mul, Int.neg_mul] at c1
      rw [Int.neg_mul]
      generalize x * e = p at *
      generalize x * L = q at *
      omega
  obtain ⟨k1, k2⟩ := key x (2 * e1) a1 a2
  obtain ⟨k3, k4⟩ := key y (2 * e2) b1 b2
  have f : L * (max x (-x) + max y (-y)) = L * max x (-x) + L * max y (-y) := by grind
  constructor
  · refine Int.le_of_mul_le_mul_left (a := L) ?_ hL
    rw [hp, f]; omega
  · refine Int.le_of_mul_le_mul_left (a := L) ?_ hL
    rw [Int.mul_neg, hp, f]; omega
end

section
set_option linter.unusedVariables false
theorem crP_anti (p q : Pt) : crP q p = -crP p q := by unfold crP crossI; rw [Int.neg_sub, Int.mul_comm (hc q.1), Int.mul_comm (hc q.2)]
/-- The sum along an open line. -/
def pathA : List Pt → Int
  | [] => 0
  | [_] => 0
  | a :: b :: r => crP a b + pathA (b :: r)
theorem pathA_snoc : ∀ (l : List Pt) (a b : Pt), pathA (l ++ [a, b]) = pathA (l ++ [a]) + crP a b
  | [], a, b => by simp [pathA]
  | [x], a, b => by simp [pathA]
  | x :: y :: r, a, b => by
    have ih := pathA_snoc (y :: r) a b
    simp only [List.cons_append, pathA] at ih ⊢
    rw [ih, Int.add_assoc]
theorem pathA_rev : ∀ (l : List Pt), pathA l.reverse = -pathA l
  | [] => by simp [pathA]
  | [x] => by simp [pathA]
  | a :: b :: r => by
    have ih := pathA_rev (b :: r)
    rw [List.reverse_cons] at ih
    rw [List.reverse_cons, List.reverse_cons, List.append_assoc]
    have := pathA_snoc r.reverse b a
    simp only [List.singleton_append]
    rw [this, ih, pathA, crP_anti a b]
    omega
theorem areaTo_take (L : List Pt) : ∀ j, j + 1 ≤ L.length → areaTo L j = pathA (L.take (j + 1))
  | 0, h => by
    rw [takeP_succ L 0 (by omega)]; simp [areaTo, pathA]
  | j + 1, h => by
    have ih := areaTo_take L j (by omega)
    rw [areaTo, ih, takeP_succ L (j + 1) (by omega), takeP_succ L j (by omega), List.append_assoc]
    rw [show [L.getD j pt0] ++ [L.getD (j + 1) pt0] = [L.getD j pt0, L.getD (j + 1) pt0] from rfl, pathA_snoc]
    unfold nxt
    rw [Nat.mod_eq_of_lt (by omega)]
theorem areaTo_cyc (L : List Pt) (h : 0 < L.length) : areaTo L L.length = pathA L + crP (L.getD (L.length - 1) pt0) (L.getD 0 pt0) := by
  obtain ⟨n, hn⟩ : ∃ n, L.length = n + 1 := ⟨L.length - 1, by omega⟩
  have e := areaTo_take L n (by omega)
  rw [List.take_of_length_le (by omega)] at e
  rw [hn, areaTo, e]
  unfold nxt
  rw [hn, Nat.mod_self]
  rfl
theorem validL_revT (L : List Pt) : validL (revT L) = validL L := by
  unfold validL
  rw [revT_length]
  congr 1
  cases L with
  | nil => rfl
  | cons a r => simp [revT]
theorem area_revT (L : List Pt) : area (revT L) = -area L := by
  cases hv : validL L with
  | false => rw [area_no hv, area_no ((validL_revT L).trans hv)]; rfl
  | true =>
    rw [(area_yes hv).1, (area_yes ((validL_revT L).trans hv)).1]
    match L with
    | [] => rfl
    | [p] => simp [revT, areaTo, nxt, crP, crossI, Int.mul_comm]
    | a :: b :: r =>
      have e : revT (a :: b :: r) = a :: (b :: r).reverse := rfl
      rw [areaTo_cyc _ (by rw [revT_length]; simp), areaTo_cyc _ (by simp), e]
      have h1 : (a :: (b :: r).reverse).getD ((a :: (b :: r).reverse).length - 1) pt0 = b := by
        simp [List.getD_eq_getElem?_getD]
      have h2 : ∀ l : List Pt, l ≠ [] → pathA (a :: l.reverse) = crP a (l.getD (l.length - 1) pt0) + pathA l.reverse := by
        intro l hl
        obtain ⟨x, y, hy⟩ : ∃ x y, l.reverse = x :: y := by
          cases h : l.reverse with
          | nil => simp at h; exact absurd h hl
          | cons x y => exact ⟨x, y, rfl⟩
        have hx : l.getD (l.length - 1) pt0 = x := by
          have e2 : l = y.reverse ++ [x] := by rw [← List.reverse_reverse l, hy, List.reverse_cons]
          rw [e2]; simp [List.getD_eq_getElem?_getD]
        rw [hy, hx, pathA]
      rw [h1, h2 (b :: r) (by simp), pathA_rev, pathA]
      have h3 : (a :: b :: r).getD ((a :: b :: r).length - 1) pt0 = (b :: r).getD ((b :: r).length - 1) pt0 := by simp [List.getD_eq_getElem?_getD]
      rw [h3]
      have h4 := crP_anti a ((b :: r).getD ((b :: r).length - 1) pt0)
      have h5 := crP_anti a b
      simp only [List.getD_cons_zero]
      omega
theorem area_orient (L : List Pt) : area (orient L) = if 0 < area L then area L else -area L := by
  unfold orient
  by_cases h : 0 < area L
  · rw [if_pos h, if_pos h]
  · rw [if_neg h, if_neg h]
    by_cases h2 : area L < 0
    · rw [if_pos h2, area_revT]
    · rw [if_neg h2]
      have : area [] = 0 := rfl
      rw [this]; omega
/-- Four points, from the third on. -/
theorem area_four (p q r s : Pt) : area [r, s, p, q] = area [p, q, r, s] := by
  have hv : validL [r, s, p, q] = validL [p, q, r, s] := by
    unfold validL
    simp only [List.all_cons, List.all_nil, List.length_cons, List.length_nil]
    cases vP p <;> cases vP q <;> cases vP r <;> cases vP s <;> rfl
  cases h : validL [p, q, r, s] with
  | false => rw [area_no h, area_no (hv.trans h)]
  | true =>
    rw [(area_yes h).1, (area_yes (hv.trans h)).1]
    simp [areaTo, nxt]
    omega
theorem ofs_neg (p : Pt) (v : Int) : ofs (-p.1, -p.2) v = (-(ofs p v).1, -(ofs p v).2) := by
  have hk : ofsOk (-p.1, -p.2) v = ofsOk p v := by
    unfold ofsOk
    have q : ∀ x : Int, inB (-x) (-2097152) 2097152 = inB x (-2097152) 2097152 := fun x => by
      unfold inB
      rw [Bool.eq_iff_iff]; simp; omega
    rw [q, q]
  cases h : ofsOk p v with
  | false => rw [ofs_no p v h, ofs_no _ v (hk.trans h)]; rfl
  | true =>
    obtain ⟨a, b, u, u2, t, t2, m, s, ea, eb, a0, b0, a1, b1, eu, eu2, et, et2, u0, u1, t0, t1, em, es, s1, hO, _⟩ := ofs_ar p.1 p.2 v h
    have hL : ofsL (-p.1, -p.2) = ofsL p := by unfold ofsL; simp only [Int.neg_mul_neg]
    unfold ofs
    rw [if_pos h, if_pos (hk.trans h), hL]
    have e1 : -(-p.2) * v * 128 = -(-p.2 * v * 128) := by rw [Int.neg_mul, Int.neg_mul]
    have e2 : -p.1 * v * 128 = -(p.1 * v * 128) := by rw [Int.neg_mul, Int.neg_mul]
    rw [e1, e2, dvr_neg_left _ _ (by rw [eu]; omega), dvr_neg_left _ _ (by rw [et]; omega)]
theorem bodyL_swap (a b : Pt) (v : Int) : area (bodyL b a v) = area (bodyL a b v) := by
  have hm : mayB b a v = mayB a b v := by unfold mayB; cases wideB v <;> cases vP a <;> cases vP b <;> rfl
  unfold bodyL
  rw [hm]
  split
  · have e : ofs (subP a b) v = (-(ofs (subP b a) v).1, -(ofs (subP b a) v).2) := by
      rw [← ofs_neg]; unfold subP; congr 2 <;> omega
    rw [e]
    generalize ofs (subP b a) v = n
    rw [area_orient, area_orient]
    have e2 : [subP b (-n.1, -n.2), subP a (-n.1, -n.2), addP a (-n.1, -n.2), addP b (-n.1, -n.2)] = [addP b n, addP a n, subP a n, subP b n] := by
      unfold subP addP; simp [Int.sub_eq_add_neg]
    rw [e2, area_four (subP a n) (subP b n) (addP b n) (addP a n)]
  · rfl
end
end
end Go.Proofs.YtdodgnpjlicnoaaGreat
