/- Contracts of OffsetVector, of strokegeom and of reference 22. -/
import Derived.Test.YtihmhpleiefodaaQh
import Derived.Test.YtihmhpleiefodaaOd
namespace Go.Proofs.Ytihmhpleiefodaa
open Go.RowKit
attribute [local go_sem ↓] Go.wp_at_zero Go.wp_at_succ
set_option linter.unusedVariables false
set_option linter.unusedSimpArgs false
def inB (n lo hi : Int) : Bool := decide (lo ≤ n) && decide (n ≤ hi)
def wideB (n : Int) : Bool := inB n 1 16384
theorem inB_iff (n lo hi : Int) : inB n lo hi = true ↔ lo ≤ n ∧ n ≤ hi := by unfold inB; simp
theorem inB_no (n lo hi : Int) : inB n lo hi = false ↔ n < lo ∨ hi < n := by
  have := inB_iff n lo hi
  cases h : inB n lo hi <;> simp [h] at this ⊢ <;> omega
def ofsL (p : Pt) : Nat := isq (65536 * (p.1 * p.1 + p.2 * p.2)).toNat
def ofsOk (p : Pt) (w : Int) : Bool := wideB w && inB p.1 (-2097152) 2097152 && inB p.2 (-2097152) 2097152
def ofs (p : Pt) (w : Int) : Pt := if ofsOk p w = true then (dvr (-p.2 * w * 128) (ofsL p), dvr (p.1 * w * 128) (ofsL p)) else pt0
theorem wide_any (n : Int) (w : World) : Calls Try.prog 50 #[.int .i64 n] w fun e w' => e = .returned (.bool (wideB n)) ∧ w = w' := by
  go_enter Try.func50, Try.ntmps50
  go_wp2
  all_goals (go_ret; refine ⟨ret_bool ?_, rfl⟩; unfold wideB inB; simp; omega)
theorem within_any (n lo hi : Int) (w : World) : Calls Try.prog 37 #[.int .i64 n, .int .i64 lo, .int .i64 hi] w fun e w' => e = .returned (.bool (inB n lo hi)) ∧ w = w' := by
  go_enter Try.func37, Try.ntmps37
  go_wp2
  all_goals (go_ret; refine ⟨ret_bool ?_, rfl⟩; unfold inB; simp; omega)
theorem rwidth_any (n : Int) (w : World) : Calls Try.prog 36 #[.int .i64 n] w fun e w' => e = .returned (.bool (wideB n)) ∧ w = w' := by
  have K := Lib.hid (fun w => within_any n 1 16384 w)
  rw [show inB n 1 16384 = wideB n from rfl] at K
  generalize wideB n = v at *
  go_enter Try.func36, Try.ntmps36
  go_wp2_with (go_at_call 37; (with_reducible refine (K.out _).mono ?_); rintro e w1 ⟨rfl, rfl⟩)
  go_ret
  exact ⟨rfl, rfl⟩
theorem sq_bd (a : Int) (h0 : -2097152 ≤ a) (h1 : a ≤ 2097152) : ∃ p : Int, a * a = p ∧ 0 ≤ p ∧ p ≤ 4398046511104 := by
  refine ⟨_, rfl, ?_, ?_⟩
  · rcases Int.le_total 0 a with h | h
    · exact Int.mul_nonneg h h
    · exact Int.mul_nonneg_of_nonpos_of_nonpos h h
  · have h := Nat.mul_le_mul (show a.natAbs ≤ 2097152 by omega) (show a.natAbs ≤ 2097152 by omega)
    rw [← Int.natAbs_mul] at h
    omega
theorem ofs_ar (x y v : Int) (h : ofsOk (x, y) v = true) : ∃ (a b u u2 t t2 : Int) (m s : Nat), x * x = a ∧ y * y = b ∧ 0 ≤ a ∧ 0 ≤ b ∧ a ≤ 4398046511104 ∧ b ≤ 4398046511104 ∧ -y * v = u ∧ u * 128 = u2 ∧ x * v = t ∧ t * 128 = t2 ∧
    -17592186044416 ≤ u ∧ u ≤ 17592186044416 ∧ -17592186044416 ≤ t ∧ t ≤ 17592186044416 ∧ 65536 * (a + b) = (m : Int) ∧ isq m = s ∧ (s : Int) ≤ 4294967295 ∧ Hid (ofs (x, y) v = (dvr u2 (s : Int), dvr t2 (s : Int))) ∧ (-2097152 ≤ x ∧ x ≤ 2097152) ∧ (-2097152 ≤ y ∧ y ≤ 2097152) ∧ (1 ≤ v ∧ v ≤ 16384) := by
  have h' := h
  unfold ofsOk wideB at h'
  simp only [Bool.and_eq_true, inB_iff] at h'
  obtain ⟨⟨h1, h2⟩, h3⟩ := h'
  obtain ⟨a, ea, a0, a1⟩ := sq_bd x h2.1 h2.2
  obtain ⟨b, eb, b0, b1⟩ := sq_bd y h3.1 h3.2
  obtain ⟨u, eu, u0, u1⟩ := mul_bd (-y) v (by omega) (by omega) (by omega) (by omega)
  obtain ⟨t, et, t0, t1⟩ := mul_bd x v (by omega) (by omega) (by omega) (by omega)
  have hm : (((65536 * (a + b)).toNat : Nat) : Int) = 65536 * (a + b) := by omega
  have hlt := isq_lt (65536 * (a + b)).toNat (by omega)
  refine ⟨a, b, u, _, t, _, (65536 * (a + b)).toNat, _, ea, eb, a0, b0, a1, b1, eu, rfl, et, rfl, u0, u1, t0, t1, hm.symm, rfl, by omega, Lib.hid ?_, h2, h3, h1⟩
  unfold ofs ofsL
  rw [if_pos h]
  simp only [ea, eb, eu, et]
theorem ofs_no (p : Pt) (v : Int) (h : ofsOk p v = false) : ofs p v = pt0 := by unfold ofs; rw [if_neg (by rw [h]; simp)]
theorem ofs_00 (v : Int) : ofs (0, 0) v = pt0 := by
  unfold ofs
  split
  · have e : ofsL (0, 0) = 0 := by
      unfold ofsL
      rw [show (65536 * (((0, 0) : Pt).1 * ((0, 0) : Pt).1 + ((0, 0) : Pt).2 * ((0, 0) : Pt).2)).toNat = 0 from rfl]
      exact isq_unique 0 0 (by omega) (by omega) (by omega)
    rw [e]
    simp only [Int.neg_zero, Int.zero_mul]
    rw [show ((0 : Nat) : Int) = 0 from rfl, dvr_zero]; rfl
  · rfl
end Go.Proofs.Ytihmhpleiefodaa
