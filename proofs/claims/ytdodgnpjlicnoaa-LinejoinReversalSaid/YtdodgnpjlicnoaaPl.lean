/- Plain arithmetic for the seat (no program in sight): the integer square root, rounded division. -/
import Derived.WalkKit
namespace Go.Proofs.Ytdodgnpjlicnoaa
open Go.RowKit

/-! ## The integer square root -/
def isqF : Nat → Nat → Nat → Nat
  | 0, _, s => s
  | k + 1, n, s => isqF k n (if (s + 2 ^ k) * (s + 2 ^ k) ≤ n then s + 2 ^ k else s)
def isq (n : Nat) : Nat := isqF 32 n 0

theorem isqF_spec (n : Nat) : ∀ (k s : Nat), s * s ≤ n → n < (s + 2 ^ k) * (s + 2 ^ k) →
    isqF k n s * isqF k n s ≤ n ∧ n < (isqF k n s + 1) * (isqF k n s + 1) := by
  intro k
  induction k with
  | zero => intro s h1 h2; exact ⟨h1, by simpa [isqF] using h2⟩
  | succ k ih =>
    intro s h1 h2
    simp only [isqF]
    split
    · rename_i h
      refine ih _ h ?_
      have e : s + 2 ^ k + 2 ^ k = s + 2 ^ (k + 1) := by rw [Nat.pow_succ]; omega
      rw [e]; exact h2
    · rename_i h
      exact ih _ h1 (by omega)
theorem isq_spec (n : Nat) (hn : n < 18446744073709551616) : isq n * isq n ≤ n ∧ n < (isq n + 1) * (isq n + 1) :=
  isqF_spec n 32 0 (by omega) (by simpa using hn)
theorem isq_lt (n : Nat) (hn : n < 18446744073709551616) : isq n < 4294967296 := by
  have h := (isq_spec n hn).1
  rcases Nat.lt_or_ge (isq n) 4294967296 with h1 | h1
  · exact h1
  · have := Nat.mul_le_mul h1 h1
    omega
theorem isq_unique (n s : Nat) (hn : n < 18446744073709551616) (h1 : s * s ≤ n) (h2 : n < (s + 1) * (s + 1)) : isq n = s := by
  obtain ⟨g1, g2⟩ := isq_spec n hn
  rcases Nat.lt_trichotomy (isq n) s with h | h | h
  · have := Nat.mul_le_mul (show isq n + 1 ≤ s from h) (show isq n + 1 ≤ s from h); omega
  · exact h
  · have := Nat.mul_le_mul (show s + 1 ≤ isq n from h) (show s + 1 ≤ isq n from h); omega

theorem pow_le32 {k : Nat} (h : k ≤ 31) : 2 ^ k ≤ 2147483648 := Nat.pow_le_pow_right (by omega) h
theorem wrap_u64_id (a : Nat) (h : a < 18446744073709551616) : IntKind.u64.wrap (a : Int) = (a : Int) := by rw [IntKind.wrap_u64]; omega
theorem or_step (s k : Nat) (hk : k ≤ 31) (h2 : 2 ^ (k + 1) ∣ s) (h3 : s + 2 ^ (k + 1) ≤ 4294967296) :
    bits BinOp.or IntKind.u64 (s : Int) (IntKind.u64.wrap (2 ^ k)) = ((s + 2 ^ k : Nat) : Int) := by
  have hp := pow_le32 hk
  have e : (2 : Int) ^ k = ((2 ^ k : Nat) : Int) := by simp
  rw [e, wrap_u64_id _ (by omega), bits_or_u64_nat s (2 ^ k) (by omega) (by omega)]
  obtain ⟨a, rfl⟩ := h2
  rw [← Nat.two_pow_add_eq_or_of_lt (i := k + 1) (b := 2 ^ k) (by rw [Nat.pow_succ]; have := Nat.two_pow_pos k; omega) a]
theorem add_step (s k : Nat) (hk : k ≤ 31) (h3 : s + 2 ^ (k + 1) ≤ 4294967296) :
    IntKind.u64.wrap ((s : Int) + IntKind.u64.wrap (2 ^ k)) = ((s + 2 ^ k : Nat) : Int) := by
  have hp := pow_le32 hk
  have e : (2 : Int) ^ k = ((2 ^ k : Nat) : Int) := by simp
  have hq : s + 2 ^ k < 18446744073709551616 := by rw [Nat.pow_succ] at h3; omega
  rw [e, wrap_u64_id (2 ^ k) (by omega), ← Int.natCast_add, wrap_u64_id _ hq]
theorem sq_step (s k : Nat) (h3 : s + 2 ^ (k + 1) ≤ 4294967296) :
    IntKind.u64.wrap (((s + 2 ^ k : Nat) : Int) * ((s + 2 ^ k : Nat) : Int)) = (((s + 2 ^ k) * (s + 2 ^ k) : Nat) : Int) := by
  have hp := Nat.two_pow_pos k
  have e : s + 2 ^ k ≤ 4294967295 := by rw [Nat.pow_succ] at h3; omega
  have := Nat.mul_le_mul e e
  rw [← Int.natCast_mul, wrap_u64_id _ (by omega)]
theorem isq_yes {n s k : Nat} (h1 : isqF (k + 1) n s = isq n) (h : (s + 2 ^ k) * (s + 2 ^ k) ≤ n) : isqF k n (s + 2 ^ k) = isq n := by
  rw [← h1]; simp only [isqF]; rw [if_pos h]
theorem isq_no {n s k : Nat} (h1 : isqF (k + 1) n s = isq n) (h : ¬ (s + 2 ^ k) * (s + 2 ^ k) ≤ n) : isqF k n s = isq n := by
  rw [← h1]; simp only [isqF]; rw [if_neg h]
theorem dvd_yes {s k : Nat} (h2 : 2 ^ (k + 1) ∣ s) : 2 ^ k ∣ s + 2 ^ k := by
  obtain ⟨a, rfl⟩ := h2
  exact ⟨2 * a + 1, by rw [Nat.pow_succ, Nat.mul_add, Nat.mul_assoc, Nat.mul_one]⟩
theorem dvd_no {s k : Nat} (h2 : 2 ^ (k + 1) ∣ s) : 2 ^ k ∣ s := Nat.dvd_trans ⟨2, Nat.pow_succ ..⟩ h2
theorem le_yes {s k : Nat} (h : s + 2 ^ (k + 1) ≤ 4294967296) : s + 2 ^ k + 2 ^ k ≤ 4294967296 := by rw [Nat.pow_succ] at h; omega
theorem le_no {s k : Nat} (h : s + 2 ^ (k + 1) ≤ 4294967296) : s + 2 ^ k ≤ 4294967296 := by rw [Nat.pow_succ] at h; have := Nat.two_pow_pos k; omega
end Go.Proofs.Ytdodgnpjlicnoaa
