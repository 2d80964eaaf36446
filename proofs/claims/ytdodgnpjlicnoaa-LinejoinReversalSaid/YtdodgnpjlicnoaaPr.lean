/- Plain arithmetic: rounding to nearest, ties away from zero; no program in sight. -/
import Derived.Test.YtdodgnpjlicnoaaPd
namespace Go.Proofs.Ytdodgnpjlicnoaa
open Go.RowKit

/-- p / c rounded to nearest, a half up. -/
def rndN (p c : Nat) : Nat := (2 * p + c) / (2 * c)
/-- What near gives. -/
def nearN (p c : Nat) : Nat := if rndN p c < 18446744073709551616 then rndN p c else 0
def nearB (p c : Nat) : Bool := decide (rndN p c < 18446744073709551616)
/-- a * b / c rounded, with its sign, before it is asked whether it fits. -/
def mdrNeg (a b c : Int) : Bool := (decide (a < 0) != decide (b < 0)) != decide (c < 0)
def mdrQ (a b c : Int) : Int :=
  if mdrNeg a b c then -(rndN (a.natAbs * b.natAbs) c.natAbs : Int) else (rndN (a.natAbs * b.natAbs) c.natAbs : Int)
def mdrB (a b c : Int) : Bool := decide (c ≠ 0 ∧ -9223372036854775808 ≤ mdrQ a b c ∧ mdrQ a b c ≤ 9223372036854775807)
def mdrN (a b c : Int) : Int := if mdrB a b c then mdrQ a b c else 0
/-- DivRound. -/
def dvr (a b : Int) : Int := mdrN a 1 b

/-- The bytes' products and quotients by 255. -/
def mn8 (a b : Int) : Int := (2 * (a * b) + 255) / 510
def clI (n lo hi : Int) : Int := if n < lo then lo else if hi < n then hi else n
def dn8 (n : Int) : Int := clI ((2 * n + 255) / 510) 0 255
theorem rndN_255 (p : Nat) : rndN p 255 = (2 * p + 255) / 510 := rfl
theorem dvr_pos (a : Int) (b : Int) (h0 : 0 ≤ a) (h1 : a ≤ 9223372036854775807) (hb : 0 < b) : dvr a b = ((rndN a.natAbs b.natAbs : Nat) : Int) := by
  have hr : rndN a.natAbs b.natAbs ≤ a.natAbs := by
    unfold rndN
    refine Nat.lt_succ_iff.1 ((Nat.div_lt_iff_lt_mul (by omega)).2 ?_)
    have := Nat.mul_le_mul_left (a.natAbs) (show 1 ≤ b.natAbs by omega)
    have e : (a.natAbs + 1) * (2 * b.natAbs) = 2 * (a.natAbs * b.natAbs) + 2 * b.natAbs := by rw [Nat.add_mul, Nat.mul_left_comm]; omega
    rw [e]
    omega
  have hn : mdrNeg a 1 b = false := by unfold mdrNeg; simp; omega
  have hq : mdrQ a 1 b = ((rndN a.natAbs b.natAbs : Nat) : Int) := by unfold mdrQ; rw [hn]; simp
  unfold dvr mdrN
  rw [if_pos, hq]
  unfold mdrB
  rw [hq]
  exact decide_eq_true ⟨by omega, by omega, by omega⟩
theorem mn8_ok (a b : Int) (a0 : 0 ≤ a) (a1 : a ≤ 255) (b0 : 0 ≤ b) (b1 : b ≤ 255) :
    ∃ p : Int, a * b = p ∧ 0 ≤ p ∧ p ≤ 65025 ∧ IntKind.u8.wrap (dvr p 255) = mn8 a b := by
  have h0 := Int.mul_nonneg a0 b0
  have h1 : a * b ≤ 65025 := Int.mul_le_mul a1 b1 b0 (by omega)
  refine ⟨a * b, rfl, h0, h1, ?_⟩
  rw [dvr_pos _ _ h0 (by omega) (by omega)]
  unfold mn8
  generalize a * b = p at *
  have : rndN p.natAbs (255 : Int).natAbs = (2 * p.natAbs + 255) / 510 := rfl
  rw [this, IntKind.wrap_u8]
  omega
theorem dn8_ok (n : Int) (a0 : -9223372036854775808 ≤ n) (a1 : n ≤ 9223372036854775807) :
    IntKind.u8.wrap (clI (dvr n 255) 0 255) = dn8 n := by
  unfold clI
  by_cases h : 0 ≤ n
  · rw [dvr_pos _ _ h a1 (by omega)]
    have : rndN n.natAbs (255 : Int).natAbs = (2 * n.natAbs + 255) / 510 := rfl
    rw [this, IntKind.wrap_u8]
    unfold dn8 clI
    split <;> split <;> (try split) <;> (try split) <;> omega
  · have h1 : dvr n 255 ≤ 0 := by
      unfold dvr mdrN mdrQ
      have : mdrNeg n 1 255 = true := by unfold mdrNeg; simp; omega
      rw [this]
      split <;> simp
    have h2 : -127 ≤ n → dvr n 255 = 0 := by
      intro h3
      unfold dvr mdrN mdrQ
      have : mdrNeg n 1 255 = true := by unfold mdrNeg; simp; omega
      have e : rndN (n.natAbs * (1 : Int).natAbs) (255 : Int).natAbs = (2 * (n.natAbs * 1) + 255) / 510 := rfl
      rw [this, e]
      split <;> simp
      omega
    unfold dn8 clI
    rw [IntKind.wrap_u8]
    split <;> split <;> (try split) <;> (try split) <;> omega
theorem rnd_split (p c : Nat) (hc : 0 < c) : rndN p c = if c - p % c ≤ p % c then p / c + 1 else p / c := by
  unfold rndN
  have h := Nat.div_add_mod p c
  have hm := Nat.mod_lt p hc
  generalize p / c = q at *
  generalize p % c = r at *
  subst h
  split
  · rename_i hr
    have e : 2 * (c * q + r) + c = 2 * c * (q + 1) + (2 * r - c) := by
      rw [Nat.mul_add 2, Nat.mul_add (2 * c), ← Nat.mul_assoc]; omega
    rw [e, Nat.mul_add_div (by omega), Nat.div_eq_of_lt (by omega)]
  · rename_i hr
    have e : 2 * (c * q + r) + c = 2 * c * q + (2 * r + c) := by
      rw [Nat.mul_add 2, ← Nat.mul_assoc]; omega
    rw [e, Nat.mul_add_div (by omega), Nat.div_eq_of_lt (by omega)]; omega
theorem rnd_big (h l c : Nat) (hc : 0 < c) (hh : c ≤ h) : 18446744073709551616 ≤ rndN (h * 18446744073709551616 + l) c := by
  unfold rndN
  rw [Nat.le_div_iff_mul_le (by omega)]
  have := Nat.mul_le_mul_left 18446744073709551616 hh
  have e : 18446744073709551616 * (2 * c) = 2 * (18446744073709551616 * c) := by rw [Nat.mul_left_comm]
  rw [e, Nat.mul_comm h]
  omega
theorem quo_lt (h l c : Nat) (hl : l < 18446744073709551616) (hh : h < c) : (h * 18446744073709551616 + l) / c < 18446744073709551616 := by
  rw [Nat.div_lt_iff_lt_mul (by omega), Nat.mul_comm _ c]
  have := Nat.mul_le_mul_right 18446744073709551616 (show h + 1 ≤ c from hh)
  omega
/-- The three ways through near. -/
theorem near_no (h l c : Nat) (hc : 0 < c) (hh : c ≤ h) : nearN (h * 18446744073709551616 + l) c = 0 ∧ nearB (h * 18446744073709551616 + l) c = false := by
  have := rnd_big h l c hc hh
  constructor
  · unfold nearN; rw [if_neg (by omega)]
  · unfold nearB; exact decide_eq_false (by omega)
theorem near_up (h l c q r : Nat) (hl : l < 18446744073709551616) (hh : h < c) (hq : q = (h * 18446744073709551616 + l) / c) (hr : r = (h * 18446744073709551616 + l) % c) (h2 : c - r ≤ r) :
    (nearN (h * 18446744073709551616 + l) c : Int) = IntKind.u64.wrap ((q : Int) + 1) ∧ nearB (h * 18446744073709551616 + l) c = (IntKind.u64.wrap ((q : Int) + 1) != 0) := by
  have hb := quo_lt h l c hl hh
  rw [← hq] at hb
  have e : rndN (h * 18446744073709551616 + l) c = q + 1 := by rw [rnd_split _ _ (by omega), ← hr, ← hq, if_pos h2]
  unfold nearN nearB
  rw [e]
  rcases Nat.lt_or_ge (q + 1) 18446744073709551616 with hc | hc
  · rw [if_pos hc, Dg.wrapI _ (by omega) (by omega)]
    refine ⟨by omega, ?_⟩
    rw [decide_eq_true hc]
    symm
    rw [bne_iff_ne]; omega
  · have hqe : q = 18446744073709551615 := by omega
    subst hqe
    rw [if_neg (by omega)]
    refine ⟨by rw [IntKind.wrap_u64]; rfl, by rw [IntKind.wrap_u64]; rfl⟩
theorem near_down (h l c q r : Nat) (hl : l < 18446744073709551616) (hh : h < c) (hq : q = (h * 18446744073709551616 + l) / c) (hr : r = (h * 18446744073709551616 + l) % c) (h2 : ¬ c - r ≤ r) :
    nearN (h * 18446744073709551616 + l) c = q ∧ nearB (h * 18446744073709551616 + l) c = true := by
  have hb := quo_lt h l c hl hh
  rw [← hq] at hb
  have e : rndN (h * 18446744073709551616 + l) c = q := by rw [rnd_split _ _ (by omega), ← hr, ← hq, if_neg h2]
  unfold nearN nearB
  rw [e, if_pos hb]
  exact ⟨rfl, decide_eq_true hb⟩
end Go.Proofs.Ytdodgnpjlicnoaa
