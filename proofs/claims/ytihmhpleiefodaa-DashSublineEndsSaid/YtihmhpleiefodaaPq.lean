/- Plain arithmetic for the laws of chapter 8; no program in sight. -/
import Derived.Test.YtihmhpleiefodaaPd
namespace Go.Proofs.Ytihmhpleiefodaa
section
open Go.RowKit

/-- p / c rounded to nearest, a half up. -/
def rndN (p c : Nat) : Nat := (2 * p + c) / (2 * c)
/-- What near gives. -/
def nearN (p c : Nat) : Nat := if rndN p c < 18446744073709551616 then rndN p c else 0
def nearB (p c : Nat) : Bool := decide (rndN p c < 18446744073709551616)
/-- a * b / c rounded, with its sign, before it is asked whether it fits. -/
def mdrNeg (a b c : Int) : Bool := (decide (a < 0) != decide (b < 0)) != decide (c < 0)
def mdrQ (a b c : Int) : Int :=
  if mdrNeg a b c then -(rndN (a.natAbs * b.natAbs) c.natAbs : Int) else (rndN (a.natAbs * b.natAbs) c.natAbs : Int)
def mdrB (a b c : Int) : Bool := decide (c ≠ 0 ∧ -9223372036854775808 ≤ mdrQ a b c ∧ mdrQ a b c ≤ 9223372036854775807)
def mdrN (a b c : Int) : Int := if mdrB a b c then mdrQ a b c else 0
/-- DivRound. -/
def dvr (a b : Int) : Int := mdrN a 1 b

/-- The bytes' products and quotients by 255. -/
def mn8 (a b : Int) : Int := (2 * (a * b) + 255) / 510
def clI (n lo hi : Int) : Int := if n < lo then lo else if hi < n then hi else n
def dn8 (n : Int) : Int := clI ((2 * n + 255) / 510) 0 255
theorem rndN_255 (p : Nat) : rndN p 255 = (2 * p + 255) / 510 := rfl
theorem dvr_pos (a : Int) (b : Int) (h0 : 0 ≤ a) (h1 : a ≤ 9223372036854775807) (hb : 0 < b) : dvr a b = ((rndN a.natAbs b.natAbs : Nat) : Int) := by
  have hr : rndN a.natAbs b.natAbs ≤ a.natAbs := by
    unfold rndN
    refine Nat.lt_succ_iff.1 ((Nat.div_lt_iff_lt_mul (by omega)).2 ?_)
    have := Nat.mul_le_mul_left (a.natAbs) (show 1 ≤ b.natAbs by omega)
    have e : (a.natAbs + 1) * (2 * b.natAbs) = 2 * (a.natAbs * b.natAbs) + 2 * b.natAbs := by rw [Nat.add_mul, Nat.mul_left_comm]; omega
    rw [e]
    omega
  have hn : mdrNeg a 1 b = false := by unfold mdrNeg; simp; omega
  have hq : mdrQ a 1 b = ((rndN a.natAbs b.natAbs : Nat) : Int) := by unfold mdrQ; rw [hn]; simp
  unfold dvr mdrN
  rw [if_pos, hq]
  unfold mdrB
  rw [hq]
  exact decide_eq_true ⟨by omega, by omega, by omega⟩
theorem mn8_ok (a b : Int) (a0 : 0 ≤ a) (a1 : a ≤ 255) (b0 : 0 ≤ b) (b1 : b ≤ 255) :
    ∃ p : Int, a * b = p ∧ 0 ≤ p ∧ p ≤ 65025 ∧ IntKind.u8.wrap (dvr p 255) = mn8 a b := by
  have h0 := Int.mul_nonneg a0 b0
  have h1 : a * b ≤ 65025 := Int.mul_le_mul a1 b1 b0 (by omega)
  refine ⟨a * b, rfl, h0, h1, ?_⟩
  rw [dvr_pos _ _ h0 (by omega) (by omega)]
  unfold mn8
  generalize a * b = p at *
  have : rndN p.natAbs (255 : Int).natAbs = (2 * p.natAbs + 255) / 510 := rfl
  rw [this, IntKind.wrap_u8]
  omega
theorem dn8_ok (n : Int) (a0 : -9223372036854775808 ≤ n) (a1 : n ≤ 9223372036854775807) :
    IntKind.u8.wrap (clI (dvr n 255) 0 255) = dn8 n := by
  unfold clI
  by_cases h : 0 ≤ n
  · rw [dvr_pos _ _ h a1 (by omega)]
    have : rndN n.natAbs (255 : Int).natAbs = (2 * n.natAbs + 255) / 510 := rfl
    rw [this, IntKind.wrap_u8]
    unfold dn8 clI
    split <;> split <;> (try split) <;> (try split) <;> omega
  · have h1 : dvr n 255 ≤ 0 := by
      unfold dvr mdrN mdrQ
      have : mdrNeg n 1 255 = true := by unfold mdrNeg; simp; omega
      rw [this]
      split <;> simp
    have h2 : -127 ≤ n → dvr n 255 = 0 := by
      intro h3
      unfold dvr mdrN mdrQ
      have : mdrNeg n 1 255 = true := by unfold mdrNeg; simp; omega
      have e : rndN (n.natAbs * (1 : Int).natAbs) (255 : Int).natAbs = (2 * (n.natAbs * 1) + 255) / 510 := rfl
      rw [this, e]
      split <;> simp
      omega
    unfold dn8 clI
    rw [IntKind.wrap_u8]
    split <;> split <;> (try split) <;> (try split) <;> omega
theorem rnd_split (p c : Nat) (hc : 0 < c) : rndN p c = if c - p % c ≤ p % c then p / c + 1 else p / c := by
  unfold rndN
  have h := Nat.div_add_mod p c
  have hm := Nat.mod_lt p hc
  generalize p / c = q at *
  generalize p % c = r at *
  subst h
  split
  · rename_i hr
    have e : 2 * (c * q + r) + c = 2 * c * (q + 1) + (2 * r - c) := by
      rw [Nat.mul_add 2, Nat.mul_add (2 * c), ← Nat.mul_assoc]; omega
    rw [e, Nat.mul_add_div (by omega), Nat.div_eq_of_lt (by omega)]
  · rename_i hr
    have e : 2 * (c * q + r) + c = 2 * c * q + (2 * r + c) := by
      rw [Nat.mul_add 2, ← Nat.mul_assoc]; omega
    rw [e, Nat.mul_add_div (by omega), Nat.div_eq_of_lt (by omega)]; omega
theorem rnd_big (h l c : Nat) (hc : 0 < c) (hh : c ≤ h) : 18446744073709551616 ≤ rndN (h * 18446744073709551616 + l) c := by
  unfold rndN
  rw [Nat.le_div_iff_mul_le (by omega)]
  have := Nat.mul_le_mul_left 18446744073709551616 hh
  have e : 18446744073709551616 * (2 * c) = 2 * (18446744073709551616 * c) := by rw [Nat.mul_left_comm]
  rw [e, Nat.mul_comm h]
  omega
theorem quo_lt (h l c : Nat) (hl : l < 18446744073709551616) (hh : h < c) : (h * 18446744073709551616 + l) / c < 18446744073709551616 := by
  rw [Nat.div_lt_iff_lt_mul (by omega), Nat.mul_comm _ c]
  have := Nat.mul_le_mul_right 18446744073709551616 (show h + 1 ≤ c from hh)
  omega
/-- The three ways through near. -/
theorem near_no (h l c : Nat) (hc : 0 < c) (hh : c ≤ h) : nearN (h * 18446744073709551616 + l) c = 0 ∧ nearB (h * 18446744073709551616 + l) c = false := by
  have := rnd_big h l c hc hh
  constructor
  · unfold nearN; rw [if_neg (by omega)]
  · unfold nearB; exact decide_eq_false (by omega)
theorem near_up (h l c q r : Nat) (hl : l < 18446744073709551616) (hh : h < c) (hq : q = (h * 18446744073709551616 + l) / c) (hr : r = (h * 18446744073709551616 + l) % c) (h2 : c - r ≤ r) :
    (nearN (h * 18446744073709551616 + l) c : Int) = IntKind.u64.wrap ((q : Int) + 1) ∧ nearB (h * 18446744073709551616 + l) c = (IntKind.u64.wrap ((q : Int) + 1) != 0) := by
  have hb := quo_lt h l c hl hh
  rw [← hq] at hb
  have e : rndN (h * 18446744073709551616 + l) c = q + 1 := by rw [rnd_split _ _ (by omega), ← hr, ← hq, if_pos h2]
  unfold nearN nearB
  rw [e]
  rcases Nat.lt_or_ge (q + 1) 18446744073709551616 with hc | hc
  · rw [if_pos hc, Dg.wrapI _ (by omega) (by omega)]
    refine ⟨by omega, ?_⟩
    rw [decide_eq_true hc]
    symm
    rw [bne_iff_ne]; omega
  · have hqe : q = 18446744073709551615 := by omega
    subst hqe
    rw [if_neg (by omega)]
    refine ⟨by rw [IntKind.wrap_u64]; rfl, by rw [IntKind.wrap_u64]; rfl⟩
theorem near_down (h l c q r : Nat) (hl : l < 18446744073709551616) (hh : h < c) (hq : q = (h * 18446744073709551616 + l) / c) (hr : r = (h * 18446744073709551616 + l) % c) (h2 : ¬ c - r ≤ r) :
    nearN (h * 18446744073709551616 + l) c = q ∧ nearB (h * 18446744073709551616 + l) c = true := by
  have hb := quo_lt h l c hl hh
  rw [← hq] at hb
  have e : rndN (h * 18446744073709551616 + l) c = q := by rw [rnd_split _ _ (by omega), ← hr, ← hq, if_neg h2]
  unfold nearN nearB
  rw [e, if_pos hb]
  exact ⟨rfl, decide_eq_true hb⟩
end

section
open Go.RowKit

theorem mn8_comm (a b : Int) : mn8 a b = mn8 b a := by unfold mn8; rw [Int.mul_comm a b]
theorem mn8_255 (a : Int) : mn8 a 255 = a := by unfold mn8; omega
theorem mn8_zero (a : Int) : mn8 0 a = 0 := by unfold mn8; rw [Int.zero_mul]; rfl
theorem mn8_bd (a b : Int) (a0 : 0 ≤ a) (a1 : a ≤ 255) (b0 : 0 ≤ b) (b1 : b ≤ 255) : 0 ≤ mn8 a b ∧ mn8 a b ≤ a ∧ mn8 a b ≤ b := by
  have h0 := Int.mul_nonneg a0 b0
  have h1 : a * b ≤ a * 255 := Int.mul_le_mul_of_nonneg_left b1 a0
  have h2 : a * b ≤ 255 * b := Int.mul_le_mul_of_nonneg_right a1 b0
  unfold mn8
  generalize a * b = p at *
  omega
theorem mn8_mono (a b c : Int) (a0 : 0 ≤ a) (h : b ≤ c) : mn8 a b ≤ mn8 a c := by
  have h1 : a * b ≤ a * c := Int.mul_le_mul_of_nonneg_left h a0
  unfold mn8
  generalize a * b = p at *
  generalize a * c = q at *
  omega
theorem dn8_bd (n : Int) : 0 ≤ dn8 n ∧ dn8 n ≤ 255 := by unfold dn8 clI; split <;> (try split) <;> omega
theorem dn8_mono (n m : Int) (h : n ≤ m) : dn8 n ≤ dn8 m := by
  unfold dn8 clI
  split <;> split <;> (try split) <;> (try split) <;> omega
theorem dn8_mul (a : Int) (a0 : 0 ≤ a) (a1 : a ≤ 255) : dn8 (255 * a) = a := by unfold dn8 clI; split <;> (try split) <;> omega
theorem dn8_prod (a b : Int) (a0 : 0 ≤ a) (a1 : a ≤ 255) (b0 : 0 ≤ b) (b1 : b ≤ 255) : dn8 (a * b) = mn8 a b := by
  have h0 := Int.mul_nonneg a0 b0
  have h1 : a * b ≤ 65025 := Int.mul_le_mul a1 b1 b0 (by omega)
  unfold dn8 mn8 clI
  generalize a * b = p at *
  split <;> (try split) <;> omega

/-! ## MulDivRound -/
theorem mdrNeg_comm (a b c : Int) : mdrNeg a b c = mdrNeg b a c := by unfold mdrNeg; cases decide (a < 0) <;> cases decide (b < 0) <;> rfl
theorem mdrQ_comm (a b c : Int) : mdrQ a b c = mdrQ b a c := by unfold mdrQ; rw [mdrNeg_comm, Nat.mul_comm]
theorem mdrB_comm (a b c : Int) : mdrB a b c = mdrB b a c := by unfold mdrB; rw [mdrQ_comm]
theorem mdrN_comm (a b c : Int) : mdrN a b c = mdrN b a c := by unfold mdrN; rw [mdrB_comm, mdrQ_comm]
theorem mdrN_no (a b c : Int) (h : mdrB a b c = false) : mdrN a b c = 0 := by unfold mdrN; rw [h]; rfl
theorem mdrB_zero (a b : Int) : mdrB a b 0 = false := by simp [mdrB]
theorem rndN_self (a c : Nat) (hc : 0 < c) : rndN (a * c) c = a := by
  unfold rndN
  have e : 2 * (a * c) + c = 2 * c * a + c := by rw [Nat.mul_comm a c, Nat.mul_assoc]
  rw [e, Nat.mul_add_div (by omega), Nat.div_eq_of_lt (by omega)]; rfl
theorem mdrQ_self (a c : Int) (hc : c ≠ 0) : mdrQ a c c = a := by
  unfold mdrQ
  rw [rndN_self _ _ (by omega)]
  unfold mdrNeg
  by_cases h1 : a < 0 <;> by_cases h2 : c < 0 <;> simp [h1, h2] <;> omega
theorem mdr_self (a c : Int) (hc : c ≠ 0) (a0 : -9223372036854775808 ≤ a) (a1 : a ≤ 9223372036854775807) : mdrN a c c = a ∧ mdrB a c c = true := by
  have e := mdrQ_self a c hc
  have h : mdrB a c c = true := by unfold mdrB; rw [e]; exact decide_eq_true ⟨hc, a0, a1⟩
  exact ⟨by unfold mdrN; rw [h, e]; rfl, h⟩
theorem rndN_le (p c : Nat) (hc : 0 < c) : rndN p c ≤ p := by
  unfold rndN
  refine Nat.lt_succ_iff.1 ((Nat.div_lt_iff_lt_mul (by omega)).2 ?_)
  have := Nat.mul_le_mul_left p (show 1 ≤ c by omega)
  have e : (p + 1) * (2 * c) = 2 * (p * c) + 2 * c := by rw [Nat.add_mul, Nat.mul_left_comm]; omega
  rw [e]; omega
theorem rndN_zero (c : Nat) (hc : 0 < c) : rndN 0 c = 0 := by unfold rndN; exact Nat.div_eq_of_lt (by omega)
theorem mdrQ_neg (a b c : Int) (hc : c ≠ 0) : mdrQ (-a) b c = -mdrQ a b c := by
  unfold mdrQ
  rw [Int.natAbs_neg]
  by_cases h0 : a = 0
  · subst h0
    simp [rndN_zero _ (show 0 < c.natAbs by omega)]
  · have e : mdrNeg (-a) b c = !mdrNeg a b c := by
      unfold mdrNeg
      by_cases h1 : a < 0
      · have h2 : ¬ -a < 0 := by omega
        simp only [h1, h2, decide_true, decide_false]
        cases decide (b < 0) <;> cases decide (c < 0) <;> rfl
      · have h2 : -a < 0 := by omega
        simp only [h1, h2, decide_true, decide_false]
        cases decide (b < 0) <;> cases decide (c < 0) <;> rfl
    rw [e]
    cases mdrNeg a b c <;> simp
theorem mdrQ_bd (a b c : Int) (hc : c ≠ 0) (ha : -1073741824 < a ∧ a < 1073741824) (hb : -1073741824 < b ∧ b < 1073741824) : -1152921504606846976 ≤ mdrQ a b c ∧ mdrQ a b c ≤ 1152921504606846976 := by
  have h1 := rndN_le (a.natAbs * b.natAbs) c.natAbs (by omega)
  have h2 := Nat.mul_le_mul (show a.natAbs ≤ 1073741824 by omega) (show b.natAbs ≤ 1073741824 by omega)
  unfold mdrQ
  split <;> omega
theorem mdr_odd (a b c : Int) (ha : -1073741824 < a ∧ a < 1073741824) (hb : -1073741824 < b ∧ b < 1073741824) : mdrB (-a) b c = mdrB a b c ∧ mdrN (-a) b c = -mdrN a b c := by
  by_cases hc : c = 0
  · subst hc; simp [mdrN, mdrB_zero]
  · have h1 := mdrQ_bd a b c hc ha hb
    have e := mdrQ_neg a b c hc
    have b1 : mdrB a b c = true := by unfold mdrB; exact decide_eq_true ⟨hc, by omega, by omega⟩
    have b2 : mdrB (-a) b c = true := by unfold mdrB; rw [e]; exact decide_eq_true ⟨hc, by omega, by omega⟩
    refine ⟨by rw [b1, b2], ?_⟩
    unfold mdrN
    rw [b1, b2, e]; rfl
theorem mdr_prod (a b c : Int) (h : mdrB a b c = true) : dvr (a * b) c = mdrN a b c := by
  have e : mdrQ (a * b) 1 c = mdrQ a b c := by
    unfold mdrQ
    have e1 : (a * b).natAbs * (1 : Int).natAbs = a.natAbs * b.natAbs := by rw [Int.natAbs_mul]; simp
    rw [e1]
    by_cases h0 : a = 0 ∨ b = 0
    · have hc : c ≠ 0 := by have := of_decide_eq_true h; exact this.1
      have hz : a.natAbs * b.natAbs = 0 := by rcases h0 with h0 | h0 <;> subst h0 <;> simp
      rw [hz, rndN_zero _ (by omega)]
      simp
    · have hn : decide (a * b < 0) = (decide (a < 0) != decide (b < 0)) := by
        have ha : a ≠ 0 := fun h => h0 (.inl h)
        have hb : b ≠ 0 := fun h => h0 (.inr h)
        by_cases h1 : a < 0 <;> by_cases h2 : b < 0
        · have := Int.mul_pos_of_neg_of_neg h1 h2; simp [h1, h2]; omega
        · have := Int.mul_neg_of_neg_of_pos h1 (show 0 < b by omega); simp [h1, h2]; omega
        · have := Int.mul_neg_of_pos_of_neg (show 0 < a by omega) h2; simp [h1, h2]; omega
        · have := Int.mul_pos (show 0 < a by omega) (show 0 < b by omega); simp [h1, h2]; omega
      have : mdrNeg (a * b) 1 c = mdrNeg a b c := by unfold mdrNeg; rw [hn]; simp
      rw [this]
  have hB : mdrB (a * b) 1 c = mdrB a b c := by unfold mdrB; rw [e]
  unfold dvr mdrN
  rw [hB, e]
theorem dvr_zero (a : Int) : dvr a 0 = 0 := by unfold dvr; exact mdrN_no _ _ _ (mdrB_zero _ _)
theorem dvr_Q (a b : Int) (hb : b ≠ 0) (ha : -1152921504606846976 ≤ a ∧ a ≤ 1152921504606846976) : dvr a b = mdrQ a 1 b ∧ -1152921504606846976 ≤ dvr a b ∧ dvr a b ≤ 1152921504606846976 := by
  have h1 := rndN_le (a.natAbs * (1 : Int).natAbs) b.natAbs (by omega)
  have h2 : -1152921504606846976 ≤ mdrQ a 1 b ∧ mdrQ a 1 b ≤ 1152921504606846976 := by
    unfold mdrQ
    simp at h1
    split <;> simp <;> omega
  have h3 : mdrB a 1 b = true := by unfold mdrB; exact decide_eq_true ⟨hb, by omega, by omega⟩
  have h4 : dvr a b = mdrQ a 1 b := by unfold dvr mdrN; rw [h3]; rfl
  exact ⟨h4, by omega, by omega⟩
theorem dvr_neg_left (a b : Int) (ha : -1152921504606846976 ≤ a ∧ a ≤ 1152921504606846976) : dvr (-a) b = -dvr a b := by
  by_cases hb : b = 0
  · subst hb; simp [dvr_zero]
  · rw [(dvr_Q a b hb ha).1, (dvr_Q (-a) b hb (by omega)).1, mdrQ_neg _ _ _ hb]
theorem mdrQ_neg_right (a b : Int) (hb : b ≠ 0) : mdrQ a 1 (-b) = -mdrQ a 1 b := by
  unfold mdrQ
  rw [Int.natAbs_neg]
  have e : mdrNeg a 1 (-b) = !mdrNeg a 1 b := by
    unfold mdrNeg
    by_cases h1 : b < 0
    · rw [decide_eq_true h1, decide_eq_false (show ¬ -b < 0 by omega)]
      cases decide (a < 0) <;> rfl
    · rw [decide_eq_false h1, decide_eq_true (show -b < 0 by omega)]
      cases decide (a < 0) <;> rfl
  rw [e]
  cases mdrNeg a 1 b <;> simp
theorem dvr_neg_right (a b : Int) (ha : -1152921504606846976 ≤ a ∧ a ≤ 1152921504606846976) : dvr a (-b) = -dvr a b := by
  by_cases hb : b = 0
  · subst hb; simp [dvr_zero]
  · rw [(dvr_Q a b hb ha).1, (dvr_Q a (-b) (by omega) ha).1, mdrQ_neg_right _ _ hb]
/-- The rounded quotient is off by at most half of the divisor, a tie goes away from zero. -/
theorem rndN_off (p c : Nat) (hc : 0 < c) : 2 * (rndN p c * c) ≤ 2 * p + c ∧ 2 * p < 2 * (rndN p c * c) + c := by
  have h1 := Nat.div_mul_le_self (2 * p + c) (2 * c)
  have h2 := Nat.lt_div_mul_add (a := 2 * p + c) (b := 2 * c) (by omega)
  have e : (2 * p + c) / (2 * c) * (2 * c) = 2 * (rndN p c * c) := by unfold rndN; rw [Nat.mul_left_comm]
  rw [e] at h1 h2
  omega
theorem dvr_off (a b : Int) (hb : b ≠ 0) (ha : -1152921504606846976 ≤ a ∧ a ≤ 1152921504606846976) :
    ∃ m : Int, dvr a b * b = m ∧ (2 * a ≤ 2 * m + b.natAbs ∧ 2 * m ≤ 2 * a + b.natAbs) ∧ (2 * (a - m) = b.natAbs → a < 0 ∧ a.natAbs ≤ m.natAbs) ∧ (2 * (m - a) = b.natAbs → 0 ≤ a ∧ a.natAbs ≤ m.natAbs) := by
  obtain ⟨h1, h2⟩ := rndN_off a.natAbs b.natAbs (by omega)
  refine ⟨dvr a b * b, rfl, ?_⟩
  rw [(dvr_Q a b hb ha).1]
  have e : mdrQ a 1 b * b = if a < 0 then -((rndN a.natAbs b.natAbs * b.natAbs : Nat) : Int) else ((rndN a.natAbs b.natAbs * b.natAbs : Nat) : Int) := by
    have hn : mdrNeg a 1 b = (decide (a < 0) != decide (b < 0)) := by unfold mdrNeg; cases decide (a < 0) <;> cases decide (b < 0) <;> rfl
    unfold mdrQ
    rw [show a.natAbs * (1 : Int).natAbs = a.natAbs by simp, hn, Int.natCast_mul]
    generalize rndN a.natAbs b.natAbs = r
    by_cases h3 : a < 0 <;> by_cases h4 : b < 0
    · rw [decide_eq_true h3, decide_eq_true h4, if_neg (by decide), if_pos h3, show (b.natAbs : Int) = -b by omega, Int.mul_neg, Int.neg_neg]
    · rw [decide_eq_true h3, decide_eq_false h4, if_pos (by decide), if_pos h3, show (b.natAbs : Int) = b by omega, Int.neg_mul]
    · rw [decide_eq_false h3, decide_eq_true h4, if_pos (by decide), if_neg h3, show (b.natAbs : Int) = -b by omega, Int.mul_neg, Int.neg_mul]
    · rw [decide_eq_false h3, decide_eq_false h4, if_neg (by decide), if_neg h3, show (b.natAbs : Int) = b by omega]
  rw [e]
  generalize rndN a.natAbs b.natAbs * b.natAbs = M at *
  split <;> omega
end
end Go.Proofs.Ytihmhpleiefodaa
