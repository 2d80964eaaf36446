/- Plain arithmetic under math/bits.Div64 (Knuth's two digits): no program in sight. -/
import Derived.WalkKit
import Derived.Lib.BitFns
import Derived.Lib.ItoaNum
namespace Go.Proofs.Ytihmhpleiefodaa
section
open Go.RowKit

/-! ## The integer square root -/
def isqF : Nat → Nat → Nat → Nat
  | 0, _, s => s
  | k + 1, n, s => isqF k n (if (s + 2 ^ k) * (s + 2 ^ k) ≤ n then s + 2 ^ k else s)
def isq (n : Nat) : Nat := isqF 32 n 0

theorem isqF_spec (n : Nat) : ∀ (k s : Nat), s * s ≤ n → n < (s + 2 ^ k) * (s + 2 ^ k) →
    isqF k n s * isqF k n s ≤ n ∧ n < (isqF k n s + 1) * (isqF k n s + 1) := by
  intro k
  induction k with
  | zero => intro s h1 h2; exact ⟨h1, by simpa [isqF] using h2⟩
  | succ k ih =>
    intro s h1 h2
    simp only [isqF]
    split
    · rename_i h
      refine ih _ h ?_
      have e : s + 2 ^ k + 2 ^ k = s + 2 ^ (k + 1) := by rw [Nat.pow_succ]; omega
      rw [e]; exact h2
    · rename_i h
      exact ih _ h1 (by omega)
theorem isq_spec (n : Nat) (hn : n < 18446744073709551616) : isq n * isq n ≤ n ∧ n < (isq n + 1) * (isq n + 1) :=
  isqF_spec n 32 0 (by omega) (by simpa using hn)
theorem isq_lt (n : Nat) (hn : n < 18446744073709551616) : isq n < 4294967296 := by
  have h := (isq_spec n hn).1
  rcases Nat.lt_or_ge (isq n) 4294967296 with h1 | h1
  · exact h1
  · have := Nat.mul_le_mul h1 h1
    omega
theorem isq_unique (n s : Nat) (hn : n < 18446744073709551616) (h1 : s * s ≤ n) (h2 : n < (s + 1) * (s + 1)) : isq n = s := by
  obtain ⟨g1, g2⟩ := isq_spec n hn
  rcases Nat.lt_trichotomy (isq n) s with h | h | h
  · have := Nat.mul_le_mul (show isq n + 1 ≤ s from h) (show isq n + 1 ≤ s from h); omega
  · exact h
  · have := Nat.mul_le_mul (show s + 1 ≤ isq n from h) (show s + 1 ≤ isq n from h); omega

theorem pow_le32 {k : Nat} (h : k ≤ 31) : 2 ^ k ≤ 2147483648 := Nat.pow_le_pow_right (by omega) h
theorem wrap_u64_id (a : Nat) (h : a < 18446744073709551616) : IntKind.u64.wrap (a : Int) = (a : Int) := by rw [IntKind.wrap_u64]; omega
theorem or_step (s k : Nat) (hk : k ≤ 31) (h2 : 2 ^ (k + 1) ∣ s) (h3 : s + 2 ^ (k + 1) ≤ 4294967296) :
    bits BinOp.or IntKind.u64 (s : Int) (IntKind.u64.wrap (2 ^ k)) = ((s + 2 ^ k : Nat) : Int) := by
  have hp := pow_le32 hk
  have e : (2 : Int) ^ k = ((2 ^ k : Nat) : Int) := by simp
  rw [e, wrap_u64_id _ (by omega), bits_or_u64_nat s (2 ^ k) (by omega) (by omega)]
  obtain ⟨a, rfl⟩ := h2
  rw [← Nat.two_pow_add_eq_or_of_lt (i := k + 1) (b := 2 ^ k) (by rw [Nat.pow_succ]; have := Nat.two_pow_pos k; omega) a]
theorem add_step (s k : Nat) (hk : k ≤ 31) (h3 : s + 2 ^ (k + 1) ≤ 4294967296) :
    IntKind.u64.wrap ((s : Int) + IntKind.u64.wrap (2 ^ k)) = ((s + 2 ^ k : Nat) : Int) := by
  have hp := pow_le32 hk
  have e : (2 : Int) ^ k = ((2 ^ k : Nat) : Int) := by simp
  have hq : s + 2 ^ k < 18446744073709551616 := by rw [Nat.pow_succ] at h3; omega
  rw [e, wrap_u64_id (2 ^ k) (by omega), ← Int.natCast_add, wrap_u64_id _ hq]
theorem sq_step (s k : Nat) (h3 : s + 2 ^ (k + 1) ≤ 4294967296) :
    IntKind.u64.wrap (((s + 2 ^ k : Nat) : Int) * ((s + 2 ^ k : Nat) : Int)) = (((s + 2 ^ k) * (s + 2 ^ k) : Nat) : Int) := by
  have hp := Nat.two_pow_pos k
  have e : s + 2 ^ k ≤ 4294967295 := by rw [Nat.pow_succ] at h3; omega
  have := Nat.mul_le_mul e e
  rw [← Int.natCast_mul, wrap_u64_id _ (by omega)]
theorem isq_yes {n s k : Nat} (h1 : isqF (k + 1) n s = isq n) (h : (s + 2 ^ k) * (s + 2 ^ k) ≤ n) : isqF k n (s + 2 ^ k) = isq n := by
  rw [← h1]; simp only [isqF]; rw [if_pos h]
theorem isq_no {n s k : Nat} (h1 : isqF (k + 1) n s = isq n) (h : ¬ (s + 2 ^ k) * (s + 2 ^ k) ≤ n) : isqF k n s = isq n := by
  rw [← h1]; simp only [isqF]; rw [if_neg h]
theorem dvd_yes {s k : Nat} (h2 : 2 ^ (k + 1) ∣ s) : 2 ^ k ∣ s + 2 ^ k := by
  obtain ⟨a, rfl⟩ := h2
  exact ⟨2 * a + 1, by rw [Nat.pow_succ, Nat.mul_add, Nat.mul_assoc, Nat.mul_one]⟩
theorem dvd_no {s k : Nat} (h2 : 2 ^ (k + 1) ∣ s) : 2 ^ k ∣ s := Nat.dvd_trans ⟨2, Nat.pow_succ ..⟩ h2
theorem le_yes {s k : Nat} (h : s + 2 ^ (k + 1) ≤ 4294967296) : s + 2 ^ k + 2 ^ k ≤ 4294967296 := by rw [Nat.pow_succ] at h; omega
theorem le_no {s k : Nat} (h : s + 2 ^ (k + 1) ≤ 4294967296) : s + 2 ^ k ≤ 4294967296 := by rw [Nat.pow_succ] at h; have := Nat.two_pow_pos k; omega
end

section
open Go.RowKit

theorem wrap_mod' (a : Nat) : IntKind.u64.wrap (a : Int) = ((a % 18446744073709551616 : Nat) : Int) := by rw [IntKind.wrap_u64]; omega
namespace Dg
variable {U u Y q r : Nat}
/-- The digit: (U * 2^32 + u) / Y. -/
def qt (U u Y : Nat) : Nat := (U * 4294967296 + u) / Y
def rt (U u Y : Nat) : Nat := (U * 4294967296 + u) % Y
theorem split (q Y : Nat) : q * Y = 4294967296 * (q * (Y / 4294967296)) + q * (Y % 4294967296) := by
  have h : Y = 4294967296 * (Y / 4294967296) + Y % 4294967296 := (Nat.div_add_mod Y 4294967296).symm
  conv => lhs; rw [h]
  rw [Nat.mul_add, Nat.mul_left_comm]
theorem qt_lt (hU : U < Y) (hu : u < 4294967296) : qt U u Y < 4294967296 := by
  unfold qt
  rw [Nat.div_lt_iff_lt_mul (by omega)]
  have := Nat.mul_le_mul_left 4294967296 (show U + 1 ≤ Y from hU)
  omega
theorem le_qt (hY : 0 < Y) (h : q * Y ≤ U * 4294967296 + u) : q ≤ qt U u Y := by
  unfold qt; rw [Nat.le_div_iff_mul_le hY]; exact h
theorem qt_le (hY : 0 < Y) (h : U * 4294967296 + u < (q + 1) * Y) : qt U u Y ≤ q := by
  unfold qt; exact Nat.lt_succ_iff.1 ((Nat.div_lt_iff_lt_mul hY).2 h)
theorem start_le (hU : U < Y) (hY : 9223372036854775808 ≤ Y) : U / (Y / 4294967296) ≤ 4294967297 := by
  refine Nat.lt_succ_iff.1 ((Nat.div_lt_iff_lt_mul (by omega)).2 ?_)
  have h := Nat.div_add_mod Y 4294967296
  have hm := Nat.mod_lt Y (show 4294967296 > 0 by omega)
  omega
theorem start_qt (hY : 9223372036854775808 ≤ Y) (hu : u < 4294967296) : qt U u Y ≤ U / (Y / 4294967296) := by
  refine qt_le (by omega) ?_
  have hd := Nat.div_add_mod U (Y / 4294967296)
  have hm := Nat.mod_lt U (show Y / 4294967296 > 0 by omega)
  have h := Nat.div_add_mod Y 4294967296
  have e1 : (U / (Y / 4294967296) + 1) * (Y / 4294967296) = Y / 4294967296 * (U / (Y / 4294967296)) + Y / 4294967296 := by rw [Nat.add_mul, Nat.mul_comm]; omega
  rw [split (U / (Y / 4294967296) + 1) Y, e1]
  omega
theorem start_eq (U Yh : Nat) : U / Yh * Yh + U % Yh = U := Nat.div_add_mod' U Yh
theorem step (hY : 9223372036854775808 ≤ Y) (hU : U < Y) (hu : u < 4294967296) (e : q * (Y / 4294967296) + r = U)
    (h : 4294967296 ≤ q ∨ 4294967296 * r + u < q * (Y % 4294967296)) : 1 ≤ q ∧ qt U u Y ≤ q - 1 ∧ (q - 1) * (Y / 4294967296) + (r + Y / 4294967296) = U := by
  have hq : 1 ≤ q := by
    rcases h with h | h
    · omega
    · rcases Nat.eq_zero_or_pos q with h0 | h0
      · rw [h0] at h; omega
      · exact h0
  obtain ⟨k, rfl⟩ : ∃ k, q = k + 1 := ⟨q - 1, by omega⟩
  refine ⟨hq, qt_le (by omega) ?_, ?_⟩
  · rw [Nat.add_sub_cancel]
    have hs := split (k + 1) Y
    rcases h with h | h
    · have h1 := Nat.mul_le_mul h (show U + 1 ≤ Y from hU)
      omega
    · omega
  · rw [Nat.add_sub_cancel]
    rw [Nat.add_mul] at e
    omega
theorem stop (hY : 9223372036854775808 ≤ Y) (e : q * (Y / 4294967296) + r = U) (h : q * (Y % 4294967296) ≤ 4294967296 * r + u) : q ≤ qt U u Y := by
  refine le_qt (by omega) ?_
  have hs := split q Y
  omega
theorem break_ (hY : 9223372036854775808 ≤ Y) (e : q * (Y / 4294967296) + r = U) (hr : 4294967296 ≤ r) (hq : q ≤ 4294967296) : q ≤ qt U u Y := by
  refine le_qt (by omega) ?_
  have hs := split q Y
  have := Nat.mul_le_mul hq (show Y % 4294967296 ≤ 4294967295 by omega)
  omega
theorem prod_lt (hq : q < 4294967296) : q * (Y % 4294967296) < 18446744073709551616 := by
  have := Nat.mul_le_mul (show q ≤ 4294967295 by omega) (show Y % 4294967296 ≤ 4294967295 by omega)
  omega
theorem rt_eq : U * 4294967296 + u = qt U u Y * Y + rt U u Y := (Nat.div_add_mod' _ _).symm
theorem rt_lt (hY : 0 < Y) : rt U u Y < Y := Nat.mod_lt _ hY

theorem two_gen (K U a b p p2 R1 R : Nat) (h1 : U * K + a = p + R1) (h2 : R1 * K + b = p2 + R) :
    U * (K * K) + (K * a + b) = K * p + p2 + R := by
  have e : U * (K * K) + (K * a + b) = K * (U * K + a) + b := by rw [Nat.mul_add, Nat.mul_comm K (U * K), Nat.mul_assoc U K K, Nat.add_assoc]
  rw [e, h1, Nat.mul_add, Nat.add_assoc, Nat.mul_comm K R1, h2, Nat.add_assoc]
theorem two_eq (U L p p2 R1 R : Nat) (h1 : U * 4294967296 + L / 4294967296 = p + R1) (h2 : R1 * 4294967296 + L % 4294967296 = p2 + R) :
    U * 18446744073709551616 + L = 4294967296 * p + p2 + R := by
  have h := two_gen 4294967296 U _ _ p p2 R1 R h1 h2
  rw [Nat.div_add_mod] at h
  exact h
/-- Both digits together. -/
theorem both (U L Y : Nat) (hY : 0 < Y) : (U * 18446744073709551616 + L) / Y = qt U (L / 4294967296) Y * 4294967296 + qt (rt U (L / 4294967296) Y) (L % 4294967296) Y ∧
    (U * 18446744073709551616 + L) % Y = rt (rt U (L / 4294967296) Y) (L % 4294967296) Y := by
  have h1 := rt_eq (U := U) (u := L / 4294967296) (Y := Y)
  have h2 := rt_eq (U := rt U (L / 4294967296) Y) (u := L % 4294967296) (Y := Y)
  have h3 := rt_lt (U := rt U (L / 4294967296) Y) (u := L % 4294967296) hY
  generalize rt (rt U (L / 4294967296) Y) (L % 4294967296) Y = R at *
  generalize qt (rt U (L / 4294967296) Y) (L % 4294967296) Y = b at *
  generalize rt U (L / 4294967296) Y = R1 at *
  generalize qt U (L / 4294967296) Y = a at *
  have hN : U * 18446744073709551616 + L = (a * 4294967296 + b) * Y + R := by
    have e : (a * 4294967296 + b) * Y = 4294967296 * (a * Y) + b * Y := by rw [Nat.add_mul, Nat.mul_right_comm, Nat.mul_comm _ 4294967296]
    rw [e]
    exact two_eq U L (a * Y) (b * Y) R1 R h1 h2
  rw [hN]
  constructor
  · rw [Nat.mul_comm, Nat.mul_add_div hY, Nat.div_eq_of_lt h3, Nat.add_zero]
  · rw [Nat.mul_comm, Nat.mul_add_mod, Nat.mod_eq_of_lt h3]
theorem shifted_eq (hi lo P K c r : Nat) (h : K * c + r = lo * P) : (hi * P + c) * K + r = (hi * K + lo) * P := by
  rw [Nat.add_mul, Nat.add_mul, ← h, Nat.mul_right_comm hi P, Nat.mul_comm c K, Nat.add_assoc]
/-- The normalizing shift turns nothing. -/
theorem shifted (hi lo y s : Nat) (hs : s ≤ 63) (hl : lo < 18446744073709551616) (hh : hi < y) :
    (hi * 2 ^ s + lo / 2 ^ (64 - s)) * 18446744073709551616 + lo * 2 ^ s % 18446744073709551616 = (hi * 18446744073709551616 + lo) * 2 ^ s ∧
    hi * 2 ^ s + lo / 2 ^ (64 - s) < y * 2 ^ s ∧ lo / 2 ^ (64 - s) < 2 ^ s := by
  have e : 2 ^ s * 2 ^ (64 - s) = 18446744073709551616 := by rw [← Nat.pow_add, show s + (64 - s) = 64 by omega]
  have hb : lo / 2 ^ (64 - s) < 2 ^ s := by
    rw [Nat.div_lt_iff_lt_mul (Nat.two_pow_pos _), e]; exact hl
  have hc : lo * 2 ^ s / 18446744073709551616 = lo / 2 ^ (64 - s) := by
    rw [← e, Nat.mul_comm lo, Nat.mul_div_mul_left _ _ (Nat.two_pow_pos _)]
  refine ⟨?_, ?_, hb⟩
  · have := Nat.div_add_mod (lo * 2 ^ s) 18446744073709551616
    rw [hc] at this
    exact shifted_eq hi lo (2 ^ s) 18446744073709551616 (lo / 2 ^ (64 - s)) _ this
  · have := Nat.mul_le_mul_right (2 ^ s) (show hi + 1 ≤ y from hh)
    rw [Nat.add_mul] at this
    omega
theorem whole (hi lo y s U L : Nat) (h : U * 18446744073709551616 + L = (hi * 18446744073709551616 + lo) * 2 ^ s) :
    (U * 18446744073709551616 + L) / (y * 2 ^ s) = (hi * 18446744073709551616 + lo) / y ∧ (U * 18446744073709551616 + L) % (y * 2 ^ s) / 2 ^ s = (hi * 18446744073709551616 + lo) % y := by
  rw [h]
  constructor
  · rw [Nat.mul_div_mul_right _ _ (Nat.two_pow_pos s)]
  · rw [Nat.mul_mod_mul_right, Nat.mul_div_cancel _ (Nat.two_pow_pos s)]
/-- One round of the loop, as the walk needs it: what the tests say and what the slots then hold. -/
def Inv (U u Y q r : Nat) : Prop := q ≤ 4294967297 ∧ r < 4294967296 ∧ q * (Y / 4294967296) + r = U ∧ qt U u Y ≤ q
theorem inv_start (hY : 9223372036854775808 ≤ Y) (hY2 : Y < 18446744073709551616) (hU : U < Y) (hu : u < 4294967296) : Inv U u Y (U / (Y / 4294967296)) (U % (Y / 4294967296)) :=
  ⟨start_le hU hY, Nat.lt_of_lt_of_le (Nat.mod_lt U (by omega)) (by omega), start_eq _ _, start_qt hY hu⟩
theorem wrapI (a : Int) (h0 : 0 ≤ a) (h1 : a < 18446744073709551616) : IntKind.u64.wrap a = a := by rw [IntKind.wrap_u64]; omega
theorem round (hY : 9223372036854775808 ≤ Y) (hY2 : Y < 18446744073709551616) (hU : U < Y) (hu : u < 4294967296) (h : Inv U u Y q r) :
    ∃ m v q' r' : Nat, IntKind.u64.wrap ((q : Int) - 1) = (if q = 0 then 18446744073709551615 else (q' : Int)) ∧ IntKind.u64.wrap ((r : Int) + ((Y / 4294967296 : Nat) : Int)) = (r' : Int) ∧
      IntKind.u64.wrap ((q : Int) * ((Y % 4294967296 : Nat) : Int)) = (m : Int) ∧ IntKind.u64.wrap (IntKind.u64.wrap (4294967296 * (r : Int)) + (u : Int)) = (v : Int) ∧
      ((4294967296 ≤ q ∨ v < m) → 0 < q ∧ q' < q ∧ (4294967296 ≤ r' → q' = qt U u Y) ∧ (r' < 4294967296 → Inv U u Y q' r')) ∧
      (q < 4294967296 → m ≤ v → q = qt U u Y) := by
  obtain ⟨b1, b2, b3, b4⟩ := h
  have hm : IntKind.u64.wrap ((q : Int) * ((Y % 4294967296 : Nat) : Int)) = (((q * (Y % 4294967296)) % 18446744073709551616 : Nat) : Int) := by
    rw [← Int.natCast_mul, wrap_mod']
  have hv : IntKind.u64.wrap (IntKind.u64.wrap (4294967296 * (r : Int)) + (u : Int)) = ((4294967296 * r + u : Nat) : Int) := by
    rw [wrapI (4294967296 * (r : Int)) (by omega) (by omega), wrapI _ (by omega) (by omega)]; omega
  refine ⟨_, _, q - 1, r + Y / 4294967296, ?_, ?_, hm, hv, fun hc => ?_, fun hc hd => ?_⟩
  · split
    · rename_i h0; rw [h0, IntKind.wrap_u64]; decide
    · rw [wrapI _ (by omega) (by omega)]; omega
  · rw [wrapI _ (by omega) (by omega)]; omega
  · have hs : 4294967296 ≤ q ∨ 4294967296 * r + u < q * (Y % 4294967296) := by
      rcases hc with hc | hc
      · exact .inl hc
      · rcases Nat.lt_or_ge q 4294967296 with hq | hq
        · have := prod_lt (Y := Y) hq
          rw [Nat.mod_eq_of_lt this] at hc
          exact .inr hc
        · exact .inl hq
    obtain ⟨s1, s2, s3⟩ := step hY hU hu b3 hs
    refine ⟨s1, by omega, fun hr => ?_, fun hr => ⟨by omega, hr, s3, s2⟩⟩
    have := break_ (u := u) hY s3 hr (by omega)
    omega
  · have := prod_lt (Y := Y) hc
    rw [Nat.mod_eq_of_lt this] at hd
    have := stop hY b3 hd
    omega
theorem quot_eq (a b : Nat) (ha : a < 4294967296) (hb : b < 4294967296) : IntKind.u64.wrap (IntKind.u64.wrap ((a : Int) * 4294967296) + (b : Int)) = ((a * 4294967296 + b : Nat) : Int) := by
  rw [wrapI ((a : Int) * 4294967296) (by omega) (by omega), wrapI _ (by omega) (by omega)]; omega
theorem mod_sub (a p R : Int) (h : a = p + R) (h0 : 0 ≤ R) (h1 : R < 18446744073709551616) : IntKind.u64.wrap (a - p) = R := by
  rw [h, wrapI _ (by omega) (by omega)]; omega
theorem wrap_wrap_sub (a b : Int) : IntKind.u64.wrap (IntKind.u64.wrap a - IntKind.u64.wrap b) = IntKind.u64.wrap (a - b) := by
  simp only [IntKind.wrap_u64, Int.emod_sub_emod, Int.sub_emod_emod]
theorem wrap_wrap_add (a b : Int) : IntKind.u64.wrap (IntKind.u64.wrap a + b) = IntKind.u64.wrap (a + b) := by
  simp only [IntKind.wrap_u64, Int.emod_add_emod]
theorem rest_eq (hY : 0 < Y) (hY2 : Y < 18446744073709551616) :
    IntKind.u64.wrap (IntKind.u64.wrap (IntKind.u64.wrap ((U : Int) * 4294967296) + (u : Int)) - IntKind.u64.wrap ((qt U u Y : Int) * (Y : Int))) = (rt U u Y : Int) := by
  have hl := rt_lt (U := U) (u := u) hY
  rw [wrap_wrap_add, wrap_wrap_sub]
  refine mod_sub _ _ _ ?_ (by omega) (by omega)
  have h := rt_eq (U := U) (u := u) (Y := Y)
  have h' : ((U * 4294967296 + u : Nat) : Int) = ((qt U u Y * Y + rt U u Y : Nat) : Int) := by rw [← h]
  simpa using h'
theorem fin (hi lo y s L Lh L0 Q R Q2 : Nat) (hY : 0 < Y) (hY2 : Y < 18446744073709551616) (hU : U < Y) (hL : L < 18446744073709551616)
    (h1 : Y = y * 2 ^ s ∧ U * 18446744073709551616 + L = (hi * 18446744073709551616 + lo) * 2 ^ s) (h2 : Lh = L / 4294967296) (h3 : L0 = L % 4294967296)
    (h4 : Q = qt U Lh Y) (h5 : R = rt U Lh Y) (h6 : Q2 = qt R L0 Y) :
    IntKind.u64.wrap (IntKind.u64.wrap ((Q : Int) * 4294967296) + (Q2 : Int)) = (((hi * 18446744073709551616 + lo) / y : Nat) : Int) ∧
    IntKind.u64.wrap (IntKind.u64.wrap (IntKind.u64.wrap ((R : Int) * 4294967296) + (L0 : Int)) - IntKind.u64.wrap ((Q2 : Int) * (Y : Int))) / 2 ^ s = (((hi * 18446744073709551616 + lo) % y : Nat) : Int) := by
  obtain ⟨h1, h1'⟩ := h1
  have hR : R < Y := by rw [h5]; exact rt_lt hY
  have b1 : Q < 4294967296 := by rw [h4]; exact qt_lt hU (by omega)
  have b2 : Q2 < 4294967296 := by rw [h6]; exact qt_lt hR (by omega)
  obtain ⟨c1, c2⟩ := both U L Y hY
  obtain ⟨d1, d2⟩ := whole hi lo y s U L h1'
  rw [← h1, c1, ← h2, ← h4, ← h5, ← h3, ← h6] at d1
  rw [← h1, c2, ← h2, ← h5, ← h3] at d2
  constructor
  · rw [quot_eq _ _ b1 b2, d1]
  · rw [h6, rest_eq hY hY2, ← d2]
    have e : (2 : Int) ^ s = ((2 ^ s : Nat) : Int) := by simp
    rw [e]
    simp
end Dg

theorem or_add_u64 (a b s : Nat) (hs : s ≤ 63) (ha : a * 2 ^ s < 18446744073709551616) (hb : b < 2 ^ s) :
    bits BinOp.or IntKind.u64 ((a * 2 ^ s : Nat) : Int) (b : Int) = ((a * 2 ^ s + b : Nat) : Int) := by
  have h2 : 2 ^ s ≤ 2 ^ 63 := Nat.pow_le_pow_right (by omega) hs
  rw [bits_or_u64_nat _ _ ha (by omega), Nat.mul_comm a, ← Nat.two_pow_add_eq_or_of_lt hb]
theorem and_mask32 (a : Nat) (ha : a < 18446744073709551616) : bits .and .u64 (a : Int) 4294967295 = ((a % 4294967296 : Nat) : Int) := by
  have h := bits_and_u64_nat a 4294967295 ha (by omega)
  have e : a &&& 4294967295 = a % 4294967296 := Nat.and_two_pow_sub_one_eq_mod a 32
  rw [e] at h
  exact h
theorem wrap_u64_mod (a : Nat) : IntKind.u64.wrap (a : Int) = ((a % 18446744073709551616 : Nat) : Int) := by rw [IntKind.wrap_u64]; omega
/-- The shift that normalizes y. -/
theorem lz_ok (y : Nat) (h0 : 0 < y) (h1 : y < 18446744073709551616) : Lib.bitLen y ≤ 64 ∧ 1 ≤ Lib.bitLen y ∧
    9223372036854775808 ≤ y * 2 ^ (64 - Lib.bitLen y) ∧ y * 2 ^ (64 - Lib.bitLen y) < 18446744073709551616 := by
  have hle := Lib.bitLen_le y 64 (by omega) h1
  obtain ⟨b1, b2, b3⟩ := Lib.bitLenAux_bounds 64 y h1 (by omega)
  change 1 ≤ Lib.bitLen y at b1
  change 2 ^ (Lib.bitLen y - 1) ≤ y at b2
  change y < 2 ^ Lib.bitLen y at b3
  generalize Lib.bitLen y = n at *
  have e1 : 2 ^ (n - 1) * 2 ^ (64 - n) = 9223372036854775808 := by rw [← Nat.pow_add, show n - 1 + (64 - n) = 63 by omega]
  have e2 : 2 ^ n * 2 ^ (64 - n) = 18446744073709551616 := by rw [← Nat.pow_add, show n + (64 - n) = 64 by omega]
  refine ⟨hle, b1, ?_, ?_⟩
  · rw [← e1]; exact Nat.mul_le_mul_right _ b2
  · rw [← e2]; exact Nat.mul_lt_mul_of_pos_right b3 (Nat.two_pow_pos _)
end
end Go.Proofs.Ytihmhpleiefodaa
