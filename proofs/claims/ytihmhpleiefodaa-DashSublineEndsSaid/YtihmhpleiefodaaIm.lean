/- Contracts of package intmath: what each call returns and that it turns no old memory. -/
import Derived.Test.YtihmhpleiefodaaPq
import Derived.Test.YtihmhpleiefodaaDv
namespace Go.Proofs.Ytihmhpleiefodaa
open Go.RowKit

theorem ret_i64 {a b : Int} (h : a = b) : Ending.returned (.int .i64 a) = .returned (.int .i64 b) := by rw [h]
theorem ret2_i64 {a b : Int} {c d : Bool} (h : a = b) (h2 : c = d) : Ending.returned (.tuple #[.int .i64 a, .bool c]) = .returned (.tuple #[.int .i64 b, .bool d]) := by rw [h, h2]
theorem ret_u8 {a b : Int} (h : a = b) : Ending.returned (.int .u8 a) = .returned (.int .u8 b) := by rw [h]
theorem ret_u64 {a b : Int} (h : a = b) : Ending.returned (.int .u64 a) = .returned (.int .u64 b) := by rw [h]

theorem clamp_any (n lo hi : Int) (w : World) :
    Calls Try.prog 71 #[.int .i64 n, .int .i64 lo, .int .i64 hi] w fun e w' => e = .returned (.int .i64 (clI n lo hi)) ∧ w = w' := by
  have h1 : n < lo → clI n lo hi = lo := fun h => by unfold clI; rw [if_pos h]
  have h2 : ¬ n < lo → hi < n → clI n lo hi = hi := fun h k => by unfold clI; rw [if_neg h, if_pos k]
  have h3 : ¬ n < lo → ¬ hi < n → clI n lo hi = n := fun h k => by unfold clI; rw [if_neg h, if_neg k]
  have H1 := Lib.hid h1
  have H2 := Lib.hid h2
  have H3 := Lib.hid h3
  clear h1 h2 h3
  go_enter Try.func71, Try.ntmps71
  go_wp2
  all_goals go_ret
  · exact ⟨ret_i64 (H1.out (by omega)).symm, rfl⟩
  · exact ⟨ret_i64 (H2.out (by omega) (by omega)).symm, rfl⟩
  · exact ⟨ret_i64 (H3.out (by omega) (by omega)).symm, rfl⟩

theorem wrap64_id {n : Int} (h0 : -9223372036854775808 ≤ n) (h1 : n ≤ 9223372036854775807) : wrap64 n = n := by unfold wrap64; omega
/-- The residue that Mod gives. -/
def modI (a b : Int) : Int := if b < 1 then 0 else a % b
theorem modI_neg {a b : Int} (hb : 1 ≤ b) (hB : b ≤ 9223372036854775807) (h : a.tmod b < 0) : wrap64 (a.tmod b + b) = modI a b := by
  have h1 := Int.lt_tmod_of_pos a (show 0 < b by omega)
  have h2 : ¬ (0 ≤ a ∨ b ∣ a) := by
    rintro (h2 | h2)
    · have := Int.tmod_nonneg b h2; omega
    · have := Int.tmod_eq_zero_of_dvd h2; omega
  unfold modI
  rw [if_neg (by omega), Int.emod_eq_tmod, if_neg h2, wrap64_id (by omega) (by omega)]
  omega
theorem modI_pos {a b : Int} (hb : 1 ≤ b) (h : 0 ≤ a.tmod b) : a.tmod b = modI a b := by
  have h2 : 0 ≤ a ∨ b ∣ a := by
    by_cases ha : 0 ≤ a
    · exact .inl ha
    · right
      apply Int.dvd_of_tmod_eq_zero
      have h3 := Int.tmod_nonneg b (show 0 ≤ -a by omega)
      rw [Int.neg_tmod] at h3
      omega
  unfold modI
  rw [if_neg (by omega), Int.emod_eq_tmod, if_pos h2]
  simp
theorem modI_zero {a b : Int} (hb : b < 1) : 0 = modI a b := by unfold modI; rw [if_pos hb]

theorem size_any (a : Int) (w : World) (h0 : -9223372036854775808 ≤ a) (h1 : a ≤ 9223372036854775807) :
    Calls Try.prog 85 #[.int .i64 a] w fun e w' => e = .returned (.int .u64 a.natAbs) ∧ w = w' := by
  go_enter Try.func85, Try.ntmps85
  go_wp2
  all_goals go_ret
  all_goals refine ⟨ret_u64 ?_, rfl⟩
  all_goals first | omega | (simp only [IntKind.wrap_u64]; omega)

set_option maxHeartbeats 400000 in
theorem sqrt_any (n : Nat) (w : World) :
    Calls Try.prog 63 #[.int .u64 n] w fun e w' => e = .returned (.int .u64 (isq n)) ∧ w = w' := by
  go_enter Try.func63, Try.ntmps63
  go_wp2
  go_loop [3, 4] (fun r i => ∃ k s : Nat, k ≤ 32 ∧ i = .int .i64 ((k : Int) - 1) ∧ r = .int .u64 s ∧ Hid (isqF k n s = isq n) ∧ Hid (2 ^ k ∣ s) ∧ Hid (s + 2 ^ k ≤ 4294967296)) (fun _ i => (intOf i + 1).toNat)
  case atStart => exact ⟨32, 0, by omega, rfl, rfl, rfl, ⟨0, rfl⟩, by unfold Hid; omega⟩
  case round =>
    obtain ⟨k, s, hk, rfl, rfl, h1, h2, h3⟩ := hrel
    cases k with
    | zero =>
      go_wp2
      go_ret
      exact ⟨ret_u64 (by rw [← h1.out]; rfl), rfl⟩
    | succ k =>
      have e1 := or_step s k (by omega) h2.out h3.out
      have e2 := sq_step s k h3.out
      generalize hz : s + 2 ^ k = z at e1 e2
      have HZ := Lib.hid hz
      clear hz
      go_wp2
      · have hc : z * z ≤ n := by have h : (z : Int) * z ≤ n := by assumption
                                  exact Int.ofNat_le.1 (by rw [Int.natCast_mul]; exact h)
        have H := HZ.out
        go_round
        case rel => exact ⟨k, z, by omega, rfl, rfl, by rw [← H] at hc ⊢; exact isq_yes h1.out hc, by rw [← H]; exact dvd_yes h2.out, by rw [← H]; exact le_yes h3.out⟩
        case measure => simp [intOf]
      · have hc : ¬ z * z ≤ n := by have h : (n : Int) < (z : Int) * z := by assumption
                                    intro h'
                                    have := Int.ofNat_le.2 h'
                                    rw [Int.natCast_mul] at this
                                    omega
        have H := HZ.out
        go_round
        case rel => exact ⟨k, s, by omega, rfl, rfl, by rw [← H] at hc; exact isq_no h1.out hc, dvd_no h2.out, le_no h3.out⟩
        case measure => simp [intOf]

/-! ## near, signed, MulDivRound, DivRound -/
set_option maxHeartbeats 400000 in
theorem near_none (h l c : Nat) (w : World) (hc : 0 < c) (hh : c ≤ h) :
    Calls Try.prog 87 #[.agg #[.int .u64 h, .int .u64 l, .int .u64 c]] w fun e w' => e = .returned (.tuple #[.int .u64 (nearN (h * 18446744073709551616 + l) c), .bool (nearB (h * 18446744073709551616 + l) c)]) ∧ Below w.heap.size w w' := by
  obtain ⟨e1, e2⟩ := near_no h l c hc hh
  rw [e1, e2]
  clear e1 e2
  go_enter Try.func87, Try.ntmps87
  go_wp2_with fail
  go_ret2
  exact ⟨rfl, (Below.refl _ _).alloc (Nat.le_refl _) _⟩
set_option maxHeartbeats 400000 in
theorem near_some (h l c : Nat) (w : World) (hh : h < c) (hl : l < 18446744073709551616) (hc : c < 18446744073709551616) :
    Calls Try.prog 87 #[.agg #[.int .u64 h, .int .u64 l, .int .u64 c]] w fun e w' => e = .returned (.tuple #[.int .u64 (nearN (h * 18446744073709551616 + l) c), .bool (nearB (h * 18446744073709551616 + l) c)]) ∧ Below w.heap.size w w' := by
  have H1 := Lib.hid (fun q r => near_up h l c q r hl hh)
  have H2 := Lib.hid (fun q r => near_down h l c q r hl hh)
  obtain ⟨q, hq⟩ : ∃ q, Hid (q = (h * 18446744073709551616 + l) / c) := ⟨_, rfl⟩
  obtain ⟨r, hr⟩ : ∃ r, Hid (r = (h * 18446744073709551616 + l) % c) := ⟨_, rfl⟩
  have br : r < c := by rw [hr.out]; exact Nat.mod_lt _ (by omega)
  have hD := fun w => div64_any h l c w hh hl hc
  rw [← hq.out, ← hr.out] at hD
  have HD := Lib.hid hD
  clear hD
  go_enter Try.func87, Try.ntmps87
  go_wp2_with fail
  refine (HD.out _).mono ?_
  rintro e w1 ⟨rfl, hb1⟩
  have hz := hb1.size
  have c0 : w1.cell? ⟨w.heap.size, 2, none⟩ = some (.int .u64 c) := (hb1.cell (p := ⟨w.heap.size, 2, none⟩) (by simp)).trans (by simp [World.cell?_alloc_new])
  go_wp2_with fail
  · obtain ⟨f1, f2⟩ := H1.out q r hq.out hr.out (by omega)
    go_ret2
    rw [f1, f2]
    exact ⟨rfl, ((Below.refl _ _).alloc (Nat.le_refl _) _).trans (hb1.mono (by simp))⟩
  · obtain ⟨f1, f2⟩ := H2.out q r hq.out hr.out (by omega)
    go_ret2
    rw [f1, f2]
    exact ⟨rfl, ((Below.refl _ _).alloc (Nat.le_refl _) _).trans (hb1.mono (by simp))⟩
theorem near_any (h l c : Nat) (w : World) (h0 : 0 < c) (hl : l < 18446744073709551616) (hc : c < 18446744073709551616) :
    Calls Try.prog 87 #[.agg #[.int .u64 h, .int .u64 l, .int .u64 c]] w fun e w' => e = .returned (.tuple #[.int .u64 (nearN (h * 18446744073709551616 + l) c), .bool (nearB (h * 18446744073709551616 + l) c)]) ∧ Below w.heap.size w w' := by
  rcases Nat.lt_or_ge h c with hh | hh
  · exact near_some h l c w hh hl hc
  · exact near_none h l c w h0 hh

/-- What signed gives for a sign, a size and whether that fits. -/
def sgnB (neg : Bool) (n : Nat) (ok : Bool) : Bool := ok && (decide (n < 9223372036854775808) || (neg && decide (n ≤ 9223372036854775808)))
def sgnN (neg : Bool) (n : Nat) (ok : Bool) : Int := if sgnB neg n ok then (if neg then -(n : Int) else n) else 0

set_option maxHeartbeats 400000 in
theorem signed_any (neg : Bool) (h l c : Nat) (w : World) (h0 : 0 < c) (hl : l < 18446744073709551616) (hc : c < 18446744073709551616) :
    Calls Try.prog 86 #[.bool neg, .func (.func 87) #[.agg #[.int .u64 h, .int .u64 l, .int .u64 c]] #[]] w fun e w' =>
      e = .returned (.tuple #[.int .i64 (sgnN neg (nearN (h * 18446744073709551616 + l) c) (nearB (h * 18446744073709551616 + l) c)), .bool (sgnB neg (nearN (h * 18446744073709551616 + l) c) (nearB (h * 18446744073709551616 + l) c))]) ∧ Below w.heap.size w w' := by
  have HN := Lib.hid (fun w => near_any h l c w h0 hl hc)
  have bn : nearN (h * 18446744073709551616 + l) c < 18446744073709551616 := by unfold nearN; split <;> omega
  generalize nearN (h * 18446744073709551616 + l) c = n at *
  generalize nearB (h * 18446744073709551616 + l) c = ok at *
  cases ok with
  | false =>
    have e1 : sgnB neg n false = false := by simp [sgnB]
    have e2 : sgnN neg n false = 0 := by simp [sgnN, e1]
    rw [e1, e2]
    clear e1 e2
    go_enter Try.func86, Try.ntmps86
    go_wp2_with fail
    refine (HN.out _).mono ?_
    rintro e w1 ⟨rfl, hb1⟩
    go_wp2_with fail
    go_ret2
    exact ⟨rfl, hb1⟩
  | true =>
    have BN := Lib.hid bn
    by_cases h1 : 9223372036854775808 < n
    · have e1 : sgnB neg n true = false := by unfold sgnB; cases neg <;> simp <;> omega
      have e2 : sgnN neg n true = 0 := by simp [sgnN, e1]
      rw [e1, e2]
      have t1 : decide ((9223372036854775808 : Int) < (n : Int)) = true := by simp; omega
      clear e1 e2 h1 bn
      go_enter Try.func86, Try.ntmps86
      go_wp2_with fail
      refine (HN.out _).mono ?_
      rintro e w1 ⟨rfl, hb1⟩
      go_wp2_with fail
      go_ret2
      exact ⟨rfl, hb1⟩
    · have t1 : decide ((9223372036854775808 : Int) < (n : Int)) = false := by simp; omega
      by_cases h2 : n = 9223372036854775808
      · have t2 : ((n : Int) == 9223372036854775808) = true := by simp; omega
        cases neg with
        | true =>
          have e1 : sgnB true n true = true := by unfold sgnB; simp; omega
          have e2 : sgnN true n true = -(n : Int) := by simp [sgnN, e1]
          have e3 : wrap64 (IntKind.u64.wrap (-(n : Int))) = -(n : Int) := by rw [IntKind.wrap_u64]; unfold wrap64; omega
          rw [e1, e2]
          have E3 := Lib.hid e3
          clear e1 e2 h1 bn h2 e3
          go_enter Try.func86, Try.ntmps86
          go_wp2_with fail
          refine (HN.out _).mono ?_
          rintro e w1 ⟨rfl, hb1⟩
          go_wp2_with fail
          go_ret2
          exact ⟨ret2_i64 E3.out rfl, hb1⟩
        | false =>
          have e1 : sgnB false n true = false := by unfold sgnB; simp; omega
          have e2 : sgnN false n true = 0 := by simp [sgnN, e1]
          rw [e1, e2]
          clear e1 e2 h1 bn h2
          go_enter Try.func86, Try.ntmps86
          go_wp2_with fail
          refine (HN.out _).mono ?_
          rintro e w1 ⟨rfl, hb1⟩
          go_wp2_with fail
          go_ret2
          exact ⟨rfl, hb1⟩
      · have t2 : ((n : Int) == 9223372036854775808) = false := by simp; omega
        cases neg with
        | true =>
          have e1 : sgnB true n true = true := by unfold sgnB; simp; omega
          have e2 : sgnN true n true = -(n : Int) := by simp [sgnN, e1]
          have e3 : wrap64 (IntKind.u64.wrap (-(n : Int))) = -(n : Int) := by rw [IntKind.wrap_u64]; unfold wrap64; omega
          rw [e1, e2]
          have E3 := Lib.hid e3
          clear e1 e2 h1 bn h2 e3
          go_enter Try.func86, Try.ntmps86
          go_wp2_with fail
          refine (HN.out _).mono ?_
          rintro e w1 ⟨rfl, hb1⟩
          go_wp2_with fail
          go_ret2
          exact ⟨ret2_i64 E3.out rfl, hb1⟩
        | false =>
          have e1 : sgnB false n true = true := by unfold sgnB; simp; omega
          have e2 : sgnN false n true = (n : Int) := by simp [sgnN, e1]
          have e3 : wrap64 (n : Int) = (n : Int) := by unfold wrap64; omega
          rw [e1, e2]
          have E3 := Lib.hid e3
          clear e1 e2 h1 bn h2 e3
          go_enter Try.func86, Try.ntmps86
          go_wp2_with fail
          refine (HN.out _).mono ?_
          rintro e w1 ⟨rfl, hb1⟩
          go_wp2_with fail
          go_ret2
          exact ⟨ret2_i64 E3.out rfl, hb1⟩

/-- What MulDivRound gives, by its parts. -/
theorem mdr_parts (a b c : Int) (hc : c ≠ 0) :
    mdrN a b c = sgnN (mdrNeg a b c) (nearN (a.natAbs * b.natAbs) c.natAbs) (nearB (a.natAbs * b.natAbs) c.natAbs) ∧ mdrB a b c = sgnB (mdrNeg a b c) (nearN (a.natAbs * b.natAbs) c.natAbs) (nearB (a.natAbs * b.natAbs) c.natAbs) := by
  have hB : mdrB a b c = sgnB (mdrNeg a b c) (nearN (a.natAbs * b.natAbs) c.natAbs) (nearB (a.natAbs * b.natAbs) c.natAbs) := by
    unfold mdrB sgnB mdrQ nearN nearB
    generalize rndN (a.natAbs * b.natAbs) c.natAbs = q
    rw [Bool.eq_iff_iff]
    by_cases h1 : q < 18446744073709551616
    · rw [if_pos h1]
      cases mdrNeg a b c <;> simp [hc, h1] <;> omega
    · rw [if_neg h1]
      cases mdrNeg a b c <;> simp [h1] <;> omega
  refine ⟨?_, hB⟩
  unfold mdrN sgnN
  rw [← hB]
  split
  · rename_i h
    have h1 : nearB (a.natAbs * b.natAbs) c.natAbs = true := by rw [hB] at h; unfold sgnB at h; revert h; cases nearB (a.natAbs * b.natAbs) c.natAbs <;> simp
    have h2 : nearN (a.natAbs * b.natAbs) c.natAbs = rndN (a.natAbs * b.natAbs) c.natAbs := by unfold nearN; rw [if_pos (of_decide_eq_true h1)]
    rw [h2]
    unfold mdrQ
    rfl
  · rfl

theorem mul64_any (x y : Nat) (w : World) (hx : x < 18446744073709551616) (hy : y < 18446744073709551616) :
    Calls Try.prog 84 #[.int .u64 x, .int .u64 y] w fun e w' => ∃ h l : Nat, e = .returned (.tuple #[.int .u64 h, .int .u64 l]) ∧ w = w' ∧ l < 18446744073709551616 ∧ Hid (h * 18446744073709551616 + l = x * y) :=
  (Try.bits_Mul64 x y hx hy w).mono fun _ _ ⟨he, hw⟩ => ⟨_, _, he, hw.symm, Nat.mod_lt _ (by omega), Nat.div_add_mod' _ _⟩

set_option maxHeartbeats 400000 in
theorem muldiv_zero (a b : Int) (w : World) :
    Calls Try.prog 78 #[.int .i64 a, .int .i64 b, .int .i64 0] w fun e w' => e = .returned (.tuple #[.int .i64 (mdrN a b 0), .bool (mdrB a b 0)]) ∧ Below w.heap.size w w' := by
  have e1 : mdrB a b 0 = false := by simp [mdrB]
  have e2 : mdrN a b 0 = 0 := by simp [mdrN, e1]
  rw [e1, e2]
  clear e1 e2
  go_enter Try.func78, Try.ntmps78
  go_wp2_with fail
  go_ret2
  exact ⟨rfl, Below.refl _ _⟩

set_option maxHeartbeats 400000 in
theorem muldiv_some (a b c : Int) (w : World) (hc : c ≠ 0) (a0 : -9223372036854775808 ≤ a) (a1 : a ≤ 9223372036854775807) (b0 : -9223372036854775808 ≤ b) (b1 : b ≤ 9223372036854775807) (c0 : -9223372036854775808 ≤ c) (c1 : c ≤ 9223372036854775807) :
    Calls Try.prog 78 #[.int .i64 a, .int .i64 b, .int .i64 c] w fun e w' => e = .returned (.tuple #[.int .i64 (mdrN a b c), .bool (mdrB a b c)]) ∧ Below w.heap.size w w' := by
  obtain ⟨e1, e2⟩ := mdr_parts a b c hc
  have ez : (c == 0) = false := by simp [hc]
  have HA := Lib.hid (fun w => size_any a w a0 a1)
  have HB := Lib.hid (fun w => size_any b w b0 b1)
  have HC := Lib.hid (fun w => size_any c w c0 c1)
  have HM := Lib.hid (fun w => mul64_any a.natAbs b.natAbs w (by omega) (by omega))
  have HZ := Lib.hid (show 0 < c.natAbs ∧ c.natAbs < 18446744073709551616 by omega)
  have HS := Lib.hid (fun neg h l w hl => signed_any neg h l c.natAbs w (by omega) hl (by omega))
  rw [e1, e2]
  have HG : Hid ((!((!(decide (a < 0) == decide (b < 0))) == decide (c < 0))) = mdrNeg a b c) := rfl
  clear e1 e2 a0 a1 b0 b1 c0 c1 hc
  generalize a.natAbs = A at *
  generalize b.natAbs = B at *
  generalize c.natAbs = C at *
  generalize mdrNeg a b c = neg at *
  go_enter Try.func78, Try.ntmps78
  go_wp2_with fail
  refine (HA.out _).mono ?_
  rintro e w1 ⟨rfl, rfl⟩
  go_wp2_with fail
  refine (HB.out _).mono ?_
  rintro e w1 ⟨rfl, rfl⟩
  go_wp2_with fail
  refine (HM.out _).mono ?_
  rintro e w1 ⟨h, l, rfl, rfl, hl, hm⟩
  go_wp2_with fail
  refine (HC.out _).mono ?_
  rintro e w1 ⟨rfl, rfl⟩
  go_wp2_with fail
  rw [HG.out]
  refine (HS.out neg h l _ hl).mono ?_
  rintro e w1 ⟨rfl, hb1⟩
  rw [hm.out]
  go_wp2_with fail
  go_ret2
  exact ⟨rfl, ((Below.refl _ _).alloc (Nat.le_refl _) _).trans (hb1.mono (by simp))⟩
theorem muldiv_any (a b c : Int) (w : World) (a0 : -9223372036854775808 ≤ a) (a1 : a ≤ 9223372036854775807) (b0 : -9223372036854775808 ≤ b) (b1 : b ≤ 9223372036854775807) (c0 : -9223372036854775808 ≤ c) (c1 : c ≤ 9223372036854775807) :
    Calls Try.prog 78 #[.int .i64 a, .int .i64 b, .int .i64 c] w fun e w' => e = .returned (.tuple #[.int .i64 (mdrN a b c), .bool (mdrB a b c)]) ∧ Below w.heap.size w w' := by
  by_cases hc : c = 0
  · subst hc; exact muldiv_zero a b w
  · exact muldiv_some a b c w hc a0 a1 b0 b1 c0 c1

set_option maxHeartbeats 400000 in
theorem dvr_any (a b : Int) (w : World) (a0 : -9223372036854775808 ≤ a) (a1 : a ≤ 9223372036854775807) (b0 : -9223372036854775808 ≤ b) (b1 : b ≤ 9223372036854775807) :
    Calls Try.prog 73 #[.int .i64 a, .int .i64 b] w fun e w' => e = .returned (.int .i64 (dvr a b)) ∧ Below w.heap.size w w' := by
  have HM := Lib.hid (fun w => muldiv_any a 1 b w a0 a1 (by omega) (by omega) b0 b1)
  clear a0 a1 b0 b1
  go_enter Try.func73, Try.ntmps73
  go_wp2_with fail
  refine (HM.out _).mono ?_
  rintro e w1 ⟨rfl, hb1⟩
  go_wp2_with fail
  go_ret
  exact ⟨rfl, hb1⟩


end Go.Proofs.Ytihmhpleiefodaa
