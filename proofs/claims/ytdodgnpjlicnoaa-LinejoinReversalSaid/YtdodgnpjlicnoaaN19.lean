/- Contracts of reference 08: MulDivRound, DivRound. -/
import Derived.Test.YtdodgnpjlicnoaaN18
import Derived.Test.YtdodgnpjlicnoaaPq
namespace Go.Proofs.Ytdodgnpjlicnoaa
open Go.RowKit
set_option linter.unusedVariables false
set_option linter.unusedSimpArgs false

theorem mdr_ref {a b c : Int} (hc : c ≠ 0) (bb : Bool) (q : Nat) (hq : (2 * (a.natAbs * b.natAbs) + c.natAbs) / (2 * c.natAbs) = q)
    (hb : ((((decide (a < 0) != decide (b < 0)) && decide (a.natAbs * b.natAbs ≠ 0)) != decide (c < 0)) && decide (q ≠ 0)) = bb) : sgz bb q = mdrQ a b c := by
  subst hb
  have e : rndN (a.natAbs * b.natAbs) c.natAbs = q := hq
  unfold mdrQ
  rw [e]
  by_cases h0 : q = 0
  · subst h0; unfold sgz; simp
  · have hp : a.natAbs * b.natAbs ≠ 0 := by
      intro h
      rw [h] at hq
      have : c.natAbs / (2 * c.natAbs) = 0 := Nat.div_eq_of_lt (by omega)
      rw [Nat.mul_zero, Nat.zero_add, this] at hq
      exact h0 hq.symm
    unfold sgz mdrNeg
    rw [decide_eq_true hp, decide_eq_true h0, Bool.and_true, Bool.and_true]
theorem mdrB_of {a b c : Int} (hc : c ≠ 0) : mdrB a b c = toB (mdrQ a b c) := by
  unfold mdrB toB; rw [Bool.eq_iff_iff, decide_eq_true_iff, decide_eq_true_iff]
  exact ⟨fun h => h.2, fun h => ⟨hc, h⟩⟩
set_option maxRecDepth 100000 in
set_option maxHeartbeats 4000000 in
theorem rmuldiv_any (a b c : Int) (w : World) (a0 : -9223372036854775808 ≤ a) (a1 : a ≤ 9223372036854775807) (b0 : -9223372036854775808 ≤ b) (b1 : b ≤ 9223372036854775807) (c0 : -9223372036854775808 ≤ c) (c1 : c ≤ 9223372036854775807) :
    Calls Try.prog 53 #[.int .i64 a, .int .i64 b, .int .i64 c] w fun e w' => e = .returned (.tuple #[.int .i64 (mdrN a b c), .bool (mdrB a b c)]) ∧ Keeps w w' := by
  have hk0 := Keeps.refl w
  by_cases hc : c = 0
  · subst hc
    rw [mdrB_zero a b, mdrN_no a b 0 (mdrB_zero a b)]
    go_enter Try.func53, Try.ntmps53
    go_wp2
    go_ret2
    exact ⟨rfl, hk0⟩
  · have la : (dig a.natAbs).length ≤ 2 := dig_length (show a.natAbs < 4294967296 ^ 2 by omega)
    have lb : (dig b.natAbs).length ≤ 2 := dig_length (show b.natAbs < 4294967296 ^ 2 by omega)
    have lc : (dig c.natAbs).length ≤ 2 := dig_length (show c.natAbs < 4294967296 ^ 2 by omega)
    have lp : (dig (a.natAbs * b.natAbs)).length ≤ 4 := dig_length (Nat.lt_of_lt_of_le (Nat.mul_lt_mul'' (show a.natAbs < 18446744073709551616 by omega) (show b.natAbs < 18446744073709551616 by omega)) (by decide))
    have lq : (dig ((2 * (a.natAbs * b.natAbs) + c.natAbs) / (2 * c.natAbs))).length ≤ 90 := by
      have hp := Nat.mul_lt_mul'' (show a.natAbs < 18446744073709551616 by omega) (show b.natAbs < 18446744073709551616 by omega)
      have := dig_length (n := (2 * (a.natAbs * b.natAbs) + c.natAbs) / (2 * c.natAbs)) (k := 5) (Nat.lt_of_le_of_lt (Nat.div_le_self _ _) (by
        have : (18446744073709551616 * 18446744073709551616 : Nat) * 4 ≤ 4294967296 ^ 5 := by decide
        omega))
      omega
    have G1 := Lib.hid (fun w' hk => (fromint_any a w' a0 a1).mono fun e w1 h => RetBI.mono (w0 := w) h hk)
    have G2 := Lib.hid (fun w' => fromint_any b w' b0 b1)
    have G3 := Lib.hid (fun w' => fromint_any c w' c0 c1)
    have G4 := Lib.hid (fun A1 c1 A2 c2 w' (h1 : Dg w' A1 (dig a.natAbs).length c1 (dig a.natAbs)) (h2 : Dg w' A2 (dig b.natAbs).length c2 (dig b.natAbs)) => mul2_any (decide (a < 0)) (decide (b < 0)) _ _ A1 A2 _ c1 _ c2 w' h1 h2 (by omega) (by omega))
    have G5 := Lib.hid (fun A3 c3 A4 c4 w' (h3 : Dg w' A3 (dig (a.natAbs * b.natAbs)).length c3 (dig (a.natAbs * b.natAbs))) (h4 : Dg w' A4 (dig c.natAbs).length c4 (dig c.natAbs)) => divround2_any ((decide (a < 0) != decide (b < 0)) && decide (a.natAbs * b.natAbs ≠ 0)) (decide (c < 0)) _ _ A3 A4 _ c3 _ c4 w' h3 h4 (by omega) (by omega) (by rw [nv_dig]; omega))
    simp only [nv_dig] at G4 G5
    have hR := mdrB_of (a := a) (b := b) hc
    obtain ⟨q, hq⟩ : ∃ q, (2 * (a.natAbs * b.natAbs) + c.natAbs) / (2 * c.natAbs) = q := ⟨_, rfl⟩
    obtain ⟨bb, hbb⟩ : ∃ bb, ((((decide (a < 0) != decide (b < 0)) && decide (a.natAbs * b.natAbs ≠ 0)) != decide (c < 0)) && decide (q ≠ 0)) = bb := ⟨_, rfl⟩
    have hS := mdr_ref hc bb q hq hbb
    rw [hq] at G5 lq
    rw [hbb] at G5
    have hN : mdrN a b c = toN (sgz bb q) := by unfold mdrN toN; rw [hR, hS]
    rw [hN, hR, ← hS]
    have G6 := Lib.hid (fun A5 c5 w' (h5 : Dg w' A5 (dig q).length c5 (dig q)) => toint_any bb _ A5 _ c5 w' h5 (by omega))
    rw [nv_dig] at G6
    generalize toN (sgz bb q) = vN at *
    generalize toB (sgz bb q) = vB at *
    have tc : (c == 0) = false := by simp [hc]
    generalize ((decide (a < 0) != decide (b < 0)) && decide (a.natAbs * b.natAbs ≠ 0)) = bM at *
    generalize decide (a < 0) = ba at *
    generalize decide (b < 0) = bq at *
    generalize decide (c < 0) = bc at *
    generalize a.natAbs * b.natAbs = p at *
    clear hq hbb hS hN hR hc la lb lc lp lq
    go_enter Try.func53, Try.ntmps53
    go_wp2_with (first | (go_at_call 51; (with_reducible refine (G1.out _ hk0).mono ?_); intro e w1 hret; obtain ⟨A1, c1', rfl, hD1, hk1, hF1⟩ := hret)       | (go_at_call 51; (with_reducible refine (G2.out _).mono ?_); intro e w2 hret; obtain ⟨A2, c2', rfl, hD2, hk2, hF2⟩ := hret; have hD12 := hD1.keep hk2; have hk2 := Keeps.trans hk1 hk2)       | (go_at_call 52; (with_reducible refine (G4.out _ _ _ _ _ hD12 hD2).mono ?_); intro e w3 hret; obtain ⟨A3, c3', rfl, hD3, hk3, hF3⟩ := hret; have hk3 := Keeps.trans hk2 hk3)       | (go_at_call 51; (with_reducible refine (G3.out _).mono ?_); intro e w4 hret; obtain ⟨A4, c4', rfl, hD4, hk4, hF4⟩ := hret; have hD34 := hD3.keep hk4; have hk4 := Keeps.trans hk3 hk4)       | (go_at_call 88; (with_reducible refine (G5.out _ _ _ _ _ hD34 hD4).mono ?_); intro e w5 hret; obtain ⟨A5, c5', rfl, hD5, hk5, hF5⟩ := hret; have hk5 := Keeps.trans hk4 hk5)       | (go_at_call 89; (with_reducible refine (G6.out _ _ _ (hD5.keep (Keeps.alloc (Keeps.refl _) _))).mono ?_); rintro e w6 ⟨rfl, hk6⟩; have hk7 := Keeps.trans (Keeps.alloc hk5 _) hk6))
    go_ret2
    exact ⟨rfl, by assumption⟩
theorem rdvr_any (a b : Int) (w : World) (a0 : -9223372036854775808 ≤ a) (a1 : a ≤ 9223372036854775807) (b0 : -9223372036854775808 ≤ b) (b1 : b ≤ 9223372036854775807) :
    Calls Try.prog 82 #[.int .i64 a, .int .i64 b] w fun e w' => e = .returned (.int .i64 (dvr a b)) ∧ Keeps w w' := by
  have G1 := Lib.hid (rmuldiv_any a 1 b w a0 a1 (by omega) (by omega) b0 b1)
  rw [show mdrN a 1 b = dvr a b from rfl] at G1
  go_enter Try.func82, Try.ntmps82
  go_wp2_with (go_at_call 53; (with_reducible refine G1.out.mono ?_); rintro e w1 ⟨rfl, hk⟩)
  go_ret
  exact ⟨rfl, by assumption⟩
end Go.Proofs.Ytdodgnpjlicnoaa
