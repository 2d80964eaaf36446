/- IntmathRounding of grisaillelaw08 returns true for all its arguments: every uint64 n and every two ints; no condition. -/
import Derived.Test.YtafcchemcbjocaaPq
import Derived.Test.YtafcchemcbjocaaOp
import Derived.Test.YtafcchemcbjocaaE8
namespace Go.Proofs.Ytafcchemcbjocaa.intmathRounding
open Go.RowKit Go.ChangeShapes Go.WideShapes Go.ChangeAt
set_option linter.unusedVariables false

theorem rem60 (a : Int) : ∃ x, (∀ [Inhabited Nat], a.tmod 1152921504606846976 = x) ∧ -1152921504606846976 < x ∧ x < 1152921504606846976 := by
  have h1 := Int.lt_tmod_of_pos a (show (0 : Int) < 1152921504606846976 by omega)
  have h2 := Int.tmod_lt_of_pos a (show (0 : Int) < 1152921504606846976 by omega)
  exact ⟨_, rfl, h1, h2⟩

set_option maxRecDepth 100000 in
set_option maxHeartbeats 1000000 in
theorem walk (n : Nat) (a b : Int) (w : World) (n0 : n < 18446744073709551616) (a0 : -9223372036854775808 ≤ a) (a1 : a ≤ 9223372036854775807) (b0 : -9223372036854775808 ≤ b) (b1 : b ≤ 9223372036854775807) :
    Calls Try.prog 5 #[.int .u64 n, .int .i64 a, .int .i64 b] w fun e w' => e = .returned (.bool true) ∧ Below w.heap.size w w' := by
  have hk0 := Keeps.refl w
  obtain ⟨q1, q2⟩ := isq_spec n n0
  have q3 := isq_lt n n0
  obtain ⟨s, es⟩ : ∃ s, isq n = s := ⟨_, rfl⟩
  rw [es] at q1 q2 q3
  obtain ⟨m1, em1⟩ : ∃ m1 : Nat, IntKind.u64.wrap ((s : Int) * (s : Int)) = (m1 : Int) ∧ m1 ≤ n := ⟨s * s, by rw [← Int.natCast_mul, wrap_u64_id _ (by omega)], q1⟩
  obtain ⟨em1, g1⟩ := em1
  have t1 : decide ((4294967295 : Int) < (s : Int)) = false := by simp; omega
  have t2 : decide (n < m1) = false := decide_eq_false (by omega)
  have SQ : Hid (s < 4294967295 → ∃ m2 : Nat, IntKind.u64.wrap ((s : Int) + 1) = (s : Int) + 1 ∧ IntKind.u64.wrap (((s : Int) + 1) * ((s : Int) + 1)) = (m2 : Int) ∧ n < m2) := by
    intro h
    refine ⟨(s + 1) * (s + 1), Dg.wrapI _ (by omega) (by omega), ?_, q2⟩
    have := Nat.mul_le_mul (show s + 1 ≤ 4294967295 by omega) (show s + 1 ≤ 4294967295 by omega)
    have e : ((s : Int) + 1) * ((s : Int) + 1) = (((s + 1) * (s + 1) : Nat) : Int) := by simp
    rw [e, wrap_u64_id _ (by omega)]
  clear q1 q2
  obtain ⟨x, ex, x0, x1⟩ : ∃ x, (∀ [Inhabited Nat], a.tmod 1152921504606846976 = x) ∧ -1152921504606846976 < x ∧ x < 1152921504606846976 := rem60 a
  obtain ⟨y, ey, y0, y1⟩ : ∃ y, (∀ [Inhabited Nat], b.tmod 1152921504606846976 = y) ∧ -1152921504606846976 < y ∧ y < 1152921504606846976 := rem60 b
  have S4 : Hid (∃ v : Bool, decide ((s : Int) < 4294967295) = v ∧ (v = true → s < 4294967295)) := ⟨_, rfl, fun h => by have := of_decide_eq_true h; omega⟩
  have HS := Lib.hid q3
  clear q3
  obtain ⟨v, ev, hv⟩ := S4.out
  have HV := Lib.hid hv
  clear hv n0 a0 a1 b0 b1
  by_cases hy : y = 0
  · subst hy
    have hq := dvr_zero x
    cases v
    · go_enter Try.func5, Try.ntmps5
      go_wp2_with (first | (go_at_call 9; refine (keep (muldiv_any _ _ _ _ (by omega) (by omega) (by omega) (by omega) (by omega) (by omega)) (by first | assumption | exact Keeps.drewN (by assumption) _ | exact Keeps.alloc (by assumption) _ | exact Keeps.drewN (Keeps.alloc (by assumption) _) _)).mono ?_; rintro e w1 ⟨rfl, hk⟩) | (go_at_call 13; refine (keep (dvr_any _ _ _ (by omega) (by omega) (by omega) (by omega)) (by first | assumption | exact Keeps.drewN (by assumption) _ | exact Keeps.alloc (by assumption) _ | exact Keeps.drewN (Keeps.alloc (by assumption) _) _)).mono ?_; rintro e w1 ⟨rfl, hk⟩) | (go_at_call 16; refine (keep (mulnorm_any _ _ _ (by omega) (by omega) (by omega) (by omega)) (by first | assumption | exact Keeps.drewN (by assumption) _ | exact Keeps.alloc (by assumption) _ | exact Keeps.drewN (Keeps.alloc (by assumption) _) _)).mono ?_; rintro e w1 ⟨rfl, hk⟩) | (go_at_call 18; refine (keep (divnorm_any _ _ (by omega) (by omega)) (by first | assumption | exact Keeps.drewN (by assumption) _ | exact Keeps.alloc (by assumption) _ | exact Keeps.drewN (Keeps.alloc (by assumption) _) _)).mono ?_; rintro e w1 ⟨rfl, hk⟩) | (go_at_call 11; refine (sqrt_any _ _).mono ?_; rintro e w1 ⟨rfl, rfl⟩) | (go_at_call 22; refine (mod_any _ _ _ (by omega)).mono ?_; rintro e w1 ⟨rfl, rfl⟩) | (go_at_call 20; refine (clamp_any _ _ _ _).mono ?_; rintro e w1 ⟨rfl, rfl⟩) | (go_at_call 15; refine (example8 _ _ (by first | assumption | exact Keeps.drewN (by assumption) _ | exact Keeps.alloc (by assumption) _ | exact Keeps.drewN (Keeps.alloc (by assumption) _) _)).mono ?_; rintro e w1 ⟨rfl, hk⟩))
      go_ret
      exact ⟨rfl, by assumption⟩
    · obtain ⟨m2, f1, f2, f3⟩ := SQ.out (HV.out rfl)
      have t3 : decide (m2 ≤ n) = false := decide_eq_false (by omega)
      go_enter Try.func5, Try.ntmps5
      go_wp2_with (first | (go_at_call 9; refine (keep (muldiv_any _ _ _ _ (by omega) (by omega) (by omega) (by omega) (by omega) (by omega)) (by first | assumption | exact Keeps.drewN (by assumption) _ | exact Keeps.alloc (by assumption) _ | exact Keeps.drewN (Keeps.alloc (by assumption) _) _)).mono ?_; rintro e w1 ⟨rfl, hk⟩) | (go_at_call 13; refine (keep (dvr_any _ _ _ (by omega) (by omega) (by omega) (by omega)) (by first | assumption | exact Keeps.drewN (by assumption) _ | exact Keeps.alloc (by assumption) _ | exact Keeps.drewN (Keeps.alloc (by assumption) _) _)).mono ?_; rintro e w1 ⟨rfl, hk⟩) | (go_at_call 16; refine (keep (mulnorm_any _ _ _ (by omega) (by omega) (by omega) (by omega)) (by first | assumption | exact Keeps.drewN (by assumption) _ | exact Keeps.alloc (by assumption) _ | exact Keeps.drewN (Keeps.alloc (by assumption) _) _)).mono ?_; rintro e w1 ⟨rfl, hk⟩) | (go_at_call 18; refine (keep (divnorm_any _ _ (by omega) (by omega)) (by first | assumption | exact Keeps.drewN (by assumption) _ | exact Keeps.alloc (by assumption) _ | exact Keeps.drewN (Keeps.alloc (by assumption) _) _)).mono ?_; rintro e w1 ⟨rfl, hk⟩) | (go_at_call 11; refine (sqrt_any _ _).mono ?_; rintro e w1 ⟨rfl, rfl⟩) | (go_at_call 22; refine (mod_any _ _ _ (by omega)).mono ?_; rintro e w1 ⟨rfl, rfl⟩) | (go_at_call 20; refine (clamp_any _ _ _ _).mono ?_; rintro e w1 ⟨rfl, rfl⟩) | (go_at_call 15; refine (example8 _ _ (by first | assumption | exact Keeps.drewN (by assumption) _ | exact Keeps.alloc (by assumption) _ | exact Keeps.drewN (Keeps.alloc (by assumption) _) _)).mono ?_; rintro e w1 ⟨rfl, hk⟩))
      go_ret
      exact ⟨rfl, by assumption⟩
  · have tz : (y == 0) = false := by simp [hy]
    obtain ⟨d2, d3⟩ := (dvr_Q x y hy (by omega)).2
    obtain ⟨m, em, ⟨m0, m3⟩, m4, m5⟩ := dvr_off x y hy (by omega)
    have eL := dvr_neg_left x y (by omega)
    have eR := dvr_neg_right x y (by omega)
    generalize hq : dvr x y = q at *
    obtain ⟨s1, s2⟩ := mdr_self q y hy (by omega) (by omega)
    have em2 : -q * y = -m := by rw [Int.neg_mul, em]
    obtain ⟨H, eH, hH⟩ : ∃ H : Int, max y (-y) = H ∧ Hid (H = y.natAbs) := ⟨_, rfl, by unfold Hid; omega⟩
    obtain ⟨O, eO, eO2, hO⟩ : ∃ O : Int, max (x - m) (-(x - m)) = O ∧ max (x - m) (m - x) = O ∧ Hid (O = (x - m).natAbs) := ⟨_, rfl, by rw [Int.neg_sub], by unfold Hid; omega⟩
    obtain ⟨M, eM, hM⟩ : ∃ M : Int, max m (-m) = M ∧ Hid (M = m.natAbs) := ⟨_, rfl, by unfold Hid; omega⟩
    obtain ⟨X, eX, hX⟩ : ∃ X : Int, max x (-x) = X ∧ Hid (X = x.natAbs) := ⟨_, rfl, by unfold Hid; omega⟩
    have bO : 0 ≤ O ∧ O ≤ 1152921504606846976 := by have := hO.out; omega
    obtain ⟨bO1, bO2⟩ := bO
    have t4 : decide (H < 2 * O) = false := decide_eq_false (by have := hO.out; have := hH.out; omega)
    have bm : -2305843009213693952 ≤ m ∧ m ≤ 2305843009213693952 := by omega
    obtain ⟨bm1, bm2⟩ := bm
    obtain ⟨v2, ev2, hv2⟩ : ∃ v2 : Bool, (2 * O == H) = v2 ∧ Hid (v2 = true → decide (M < X) = false) := ⟨_, rfl, by
      intro h
      have h1 : 2 * O = H := by simpa using h
      have := hO.out; have := hH.out; have := hM.out; have := hX.out
      exact decide_eq_false (by omega)⟩
    clear m0 m3 m4 m5
    have HY := Lib.hid hy
    clear hy
    cases v <;> cases v2
    · go_enter Try.func5, Try.ntmps5
      go_wp2_with (first | (go_at_call 9; refine (keep (muldiv_any _ _ _ _ (by omega) (by omega) (by omega) (by omega) (by omega) (by omega)) (by first | assumption | exact Keeps.drewN (by assumption) _ | exact Keeps.alloc (by assumption) _ | exact Keeps.drewN (Keeps.alloc (by assumption) _) _)).mono ?_; rintro e w1 ⟨rfl, hk⟩) | (go_at_call 13; refine (keep (dvr_any _ _ _ (by omega) (by omega) (by omega) (by omega)) (by first | assumption | exact Keeps.drewN (by assumption) _ | exact Keeps.alloc (by assumption) _ | exact Keeps.drewN (Keeps.alloc (by assumption) _) _)).mono ?_; rintro e w1 ⟨rfl, hk⟩) | (go_at_call 16; refine (keep (mulnorm_any _ _ _ (by omega) (by omega) (by omega) (by omega)) (by first | assumption | exact Keeps.drewN (by assumption) _ | exact Keeps.alloc (by assumption) _ | exact Keeps.drewN (Keeps.alloc (by assumption) _) _)).mono ?_; rintro e w1 ⟨rfl, hk⟩) | (go_at_call 18; refine (keep (divnorm_any _ _ (by omega) (by omega)) (by first | assumption | exact Keeps.drewN (by assumption) _ | exact Keeps.alloc (by assumption) _ | exact Keeps.drewN (Keeps.alloc (by assumption) _) _)).mono ?_; rintro e w1 ⟨rfl, hk⟩) | (go_at_call 11; refine (sqrt_any _ _).mono ?_; rintro e w1 ⟨rfl, rfl⟩) | (go_at_call 22; refine (mod_any _ _ _ (by omega)).mono ?_; rintro e w1 ⟨rfl, rfl⟩) | (go_at_call 20; refine (clamp_any _ _ _ _).mono ?_; rintro e w1 ⟨rfl, rfl⟩) | (go_at_call 15; refine (example8 _ _ (by first | assumption | exact Keeps.drewN (by assumption) _ | exact Keeps.alloc (by assumption) _ | exact Keeps.drewN (Keeps.alloc (by assumption) _) _)).mono ?_; rintro e w1 ⟨rfl, hk⟩))
      go_ret
      exact ⟨rfl, by assumption⟩
    · have t5 := hv2.out rfl
      go_enter Try.func5, Try.ntmps5
      go_wp2_with (first | (go_at_call 9; refine (keep (muldiv_any _ _ _ _ (by omega) (by omega) (by omega) (by omega) (by omega) (by omega)) (by first | assumption | exact Keeps.drewN (by assumption) _ | exact Keeps.alloc (by assumption) _ | exact Keeps.drewN (Keeps.alloc (by assumption) _) _)).mono ?_; rintro e w1 ⟨rfl, hk⟩) | (go_at_call 13; refine (keep (dvr_any _ _ _ (by omega) (by omega) (by omega) (by omega)) (by first | assumption | exact Keeps.drewN (by assumption) _ | exact Keeps.alloc (by assumption) _ | exact Keeps.drewN (Keeps.alloc (by assumption) _) _)).mono ?_; rintro e w1 ⟨rfl, hk⟩) | (go_at_call 16; refine (keep (mulnorm_any _ _ _ (by omega) (by omega) (by omega) (by omega)) (by first | assumption | exact Keeps.drewN (by assumption) _ | exact Keeps.alloc (by assumption) _ | exact Keeps.drewN (Keeps.alloc (by assumption) _) _)).mono ?_; rintro e w1 ⟨rfl, hk⟩) | (go_at_call 18; refine (keep (divnorm_any _ _ (by omega) (by omega)) (by first | assumption | exact Keeps.drewN (by assumption) _ | exact Keeps.alloc (by assumption) _ | exact Keeps.drewN (Keeps.alloc (by assumption) _) _)).mono ?_; rintro e w1 ⟨rfl, hk⟩) | (go_at_call 11; refine (sqrt_any _ _).mono ?_; rintro e w1 ⟨rfl, rfl⟩) | (go_at_call 22; refine (mod_any _ _ _ (by omega)).mono ?_; rintro e w1 ⟨rfl, rfl⟩) | (go_at_call 20; refine (clamp_any _ _ _ _).mono ?_; rintro e w1 ⟨rfl, rfl⟩) | (go_at_call 15; refine (example8 _ _ (by first | assumption | exact Keeps.drewN (by assumption) _ | exact Keeps.alloc (by assumption) _ | exact Keeps.drewN (Keeps.alloc (by assumption) _) _)).mono ?_; rintro e w1 ⟨rfl, hk⟩))
      go_ret
      exact ⟨rfl, by assumption⟩
    · obtain ⟨m2, f1, f2, f3⟩ := SQ.out (HV.out rfl)
      have t3 : decide (m2 ≤ n) = false := decide_eq_false (by omega)
      go_enter Try.func5, Try.ntmps5
      go_wp2_with (first | (go_at_call 9; refine (keep (muldiv_any _ _ _ _ (by omega) (by omega) (by omega) (by omega) (by omega) (by omega)) (by first | assumption | exact Keeps.drewN (by assumption) _ | exact Keeps.alloc (by assumption) _ | exact Keeps.drewN (Keeps.alloc (by assumption) _) _)).mono ?_; rintro e w1 ⟨rfl, hk⟩) | (go_at_call 13; refine (keep (dvr_any _ _ _ (by omega) (by omega) (by omega) (by omega)) (by first | assumption | exact Keeps.drewN (by assumption) _ | exact Keeps.alloc (by assumption) _ | exact Keeps.drewN (Keeps.alloc (by assumption) _) _)).mono ?_; rintro e w1 ⟨rfl, hk⟩) | (go_at_call 16; refine (keep (mulnorm_any _ _ _ (by omega) (by omega) (by omega) (by omega)) (by first | assumption | exact Keeps.drewN (by assumption) _ | exact Keeps.alloc (by assumption) _ | exact Keeps.drewN (Keeps.alloc (by assumption) _) _)).mono ?_; rintro e w1 ⟨rfl, hk⟩) | (go_at_call 18; refine (keep (divnorm_any _ _ (by omega) (by omega)) (by first | assumption | exact Keeps.drewN (by assumption) _ | exact Keeps.alloc (by assumption) _ | exact Keeps.drewN (Keeps.alloc (by assumption) _) _)).mono ?_; rintro e w1 ⟨rfl, hk⟩) | (go_at_call 11; refine (sqrt_any _ _).mono ?_; rintro e w1 ⟨rfl, rfl⟩) | (go_at_call 22; refine (mod_any _ _ _ (by omega)).mono ?_; rintro e w1 ⟨rfl, rfl⟩) | (go_at_call 20; refine (clamp_any _ _ _ _).mono ?_; rintro e w1 ⟨rfl, rfl⟩) | (go_at_call 15; refine (example8 _ _ (by first | assumption | exact Keeps.drewN (by assumption) _ | exact Keeps.alloc (by assumption) _ | exact Keeps.drewN (Keeps.alloc (by assumption) _) _)).mono ?_; rintro e w1 ⟨rfl, hk⟩))
      go_ret
      exact ⟨rfl, by assumption⟩
    · obtain ⟨m2, f1, f2, f3⟩ := SQ.out (HV.out rfl)
      have t3 : decide (m2 ≤ n) = false := decide_eq_false (by omega)
      have t5 := hv2.out rfl
      go_enter Try.func5, Try.ntmps5
      go_wp2_with (first | (go_at_call 9; refine (keep (muldiv_any _ _ _ _ (by omega) (by omega) (by omega) (by omega) (by omega) (by omega)) (by first | assumption | exact Keeps.drewN (by assumption) _ | exact Keeps.alloc (by assumption) _ | exact Keeps.drewN (Keeps.alloc (by assumption) _) _)).mono ?_; rintro e w1 ⟨rfl, hk⟩) | (go_at_call 13; refine (keep (dvr_any _ _ _ (by omega) (by omega) (by omega) (by omega)) (by first | assumption | exact Keeps.drewN (by assumption) _ | exact Keeps.alloc (by assumption) _ | exact Keeps.drewN (Keeps.alloc (by assumption) _) _)).mono ?_; rintro e w1 ⟨rfl, hk⟩) | (go_at_call 16; refine (keep (mulnorm_any _ _ _ (by omega) (by omega) (by omega) (by omega)) (by first | assumption | exact Keeps.drewN (by assumption) _ | exact Keeps.alloc (by assumption) _ | exact Keeps.drewN (Keeps.alloc (by assumption) _) _)).mono ?_; rintro e w1 ⟨rfl, hk⟩) | (go_at_call 18; refine (keep (divnorm_any _ _ (by omega) (by omega)) (by first | assumption | exact Keeps.drewN (by assumption) _ | exact Keeps.alloc (by assumption) _ | exact Keeps.drewN (Keeps.alloc (by assumption) _) _)).mono ?_; rintro e w1 ⟨rfl, hk⟩) | (go_at_call 11; refine (sqrt_any _ _).mono ?_; rintro e w1 ⟨rfl, rfl⟩) | (go_at_call 22; refine (mod_any _ _ _ (by omega)).mono ?_; rintro e w1 ⟨rfl, rfl⟩) | (go_at_call 20; refine (clamp_any _ _ _ _).mono ?_; rintro e w1 ⟨rfl, rfl⟩) | (go_at_call 15; refine (example8 _ _ (by first | assumption | exact Keeps.drewN (by assumption) _ | exact Keeps.alloc (by assumption) _ | exact Keeps.drewN (Keeps.alloc (by assumption) _) _)).mono ?_; rintro e w1 ⟨rfl, hk⟩))
      go_ret
      exact ⟨rfl, by assumption⟩

set_option maxRecDepth 100000 in
theorem lifted (os : Os) (started : os.Started) (H : Type) (enc : TypeId × Value → H) :
    ReturnsInHanded {} Try.checked os 5 .any (Rows.intmathRoundingSpec.pre6 enc Try.prog Try.f5 Rows.intmathRoundingRow.domain false) (Rows.intmathRoundingSpec.post enc Try.prog Try.f5 false true false false) := by
  refine returnsInHanded_of_change (C := Try.checked) Try.own started (by kernel_rfl) Try.func5
    (ChangeSpec.witness6 (enc := enc) (C := Try.checked) false ⟨#[], #[.int .u64 0, .int .i64 0, .int .i64 0], []⟩ 8 (by kernel_rfl) (by kernel_rfl) (by kernel_rfl) (by kernel_rfl)) ?_
  intro W base args ds gs before hval0 hW hcnd _
  have hval : ∀ (j : Nat) t v, Try.f5.params[j]? = some t → args[j]? = some v → Value.okWide Try.prog W .any base t v := hval0
  have hW' := hW
  obtain ⟨p, q, hA0, hV, rfl, hfz, hnd⟩ := hW
  have hA : DataW.TrodAll enc Try.prog W 0 (fun _ => true) true Try.f5.params.toList args.toList ds p := hA0
  have hAll := hA
  rw [Try.params5] at hA hval
  obtain ⟨v0, vs0, d0, ds0, p0, q0, hargs, rfl, rfl, h0, r0⟩ := trodAll_cons hA
  obtain ⟨v1, vs1, d1, ds1, p1, q1, rfl, rfl, rfl, h1, r1⟩ := trodAll_cons r0
  obtain ⟨v2, vs2, d2, ds2, p2, q2, rfl, rfl, rfl, h2, r2⟩ := trodAll_cons r1
  obtain ⟨rfl, rfl, rfl⟩ := trodAll_nil r2
  obtain rfl : args = #[v0, v1, v2] := by cases args; simp_all
  obtain ⟨rfl, rfl⟩ := trodVars_none hV
  obtain ⟨a0, rfl, _, _, w0⟩ := open_int Try.underlying22 (hval 0 22 v0 rfl rfl) h0
  obtain ⟨l0, u0⟩ := bounds_u64 w0
  obtain ⟨a0, rfl⟩ := Int.eq_ofNat_of_zero_le l0
  obtain ⟨a1, rfl, _, _, w1⟩ := open_int Try.underlying3 (hval 1 3 v1 rfl rfl) h1
  obtain ⟨l1, u1⟩ := bounds_i64 w1
  obtain ⟨a2, rfl, _, _, w2⟩ := open_int Try.underlying3 (hval 2 3 v2 rfl rfl) h2
  obtain ⟨l2, u2⟩ := bounds_i64 w2
  clear hA0 hval0
  refine (walk a0 a1 a2 W (by omega) l1 u1 l2 u2).mono fun e W' ⟨he, bel⟩ => ?_
  subst he
  exact ⟨_, rfl, _, _, _, [], _, [], hW', trodAll_mk1 (shut_bool Try.underlying4 _), below_trodAll Try.laidOut bel (reads_of (by kernel_rfl)) hAll, rfl, bel.frame _, fun h => by cases h⟩

theorem over : Rows.intmathRoundingRow.holds Try.pinned (OpenSpec.ofChange Rows.intmathRoundingSpec) :=
  OpenClaim.holds_of_wide 5 Try.f5 rfl rfl rfl rfl rfl rfl rfl ⟨rfl, rfl, rfl, rfl, rfl⟩ rfl rfl rfl rfl rfl (by kernel_rfl) Try.func5 (by kernel_rfl)
    (of_decide_eq_true (by kernel_rfl)) (by unfold Func.isWrapper; first | (rw [if_pos (by decide +kernel)]; kernel_rfl) | (rw [if_neg (by decide +kernel)]; exact ⟨rfl, rfl⟩))
    (fun os started H enc _ => lifted os started H enc)

/-- The statement. -/
theorem proved : Rows.IntmathRoundingSaid := over
#print axioms proved
end Go.Proofs.Ytafcchemcbjocaa.intmathRounding
