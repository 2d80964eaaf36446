/- IntmathNorm8 of grisaillelaw08 returns true for all its arguments: every three bytes and every n; no condition. -/
import Derived.Test.YtafcchemcbjocaaPq
import Derived.Test.YtafcchemcbjocaaOp
import Derived.Test.YtafcchemcbjocaaE8
namespace Go.Proofs.Ytafcchemcbjocaa.intmathNorm8
open Go.RowKit Go.ChangeShapes Go.WideShapes Go.ChangeAt
set_option linter.unusedVariables false

set_option maxRecDepth 100000 in
set_option maxHeartbeats 1000000 in
theorem walk (a b c n : Int) (w : World) (a0 : 0 ≤ a) (a1 : a ≤ 255) (b0 : 0 ≤ b) (b1 : b ≤ 255) (c0 : 0 ≤ c) (c1 : c ≤ 255) (n0 : -9223372036854775808 ≤ n) (n1 : n ≤ 9223372036854775807) :
    Calls Try.prog 7 #[.agg #[.int .u8 a, .int .u8 b, .int .u8 c], .int .i64 n] w fun e w' => e = .returned (.bool true) ∧ Below w.heap.size w w' := by
  have hk0 := Keeps.refl w
  have hk1 := hk0.alloc (.cells #[.int .u8 a, .int .u8 b, .int .u8 c] 37)
  have e1 := mn8_comm b a
  obtain ⟨x0, x1, x2⟩ := mn8_bd a b a0 a1 b0 b1
  have e2 := mn8_255 a
  have e3 := mn8_zero a
  have e4 := dn8_prod a b a0 a1 b0 b1
  have e5 := dn8_mul a a0 a1
  obtain ⟨p, ep, p0, p1⟩ : ∃ p, a * b = p ∧ 0 ≤ p ∧ p ≤ 65025 := ⟨_, rfl, Int.mul_nonneg a0 b0, Int.mul_le_mul a1 b1 b0 (by omega)⟩
  rw [ep] at e4
  have e6 := Lib.hid (mn8_mono a b c a0)
  generalize hx : mn8 a b = x at *
  have t1 : decide (a < x) = false := by simp; omega
  have t2 : decide (b < x) = false := by simp; omega
  by_cases hbc : b ≤ c
  · have e7 := e6.out hbc
    have t4 : decide (b ≤ c) = true := by simp; omega
    generalize hy : mn8 a c = y at *
    have t3 : decide (y < x) = false := by simp; omega
    by_cases hn : n = 9223372036854775807
    · have t5 : (n == 9223372036854775807) = true := by simp [hn]
      clear hn
      go_enter Try.func7, Try.ntmps7
      go_wp2_with fail
      go_quiet (fail)
      go_wp2_with (first | (go_at_call 9; refine (keep (muldiv_any _ _ _ _ (by omega) (by omega) (by omega) (by omega) (by omega) (by omega)) (by first | assumption | exact Keeps.drewN (by assumption) _ | exact Keeps.alloc (by assumption) _ | exact Keeps.drewN (Keeps.alloc (by assumption) _) _)).mono ?_; rintro e w1 ⟨rfl, hk⟩) | (go_at_call 13; refine (keep (dvr_any _ _ _ (by omega) (by omega) (by omega) (by omega)) (by first | assumption | exact Keeps.drewN (by assumption) _ | exact Keeps.alloc (by assumption) _ | exact Keeps.drewN (Keeps.alloc (by assumption) _) _)).mono ?_; rintro e w1 ⟨rfl, hk⟩) | (go_at_call 16; refine (keep (mulnorm_any _ _ _ (by omega) (by omega) (by omega) (by omega)) (by first | assumption | exact Keeps.drewN (by assumption) _ | exact Keeps.alloc (by assumption) _ | exact Keeps.drewN (Keeps.alloc (by assumption) _) _)).mono ?_; rintro e w1 ⟨rfl, hk⟩) | (go_at_call 18; refine (keep (divnorm_any _ _ (by omega) (by omega)) (by first | assumption | exact Keeps.drewN (by assumption) _ | exact Keeps.alloc (by assumption) _ | exact Keeps.drewN (Keeps.alloc (by assumption) _) _)).mono ?_; rintro e w1 ⟨rfl, hk⟩) | (go_at_call 11; refine (sqrt_any _ _).mono ?_; rintro e w1 ⟨rfl, rfl⟩) | (go_at_call 22; refine (mod_any _ _ _ (by omega)).mono ?_; rintro e w1 ⟨rfl, rfl⟩) | (go_at_call 20; refine (clamp_any _ _ _ _).mono ?_; rintro e w1 ⟨rfl, rfl⟩) | (go_at_call 15; refine (example8 _ _ (by first | assumption | exact Keeps.drewN (by assumption) _ | exact Keeps.alloc (by assumption) _ | exact Keeps.drewN (Keeps.alloc (by assumption) _) _)).mono ?_; rintro e w1 ⟨rfl, hk⟩))
      go_ret
      exact ⟨rfl, by assumption⟩
    · have t5 : (n == 9223372036854775807) = false := by simp [hn]
      have n2 : n ≤ 9223372036854775806 := by omega
      have e8 := dn8_mono n (n + 1) (by omega)
      generalize h8 : dn8 n = u at *
      generalize h9 : dn8 (n + 1) = v at *
      have t6 : decide (u ≤ v) = true := by simp; omega
      clear hn n1
      go_enter Try.func7, Try.ntmps7
      go_wp2_with fail
      go_quiet (fail)
      go_wp2_with (first | (go_at_call 9; refine (keep (muldiv_any _ _ _ _ (by omega) (by omega) (by omega) (by omega) (by omega) (by omega)) (by first | assumption | exact Keeps.drewN (by assumption) _ | exact Keeps.alloc (by assumption) _ | exact Keeps.drewN (Keeps.alloc (by assumption) _) _)).mono ?_; rintro e w1 ⟨rfl, hk⟩) | (go_at_call 13; refine (keep (dvr_any _ _ _ (by omega) (by omega) (by omega) (by omega)) (by first | assumption | exact Keeps.drewN (by assumption) _ | exact Keeps.alloc (by assumption) _ | exact Keeps.drewN (Keeps.alloc (by assumption) _) _)).mono ?_; rintro e w1 ⟨rfl, hk⟩) | (go_at_call 16; refine (keep (mulnorm_any _ _ _ (by omega) (by omega) (by omega) (by omega)) (by first | assumption | exact Keeps.drewN (by assumption) _ | exact Keeps.alloc (by assumption) _ | exact Keeps.drewN (Keeps.alloc (by assumption) _) _)).mono ?_; rintro e w1 ⟨rfl, hk⟩) | (go_at_call 18; refine (keep (divnorm_any _ _ (by omega) (by omega)) (by first | assumption | exact Keeps.drewN (by assumption) _ | exact Keeps.alloc (by assumption) _ | exact Keeps.drewN (Keeps.alloc (by assumption) _) _)).mono ?_; rintro e w1 ⟨rfl, hk⟩) | (go_at_call 11; refine (sqrt_any _ _).mono ?_; rintro e w1 ⟨rfl, rfl⟩) | (go_at_call 22; refine (mod_any _ _ _ (by omega)).mono ?_; rintro e w1 ⟨rfl, rfl⟩) | (go_at_call 20; refine (clamp_any _ _ _ _).mono ?_; rintro e w1 ⟨rfl, rfl⟩) | (go_at_call 15; refine (example8 _ _ (by first | assumption | exact Keeps.drewN (by assumption) _ | exact Keeps.alloc (by assumption) _ | exact Keeps.drewN (Keeps.alloc (by assumption) _) _)).mono ?_; rintro e w1 ⟨rfl, hk⟩))
      go_ret
      exact ⟨rfl, by assumption⟩
  · have t4 : decide (b ≤ c) = false := by simp; omega
    by_cases hn : n = 9223372036854775807
    · have t5 : (n == 9223372036854775807) = true := by simp [hn]
      clear hn
      go_enter Try.func7, Try.ntmps7
      go_wp2_with fail
      go_quiet (fail)
      go_wp2_with (first | (go_at_call 9; refine (keep (muldiv_any _ _ _ _ (by omega) (by omega) (by omega) (by omega) (by omega) (by omega)) (by first | assumption | exact Keeps.drewN (by assumption) _ | exact Keeps.alloc (by assumption) _ | exact Keeps.drewN (Keeps.alloc (by assumption) _) _)).mono ?_; rintro e w1 ⟨rfl, hk⟩) | (go_at_call 13; refine (keep (dvr_any _ _ _ (by omega) (by omega) (by omega) (by omega)) (by first | assumption | exact Keeps.drewN (by assumption) _ | exact Keeps.alloc (by assumption) _ | exact Keeps.drewN (Keeps.alloc (by assumption) _) _)).mono ?_; rintro e w1 ⟨rfl, hk⟩) | (go_at_call 16; refine (keep (mulnorm_any _ _ _ (by omega) (by omega) (by omega) (by omega)) (by first | assumption | exact Keeps.drewN (by assumption) _ | exact Keeps.alloc (by assumption) _ | exact Keeps.drewN (Keeps.alloc (by assumption) _) _)).mono ?_; rintro e w1 ⟨rfl, hk⟩) | (go_at_call 18; refine (keep (divnorm_any _ _ (by omega) (by omega)) (by first | assumption | exact Keeps.drewN (by assumption) _ | exact Keeps.alloc (by assumption) _ | exact Keeps.drewN (Keeps.alloc (by assumption) _) _)).mono ?_; rintro e w1 ⟨rfl, hk⟩) | (go_at_call 11; refine (sqrt_any _ _).mono ?_; rintro e w1 ⟨rfl, rfl⟩) | (go_at_call 22; refine (mod_any _ _ _ (by omega)).mono ?_; rintro e w1 ⟨rfl, rfl⟩) | (go_at_call 20; refine (clamp_any _ _ _ _).mono ?_; rintro e w1 ⟨rfl, rfl⟩) | (go_at_call 15; refine (example8 _ _ (by first | assumption | exact Keeps.drewN (by assumption) _ | exact Keeps.alloc (by assumption) _ | exact Keeps.drewN (Keeps.alloc (by assumption) _) _)).mono ?_; rintro e w1 ⟨rfl, hk⟩))
      go_ret
      exact ⟨rfl, by assumption⟩
    · have t5 : (n == 9223372036854775807) = false := by simp [hn]
      have n2 : n ≤ 9223372036854775806 := by omega
      have e8 := dn8_mono n (n + 1) (by omega)
      generalize h8 : dn8 n = u at *
      generalize h9 : dn8 (n + 1) = v at *
      have t6 : decide (u ≤ v) = true := by simp; omega
      clear hn n1
      go_enter Try.func7, Try.ntmps7
      go_wp2_with fail
      go_quiet (fail)
      go_wp2_with (first | (go_at_call 9; refine (keep (muldiv_any _ _ _ _ (by omega) (by omega) (by omega) (by omega) (by omega) (by omega)) (by first | assumption | exact Keeps.drewN (by assumption) _ | exact Keeps.alloc (by assumption) _ | exact Keeps.drewN (Keeps.alloc (by assumption) _) _)).mono ?_; rintro e w1 ⟨rfl, hk⟩) | (go_at_call 13; refine (keep (dvr_any _ _ _ (by omega) (by omega) (by omega) (by omega)) (by first | assumption | exact Keeps.drewN (by assumption) _ | exact Keeps.alloc (by assumption) _ | exact Keeps.drewN (Keeps.alloc (by assumption) _) _)).mono ?_; rintro e w1 ⟨rfl, hk⟩) | (go_at_call 16; refine (keep (mulnorm_any _ _ _ (by omega) (by omega) (by omega) (by omega)) (by first | assumption | exact Keeps.drewN (by assumption) _ | exact Keeps.alloc (by assumption) _ | exact Keeps.drewN (Keeps.alloc (by assumption) _) _)).mono ?_; rintro e w1 ⟨rfl, hk⟩) | (go_at_call 18; refine (keep (divnorm_any _ _ (by omega) (by omega)) (by first | assumption | exact Keeps.drewN (by assumption) _ | exact Keeps.alloc (by assumption) _ | exact Keeps.drewN (Keeps.alloc (by assumption) _) _)).mono ?_; rintro e w1 ⟨rfl, hk⟩) | (go_at_call 11; refine (sqrt_any _ _).mono ?_; rintro e w1 ⟨rfl, rfl⟩) | (go_at_call 22; refine (mod_any _ _ _ (by omega)).mono ?_; rintro e w1 ⟨rfl, rfl⟩) | (go_at_call 20; refine (clamp_any _ _ _ _).mono ?_; rintro e w1 ⟨rfl, rfl⟩) | (go_at_call 15; refine (example8 _ _ (by first | assumption | exact Keeps.drewN (by assumption) _ | exact Keeps.alloc (by assumption) _ | exact Keeps.drewN (Keeps.alloc (by assumption) _) _)).mono ?_; rintro e w1 ⟨rfl, hk⟩))
      go_ret
      exact ⟨rfl, by assumption⟩

set_option maxRecDepth 100000 in
theorem lifted (os : Os) (started : os.Started) (H : Type) (enc : TypeId × Value → H) :
    ReturnsInHanded {} Try.checked os 7 .any (Rows.intmathNorm8Spec.pre6 enc Try.prog Try.f7 Rows.intmathNorm8Row.domain false) (Rows.intmathNorm8Spec.post enc Try.prog Try.f7 false true false false) := by
  refine returnsInHanded_of_change (C := Try.checked) Try.own started (by kernel_rfl) Try.func7
    (ChangeSpec.witness6 (enc := enc) (C := Try.checked) false ⟨#[], #[.agg #[.int .u8 0, .int .u8 0, .int .u8 0], .int .i64 0], []⟩ 8 (by kernel_rfl) (by kernel_rfl) (by kernel_rfl) (by kernel_rfl)) ?_
  intro W base args ds gs before hval0 hW hcnd _
  have hval : ∀ (j : Nat) t v, Try.f7.params[j]? = some t → args[j]? = some v → Value.okWide Try.prog W .any base t v := hval0
  have hW' := hW
  obtain ⟨p, q, hA0, hV, rfl, hfz, hnd⟩ := hW
  have hA : DataW.TrodAll enc Try.prog W 0 (fun _ => true) true Try.f7.params.toList args.toList ds p := hA0
  have hAll := hA
  rw [Try.params7] at hA hval
  obtain ⟨v0, vs0, d0, ds0, p0, q0, hargs, rfl, rfl, h0, r0⟩ := trodAll_cons hA
  obtain ⟨v1, vs1, d1, ds1, p1, q1, rfl, rfl, rfl, h1, r1⟩ := trodAll_cons r0
  obtain ⟨rfl, rfl, rfl⟩ := trodAll_nil r1
  obtain rfl : args = #[v0, v1] := by cases args; simp_all
  obtain ⟨rfl, rfl⟩ := trodVars_none hV
  obtain ⟨c0, rfl, L0_0⟩ := open_flat (ks := [some .u8, some .u8, some .u8]) (by kernel_rfl) (by kernel_rfl) (hval 0 37 v0 rfl rfl) h0
  obtain ⟨_, c0_0, rfl, ⟨a0_0, rfl, w0_0⟩, L0_1⟩ := leafs_cons L0_0
  obtain ⟨l0_0, u0_0⟩ := bounds_u8 w0_0
  obtain ⟨_, c0_1, rfl, ⟨a0_1, rfl, w0_1⟩, L0_2⟩ := leafs_cons L0_1
  obtain ⟨l0_1, u0_1⟩ := bounds_u8 w0_1
  obtain ⟨_, c0_2, rfl, ⟨a0_2, rfl, w0_2⟩, L0_3⟩ := leafs_cons L0_2
  obtain ⟨l0_2, u0_2⟩ := bounds_u8 w0_2
  obtain rfl := leafs_nil L0_3
  obtain ⟨a1, rfl, _, _, w1⟩ := open_int Try.underlying3 (hval 1 3 v1 rfl rfl) h1
  obtain ⟨l1, u1⟩ := bounds_i64 w1
  clear hA0 hval0
  refine (walk a0_0 a0_1 a0_2 a1 W l0_0 u0_0 l0_1 u0_1 l0_2 u0_2 l1 u1).mono fun e W' ⟨he, bel⟩ => ?_
  subst he
  exact ⟨_, rfl, _, _, _, [], _, [], hW', trodAll_mk1 (shut_bool Try.underlying4 _), below_trodAll Try.laidOut bel (reads_of (by kernel_rfl)) hAll, rfl, bel.frame _, fun h => by cases h⟩

theorem over : Rows.intmathNorm8Row.holds Try.pinned (OpenSpec.ofChange Rows.intmathNorm8Spec) :=
  OpenClaim.holds_of_wide 7 Try.f7 rfl rfl rfl rfl rfl rfl rfl ⟨rfl, rfl, rfl, rfl, rfl⟩ rfl rfl rfl rfl rfl (by kernel_rfl) Try.func7 (by kernel_rfl)
    (of_decide_eq_true (by kernel_rfl)) (by unfold Func.isWrapper; first | (rw [if_pos (by decide +kernel)]; kernel_rfl) | (rw [if_neg (by decide +kernel)]; exact ⟨rfl, rfl⟩))
    (fun os started H enc _ => lifted os started H enc)

/-- The statement. -/
theorem proved : Rows.IntmathNorm8Said := over
#print axioms proved
end Go.Proofs.Ytafcchemcbjocaa.intmathNorm8
