/- IntmathProducts of grisaillelaw08 returns true for all its arguments: every three ints; no condition. -/
import Derived.Test.YtafcchemcbjocaaPq
import Derived.Test.YtafcchemcbjocaaOp
import Derived.Test.YtafcchemcbjocaaE8
namespace Go.Proofs.Ytafcchemcbjocaa.intmathProducts
open Go.RowKit Go.ChangeShapes Go.WideShapes Go.ChangeAt
set_option linter.unusedVariables false

set_option maxRecDepth 100000 in
set_option maxHeartbeats 1000000 in
theorem walk (a b c : Int) (w : World) (a0 : -9223372036854775808 ≤ a) (a1 : a ≤ 9223372036854775807) (b0 : -9223372036854775808 ≤ b) (b1 : b ≤ 9223372036854775807) (c0 : -9223372036854775808 ≤ c) (c1 : c ≤ 9223372036854775807) :
    Calls Try.prog 6 #[.int .i64 a, .int .i64 b, .int .i64 c] w fun e w' => e = .returned (.bool true) ∧ Below w.heap.size w w' := by
  have hk0 := Keeps.refl w
  have e1 := mdrN_comm b a c
  have e2 := mdrB_comm b a c
  have N0 := Lib.hid (mdrN_no a b c)
  obtain ⟨x, ex, x0, x1⟩ : ∃ x, a.tmod 1073741824 = x ∧ -1073741824 < x ∧ x < 1073741824 := ⟨_, rfl, Int.lt_tmod_of_pos a (by omega), Int.tmod_lt_of_pos a (by omega)⟩
  obtain ⟨y, ey, y0, y1⟩ : ∃ y, b.tmod 1073741824 = y ∧ -1073741824 < y ∧ y < 1073741824 := ⟨_, rfl, Int.lt_tmod_of_pos b (by omega), Int.tmod_lt_of_pos b (by omega)⟩
  obtain ⟨o1, o2⟩ := mdr_odd x y c ⟨x0, x1⟩ ⟨y0, y1⟩
  have M0 := Lib.hid (mdr_prod x y c)
  obtain ⟨p, ep, p0, p1⟩ : ∃ p, x * y = p ∧ -1152921504606846976 ≤ p ∧ p ≤ 1152921504606846976 := by
    refine ⟨_, rfl, ?_⟩
    have h := Nat.mul_le_mul (show x.natAbs ≤ 1073741824 by omega) (show y.natAbs ≤ 1073741824 by omega)
    rw [← Int.natAbs_mul] at h
    omega
  have Q0 := Lib.hid (mdrQ_bd x y c · ⟨x0, x1⟩ ⟨y0, y1⟩)
  have nb : -1152921504606846976 ≤ mdrN x y c ∧ mdrN x y c ≤ 1152921504606846976 := by
    unfold mdrN
    split
    · rename_i h; have := of_decide_eq_true h; exact Q0.out this.1
    · omega
  obtain ⟨n0, n1⟩ := nb
  rw [ep] at M0
  clear Q0
  by_cases hc : c = 0
  · subst hc
    have z0 := mdrB_zero a b
    have z1 := mdrB_zero a 0
    have z2 := mdrB_zero x y
    have z3 := mdrN_no a b 0 z0
    have z4 := mdrN_no a 0 0 z1
    have z5 := mdrN_no x y 0 z2
    clear n0 n1
    rw [z0] at e2
    rw [z3] at e1
    rw [z2] at o1
    rw [z5] at o2
    go_enter Try.func6, Try.ntmps6
    go_wp2_with (first | (go_at_call 9; refine (keep (muldiv_any _ _ _ _ (by omega) (by omega) (by omega) (by omega) (by omega) (by omega)) (by first | assumption | exact Keeps.drewN (by assumption) _ | exact Keeps.alloc (by assumption) _ | exact Keeps.drewN (Keeps.alloc (by assumption) _) _)).mono ?_; rintro e w1 ⟨rfl, hk⟩) | (go_at_call 13; refine (keep (dvr_any _ _ _ (by omega) (by omega) (by omega) (by omega)) (by first | assumption | exact Keeps.drewN (by assumption) _ | exact Keeps.alloc (by assumption) _ | exact Keeps.drewN (Keeps.alloc (by assumption) _) _)).mono ?_; rintro e w1 ⟨rfl, hk⟩) | (go_at_call 16; refine (keep (mulnorm_any _ _ _ (by omega) (by omega) (by omega) (by omega)) (by first | assumption | exact Keeps.drewN (by assumption) _ | exact Keeps.alloc (by assumption) _ | exact Keeps.drewN (Keeps.alloc (by assumption) _) _)).mono ?_; rintro e w1 ⟨rfl, hk⟩) | (go_at_call 18; refine (keep (divnorm_any _ _ (by omega) (by omega)) (by first | assumption | exact Keeps.drewN (by assumption) _ | exact Keeps.alloc (by assumption) _ | exact Keeps.drewN (Keeps.alloc (by assumption) _) _)).mono ?_; rintro e w1 ⟨rfl, hk⟩) | (go_at_call 11; refine (sqrt_any _ _).mono ?_; rintro e w1 ⟨rfl, rfl⟩) | (go_at_call 22; refine (mod_any _ _ _ (by omega)).mono ?_; rintro e w1 ⟨rfl, rfl⟩) | (go_at_call 20; refine (clamp_any _ _ _ _).mono ?_; rintro e w1 ⟨rfl, rfl⟩) | (go_at_call 15; refine (example8 _ _ (by first | assumption | exact Keeps.drewN (by assumption) _ | exact Keeps.alloc (by assumption) _ | exact Keeps.drewN (Keeps.alloc (by assumption) _) _)).mono ?_; rintro e w1 ⟨rfl, hk⟩))
    go_ret
    exact ⟨rfl, by assumption⟩
  · have tz : (c == 0) = false := by simp [hc]
    obtain ⟨s1, s2⟩ := mdr_self a c hc a0 a1
    generalize h2 : mdrB a b c = is at *
    generalize h1 : mdrN a b c = N at *
    generalize h3 : mdrB x y c = is2 at *
    generalize h4 : mdrN x y c = N2 at *
    have HC := Lib.hid hc
    clear hc
    cases is
    all_goals cases is2
    · have := N0.out rfl
      subst this
      go_enter Try.func6, Try.ntmps6
      go_wp2_with (first | (go_at_call 9; refine (keep (muldiv_any _ _ _ _ (by omega) (by omega) (by omega) (by omega) (by omega) (by omega)) (by first | assumption | exact Keeps.drewN (by assumption) _ | exact Keeps.alloc (by assumption) _ | exact Keeps.drewN (Keeps.alloc (by assumption) _) _)).mono ?_; rintro e w1 ⟨rfl, hk⟩) | (go_at_call 13; refine (keep (dvr_any _ _ _ (by omega) (by omega) (by omega) (by omega)) (by first | assumption | exact Keeps.drewN (by assumption) _ | exact Keeps.alloc (by assumption) _ | exact Keeps.drewN (Keeps.alloc (by assumption) _) _)).mono ?_; rintro e w1 ⟨rfl, hk⟩) | (go_at_call 16; refine (keep (mulnorm_any _ _ _ (by omega) (by omega) (by omega) (by omega)) (by first | assumption | exact Keeps.drewN (by assumption) _ | exact Keeps.alloc (by assumption) _ | exact Keeps.drewN (Keeps.alloc (by assumption) _) _)).mono ?_; rintro e w1 ⟨rfl, hk⟩) | (go_at_call 18; refine (keep (divnorm_any _ _ (by omega) (by omega)) (by first | assumption | exact Keeps.drewN (by assumption) _ | exact Keeps.alloc (by assumption) _ | exact Keeps.drewN (Keeps.alloc (by assumption) _) _)).mono ?_; rintro e w1 ⟨rfl, hk⟩) | (go_at_call 11; refine (sqrt_any _ _).mono ?_; rintro e w1 ⟨rfl, rfl⟩) | (go_at_call 22; refine (mod_any _ _ _ (by omega)).mono ?_; rintro e w1 ⟨rfl, rfl⟩) | (go_at_call 20; refine (clamp_any _ _ _ _).mono ?_; rintro e w1 ⟨rfl, rfl⟩) | (go_at_call 15; refine (example8 _ _ (by first | assumption | exact Keeps.drewN (by assumption) _ | exact Keeps.alloc (by assumption) _ | exact Keeps.drewN (Keeps.alloc (by assumption) _) _)).mono ?_; rintro e w1 ⟨rfl, hk⟩))
      go_ret
      exact ⟨rfl, by assumption⟩
    · have := N0.out rfl
      subst this
      have := M0.out rfl
      go_enter Try.func6, Try.ntmps6
      go_wp2_with (first | (go_at_call 9; refine (keep (muldiv_any _ _ _ _ (by omega) (by omega) (by omega) (by omega) (by omega) (by omega)) (by first | assumption | exact Keeps.drewN (by assumption) _ | exact Keeps.alloc (by assumption) _ | exact Keeps.drewN (Keeps.alloc (by assumption) _) _)).mono ?_; rintro e w1 ⟨rfl, hk⟩) | (go_at_call 13; refine (keep (dvr_any _ _ _ (by omega) (by omega) (by omega) (by omega)) (by first | assumption | exact Keeps.drewN (by assumption) _ | exact Keeps.alloc (by assumption) _ | exact Keeps.drewN (Keeps.alloc (by assumption) _) _)).mono ?_; rintro e w1 ⟨rfl, hk⟩) | (go_at_call 16; refine (keep (mulnorm_any _ _ _ (by omega) (by omega) (by omega) (by omega)) (by first | assumption | exact Keeps.drewN (by assumption) _ | exact Keeps.alloc (by assumption) _ | exact Keeps.drewN (Keeps.alloc (by assumption) _) _)).mono ?_; rintro e w1 ⟨rfl, hk⟩) | (go_at_call 18; refine (keep (divnorm_any _ _ (by omega) (by omega)) (by first | assumption | exact Keeps.drewN (by assumption) _ | exact Keeps.alloc (by assumption) _ | exact Keeps.drewN (Keeps.alloc (by assumption) _) _)).mono ?_; rintro e w1 ⟨rfl, hk⟩) | (go_at_call 11; refine (sqrt_any _ _).mono ?_; rintro e w1 ⟨rfl, rfl⟩) | (go_at_call 22; refine (mod_any _ _ _ (by omega)).mono ?_; rintro e w1 ⟨rfl, rfl⟩) | (go_at_call 20; refine (clamp_any _ _ _ _).mono ?_; rintro e w1 ⟨rfl, rfl⟩) | (go_at_call 15; refine (example8 _ _ (by first | assumption | exact Keeps.drewN (by assumption) _ | exact Keeps.alloc (by assumption) _ | exact Keeps.drewN (Keeps.alloc (by assumption) _) _)).mono ?_; rintro e w1 ⟨rfl, hk⟩))
      go_ret
      exact ⟨rfl, by assumption⟩
    · go_enter Try.func6, Try.ntmps6
      go_wp2_with (first | (go_at_call 9; refine (keep (muldiv_any _ _ _ _ (by omega) (by omega) (by omega) (by omega) (by omega) (by omega)) (by first | assumption | exact Keeps.drewN (by assumption) _ | exact Keeps.alloc (by assumption) _ | exact Keeps.drewN (Keeps.alloc (by assumption) _) _)).mono ?_; rintro e w1 ⟨rfl, hk⟩) | (go_at_call 13; refine (keep (dvr_any _ _ _ (by omega) (by omega) (by omega) (by omega)) (by first | assumption | exact Keeps.drewN (by assumption) _ | exact Keeps.alloc (by assumption) _ | exact Keeps.drewN (Keeps.alloc (by assumption) _) _)).mono ?_; rintro e w1 ⟨rfl, hk⟩) | (go_at_call 16; refine (keep (mulnorm_any _ _ _ (by omega) (by omega) (by omega) (by omega)) (by first | assumption | exact Keeps.drewN (by assumption) _ | exact Keeps.alloc (by assumption) _ | exact Keeps.drewN (Keeps.alloc (by assumption) _) _)).mono ?_; rintro e w1 ⟨rfl, hk⟩) | (go_at_call 18; refine (keep (divnorm_any _ _ (by omega) (by omega)) (by first | assumption | exact Keeps.drewN (by assumption) _ | exact Keeps.alloc (by assumption) _ | exact Keeps.drewN (Keeps.alloc (by assumption) _) _)).mono ?_; rintro e w1 ⟨rfl, hk⟩) | (go_at_call 11; refine (sqrt_any _ _).mono ?_; rintro e w1 ⟨rfl, rfl⟩) | (go_at_call 22; refine (mod_any _ _ _ (by omega)).mono ?_; rintro e w1 ⟨rfl, rfl⟩) | (go_at_call 20; refine (clamp_any _ _ _ _).mono ?_; rintro e w1 ⟨rfl, rfl⟩) | (go_at_call 15; refine (example8 _ _ (by first | assumption | exact Keeps.drewN (by assumption) _ | exact Keeps.alloc (by assumption) _ | exact Keeps.drewN (Keeps.alloc (by assumption) _) _)).mono ?_; rintro e w1 ⟨rfl, hk⟩))
      go_ret
      exact ⟨rfl, by assumption⟩
    · have := M0.out rfl
      go_enter Try.func6, Try.ntmps6
      go_wp2_with (first | (go_at_call 9; refine (keep (muldiv_any _ _ _ _ (by omega) (by omega) (by omega) (by omega) (by omega) (by omega)) (by first | assumption | exact Keeps.drewN (by assumption) _ | exact Keeps.alloc (by assumption) _ | exact Keeps.drewN (Keeps.alloc (by assumption) _) _)).mono ?_; rintro e w1 ⟨rfl, hk⟩) | (go_at_call 13; refine (keep (dvr_any _ _ _ (by omega) (by omega) (by omega) (by omega)) (by first | assumption | exact Keeps.drewN (by assumption) _ | exact Keeps.alloc (by assumption) _ | exact Keeps.drewN (Keeps.alloc (by assumption) _) _)).mono ?_; rintro e w1 ⟨rfl, hk⟩) | (go_at_call 16; refine (keep (mulnorm_any _ _ _ (by omega) (by omega) (by omega) (by omega)) (by first | assumption | exact Keeps.drewN (by assumption) _ | exact Keeps.alloc (by assumption) _ | exact Keeps.drewN (Keeps.alloc (by assumption) _) _)).mono ?_; rintro e w1 ⟨rfl, hk⟩) | (go_at_call 18; refine (keep (divnorm_any _ _ (by omega) (by omega)) (by first | assumption | exact Keeps.drewN (by assumption) _ | exact Keeps.alloc (by assumption) _ | exact Keeps.drewN (Keeps.alloc (by assumption) _) _)).mono ?_; rintro e w1 ⟨rfl, hk⟩) | (go_at_call 11; refine (sqrt_any _ _).mono ?_; rintro e w1 ⟨rfl, rfl⟩) | (go_at_call 22; refine (mod_any _ _ _ (by omega)).mono ?_; rintro e w1 ⟨rfl, rfl⟩) | (go_at_call 20; refine (clamp_any _ _ _ _).mono ?_; rintro e w1 ⟨rfl, rfl⟩) | (go_at_call 15; refine (example8 _ _ (by first | assumption | exact Keeps.drewN (by assumption) _ | exact Keeps.alloc (by assumption) _ | exact Keeps.drewN (Keeps.alloc (by assumption) _) _)).mono ?_; rintro e w1 ⟨rfl, hk⟩))
      go_ret
      exact ⟨rfl, by assumption⟩

set_option maxRecDepth 100000 in
theorem lifted (os : Os) (started : os.Started) (H : Type) (enc : TypeId × Value → H) :
    ReturnsInHanded {} Try.checked os 6 .any (Rows.intmathProductsSpec.pre6 enc Try.prog Try.f6 Rows.intmathProductsRow.domain false) (Rows.intmathProductsSpec.post enc Try.prog Try.f6 false true false false) := by
  refine returnsInHanded_of_change (C := Try.checked) Try.own started (by kernel_rfl) Try.func6
    (ChangeSpec.witness6 (enc := enc) (C := Try.checked) false ⟨#[], #[.int .i64 0, .int .i64 0, .int .i64 0], []⟩ 8 (by kernel_rfl) (by kernel_rfl) (by kernel_rfl) (by kernel_rfl)) ?_
  intro W base args ds gs before hval0 hW hcnd _
  have hval : ∀ (j : Nat) t v, Try.f6.params[j]? = some t → args[j]? = some v → Value.okWide Try.prog W .any base t v := hval0
  have hW' := hW
  obtain ⟨p, q, hA0, hV, rfl, hfz, hnd⟩ := hW
  have hA : DataW.TrodAll enc Try.prog W 0 (fun _ => true) true Try.f6.params.toList args.toList ds p := hA0
  have hAll := hA
  rw [Try.params6] at hA hval
  obtain ⟨v0, vs0, d0, ds0, p0, q0, hargs, rfl, rfl, h0, r0⟩ := trodAll_cons hA
  obtain ⟨v1, vs1, d1, ds1, p1, q1, rfl, rfl, rfl, h1, r1⟩ := trodAll_cons r0
  obtain ⟨v2, vs2, d2, ds2, p2, q2, rfl, rfl, rfl, h2, r2⟩ := trodAll_cons r1
  obtain ⟨rfl, rfl, rfl⟩ := trodAll_nil r2
  obtain rfl : args = #[v0, v1, v2] := by cases args; simp_all
  obtain ⟨rfl, rfl⟩ := trodVars_none hV
  obtain ⟨a0, rfl, _, _, w0⟩ := open_int Try.underlying3 (hval 0 3 v0 rfl rfl) h0
  obtain ⟨l0, u0⟩ := bounds_i64 w0
  obtain ⟨a1, rfl, _, _, w1⟩ := open_int Try.underlying3 (hval 1 3 v1 rfl rfl) h1
  obtain ⟨l1, u1⟩ := bounds_i64 w1
  obtain ⟨a2, rfl, _, _, w2⟩ := open_int Try.underlying3 (hval 2 3 v2 rfl rfl) h2
  obtain ⟨l2, u2⟩ := bounds_i64 w2
  clear hA0 hval0
  refine (walk a0 a1 a2 W l0 u0 l1 u1 l2 u2).mono fun e W' ⟨he, bel⟩ => ?_
  subst he
  exact ⟨_, rfl, _, _, _, [], _, [], hW', trodAll_mk1 (shut_bool Try.underlying4 _), below_trodAll Try.laidOut bel (reads_of (by kernel_rfl)) hAll, rfl, bel.frame _, fun h => by cases h⟩

theorem over : Rows.intmathProductsRow.holds Try.pinned (OpenSpec.ofChange Rows.intmathProductsSpec) :=
  OpenClaim.holds_of_wide 6 Try.f6 rfl rfl rfl rfl rfl rfl rfl ⟨rfl, rfl, rfl, rfl, rfl⟩ rfl rfl rfl rfl rfl (by kernel_rfl) Try.func6 (by kernel_rfl)
    (of_decide_eq_true (by kernel_rfl)) (by unfold Func.isWrapper; first | (rw [if_pos (by decide +kernel)]; kernel_rfl) | (rw [if_neg (by decide +kernel)]; exact ⟨rfl, rfl⟩))
    (fun os started H enc _ => lifted os started H enc)

/-- The statement. -/
theorem proved : Rows.IntmathProductsSaid := over
#print axioms proved
end Go.Proofs.Ytafcchemcbjocaa.intmathProducts
