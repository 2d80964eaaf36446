/- IntmathResidues of grisaillelaw08 returns true for all its arguments: every a, b and every pair of ends; no condition. -/
import Derived.Test.YtafcchemcbjocaaOp
import Derived.Test.YtafcchemcbjocaaE8
namespace Go.Proofs.Ytafcchemcbjocaa.intmathResidues
open Go.RowKit Go.ChangeShapes Go.WideShapes Go.ChangeAt
set_option linter.unusedVariables false

set_option maxRecDepth 100000 in
set_option maxHeartbeats 1000000 in
theorem walk (a b lo hi : Int) (w : World) (a0 : -9223372036854775808 ≤ a) (a1 : a ≤ 9223372036854775807) (b0 : -9223372036854775808 ≤ b) (b1 : b ≤ 9223372036854775807) (_l0 : -9223372036854775808 ≤ lo) (_l1 : lo ≤ 9223372036854775807) (_h0 : -9223372036854775808 ≤ hi) (_h1 : hi ≤ 9223372036854775807) :
    Calls Try.prog 8 #[.int .i64 a, .int .i64 b, .agg #[.int .i64 lo, .int .i64 hi]] w fun e w' => e = .returned (.bool true) ∧ Below w.heap.size w w' := by
  have hk0 := Keeps.refl w
  have hc : (a < lo ∧ clI a lo hi = lo) ∨ (lo ≤ a ∧ hi < a ∧ clI a lo hi = hi) ∨ (lo ≤ a ∧ a ≤ hi ∧ clI a lo hi = a) := by unfold clI; split <;> (try split) <;> omega
  by_cases hb : b < 1
  · have em : modI a b = 0 := by unfold modI; rw [if_pos hb]
    clear hc
    go_enter Try.func8, Try.ntmps8
    go_wp2_with fail
    go_quiet (fail)
    have hk := (hk0.alloc (.cells #[.int .i64 lo, .int .i64 hi] 23)).drewN nq
    go_wp2_with (first | (go_at_call 22; refine (mod_any _ _ _ (by omega)).mono ?_; rintro e w1 ⟨rfl, rfl⟩) | (go_at_call 20; refine (clamp_any _ _ _ _).mono ?_; rintro e w1 ⟨rfl, rfl⟩) | (go_at_call 15; refine (example8 _ _ (by first | assumption | exact Keeps.drewN (by assumption) _ | exact Keeps.alloc (by assumption) _ | exact Keeps.drewN (Keeps.alloc (by assumption) _) _)).mono ?_; rintro e w1 ⟨rfl, hk⟩))
    go_ret
    exact ⟨rfl, by assumption⟩
  · have hm : 0 ≤ modI a b ∧ modI a b < b ∧ modI a b % b = modI a b ∧ ((a.tmod b = modI a b) ∨ (∃ t, a.tmod b = t ∧ Hid (t = modI a b - b) ∧ t < 0 ∧ -b ≤ t)) := by
      have e : modI a b = a % b := by unfold modI; rw [if_neg hb]
      have h1 := Int.emod_nonneg a (show b ≠ 0 by omega)
      have h2 := Int.emod_lt_of_pos a (show 0 < b by omega)
      rw [e]
      refine ⟨h1, h2, Int.emod_emod_of_dvd a (Int.dvd_refl b), ?_⟩
      rw [Int.tmod_eq_emod]
      split
      · left; omega
      · right; exact ⟨_, rfl, by unfold Hid; omega, by omega, by omega⟩
    obtain ⟨m0, m1, m2, m3⟩ := hm
    generalize hm : modI a b = m at *
    have hb0 : ¬ b = 0 := by omega
    have t1 : decide (m < 0) = false := by simp; omega
    have t2 : decide (b ≤ m) = false := by simp; omega
    rcases m3 with m3 | ⟨t, m3, m4, m5, m6⟩
    · skip
      rcases hc with ⟨c1, c2⟩ | ⟨c1, c2, c3⟩ | ⟨c1, c2, c3⟩
      all_goals
        by_cases hl : lo ≤ hi
      all_goals
        go_enter Try.func8, Try.ntmps8
        go_wp2_with fail
        go_quiet (fail)
        have hk := hk0.alloc (.cells #[.int .i64 lo, .int .i64 hi] 23)
        go_wp2_with (first | (go_at_call 22; refine (mod_any _ _ _ (by omega)).mono ?_; rintro e w1 ⟨rfl, rfl⟩) | (go_at_call 20; refine (clamp_any _ _ _ _).mono ?_; rintro e w1 ⟨rfl, rfl⟩) | (go_at_call 15; refine (example8 _ _ (by first | assumption | exact Keeps.drewN (by assumption) _ | exact Keeps.alloc (by assumption) _ | exact Keeps.drewN (Keeps.alloc (by assumption) _) _)).mono ?_; rintro e w1 ⟨rfl, hk⟩))
      all_goals
        go_quiet (fail)
        go_wp2_with (first | (go_at_call 22; refine (mod_any _ _ _ (by omega)).mono ?_; rintro e w1 ⟨rfl, rfl⟩) | (go_at_call 20; refine (clamp_any _ _ _ _).mono ?_; rintro e w1 ⟨rfl, rfl⟩) | (go_at_call 15; refine (example8 _ _ (by first | assumption | exact Keeps.drewN (by assumption) _ | exact Keeps.alloc (by assumption) _ | exact Keeps.drewN (Keeps.alloc (by assumption) _) _)).mono ?_; rintro e w1 ⟨rfl, hk⟩))
        all_goals (go_ret; exact ⟨rfl, by assumption⟩)
    · have t7 : m.tmod b = m := by rw [Int.tmod_eq_emod_of_nonneg m0]; exact m2
      have t6 : IntKind.i64.wrap t = t := IntWalk.i64_in _ (by omega)
      have t3 : (t != m) = true := by simp; omega
      have t5 : IntKind.i64.wrap (t + b) = m := by rw [m4.out, Int.sub_add_cancel]; exact IntWalk.i64_in _ (by omega)
      rcases hc with ⟨c1, c2⟩ | ⟨c1, c2, c3⟩ | ⟨c1, c2, c3⟩
      all_goals
        by_cases hl : lo ≤ hi
      all_goals
        go_enter Try.func8, Try.ntmps8
        go_wp2_with fail
        go_quiet (fail)
        have hk := hk0.alloc (.cells #[.int .i64 lo, .int .i64 hi] 23)
        go_wp2_with (first | (go_at_call 22; refine (mod_any _ _ _ (by omega)).mono ?_; rintro e w1 ⟨rfl, rfl⟩) | (go_at_call 20; refine (clamp_any _ _ _ _).mono ?_; rintro e w1 ⟨rfl, rfl⟩) | (go_at_call 15; refine (example8 _ _ (by first | assumption | exact Keeps.drewN (by assumption) _ | exact Keeps.alloc (by assumption) _ | exact Keeps.drewN (Keeps.alloc (by assumption) _) _)).mono ?_; rintro e w1 ⟨rfl, hk⟩))
      all_goals
        go_quiet (fail)
        go_wp2_with (first | (go_at_call 22; refine (mod_any _ _ _ (by omega)).mono ?_; rintro e w1 ⟨rfl, rfl⟩) | (go_at_call 20; refine (clamp_any _ _ _ _).mono ?_; rintro e w1 ⟨rfl, rfl⟩) | (go_at_call 15; refine (example8 _ _ (by first | assumption | exact Keeps.drewN (by assumption) _ | exact Keeps.alloc (by assumption) _ | exact Keeps.drewN (Keeps.alloc (by assumption) _) _)).mono ?_; rintro e w1 ⟨rfl, hk⟩))
        all_goals (go_ret; exact ⟨rfl, by assumption⟩)

set_option maxRecDepth 100000 in
theorem lifted (os : Os) (started : os.Started) (H : Type) (enc : TypeId × Value → H) :
    ReturnsInHanded {} Try.checked os 8 .any (Rows.intmathResiduesSpec.pre6 enc Try.prog Try.f8 Rows.intmathResiduesRow.domain false) (Rows.intmathResiduesSpec.post enc Try.prog Try.f8 false true false false) := by
  refine returnsInHanded_of_change (C := Try.checked) Try.own started (by kernel_rfl) Try.func8
    (ChangeSpec.witness6 (enc := enc) (C := Try.checked) false ⟨#[], #[.int .i64 0, .int .i64 0, .agg #[.int .i64 0, .int .i64 0]], []⟩ 8 (by kernel_rfl) (by kernel_rfl) (by kernel_rfl) (by kernel_rfl)) ?_
  intro W base args ds gs before hval0 hW hcnd _
  have hval : ∀ (j : Nat) t v, Try.f8.params[j]? = some t → args[j]? = some v → Value.okWide Try.prog W .any base t v := hval0
  have hW' := hW
  obtain ⟨p, q, hA0, hV, rfl, hfz, hnd⟩ := hW
  have hA : DataW.TrodAll enc Try.prog W 0 (fun _ => true) true Try.f8.params.toList args.toList ds p := hA0
  have hAll := hA
  rw [Try.params8] at hA hval
  obtain ⟨v0, vs0, d0, ds0, p0, q0, hargs, rfl, rfl, h0, r0⟩ := trodAll_cons hA
  obtain ⟨v1, vs1, d1, ds1, p1, q1, rfl, rfl, rfl, h1, r1⟩ := trodAll_cons r0
  obtain ⟨v2, vs2, d2, ds2, p2, q2, rfl, rfl, rfl, h2, r2⟩ := trodAll_cons r1
  obtain ⟨rfl, rfl, rfl⟩ := trodAll_nil r2
  obtain rfl : args = #[v0, v1, v2] := by cases args; simp_all
  obtain ⟨rfl, rfl⟩ := trodVars_none hV
  obtain ⟨a0, rfl, _, _, w0⟩ := open_int Try.underlying3 (hval 0 3 v0 rfl rfl) h0
  obtain ⟨l0, u0⟩ := bounds_i64 w0
  obtain ⟨a1, rfl, _, _, w1⟩ := open_int Try.underlying3 (hval 1 3 v1 rfl rfl) h1
  obtain ⟨l1, u1⟩ := bounds_i64 w1
  obtain ⟨c2, rfl, L2_0⟩ := open_flat (ks := [some .i64, some .i64]) (by kernel_rfl) (by kernel_rfl) (hval 2 23 v2 rfl rfl) h2
  obtain ⟨_, c2_0, rfl, ⟨a2_0, rfl, w2_0⟩, L2_1⟩ := leafs_cons L2_0
  obtain ⟨l2_0, u2_0⟩ := bounds_i64 w2_0
  obtain ⟨_, c2_1, rfl, ⟨a2_1, rfl, w2_1⟩, L2_2⟩ := leafs_cons L2_1
  obtain ⟨l2_1, u2_1⟩ := bounds_i64 w2_1
  obtain rfl := leafs_nil L2_2
  clear hA0 hval0
  refine (walk a0 a1 a2_0 a2_1 W l0 u0 l1 u1 l2_0 u2_0 l2_1 u2_1).mono fun e W' ⟨he, bel⟩ => ?_
  subst he
  exact ⟨_, rfl, _, _, _, [], _, [], hW', trodAll_mk1 (shut_bool Try.underlying4 _), below_trodAll Try.laidOut bel (reads_of (by kernel_rfl)) hAll, rfl, bel.frame _, fun h => by cases h⟩

theorem over : Rows.intmathResiduesRow.holds Try.pinned (OpenSpec.ofChange Rows.intmathResiduesSpec) :=
  OpenClaim.holds_of_wide 8 Try.f8 rfl rfl rfl rfl rfl rfl rfl ⟨rfl, rfl, rfl, rfl, rfl⟩ rfl rfl rfl rfl rfl (by kernel_rfl) Try.func8 (by kernel_rfl)
    (of_decide_eq_true (by kernel_rfl)) (by unfold Func.isWrapper; first | (rw [if_pos (by decide +kernel)]; kernel_rfl) | (rw [if_neg (by decide +kernel)]; exact ⟨rfl, rfl⟩))
    (fun os started H enc _ => lifted os started H enc)

/-- The statement. -/
theorem proved : Rows.IntmathResiduesSaid := over
#print axioms proved
end Go.Proofs.Ytafcchemcbjocaa.intmathResidues
