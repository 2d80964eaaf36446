/- GradientSpread of grisaillelaw31 returns true for all its arguments: every two ints; no condition. -/
import Derived.Test.YtboomdbmeallfaaGd
import Derived.Test.YtboomdbmeallfaaOp
import Derived.Test.YtboomdbmeallfaaKk
namespace Go.Proofs.Ytboomdbmeallfaa.gradientSpread
open Go.RowKit Go.ChangeShapes Go.WideShapes Go.ChangeAt
set_option linter.unusedVariables false
open Go.Proofs.Ytboomdbmeallfaa
set_option linter.unusedSimpArgs false
set_option maxRecDepth 100000 in
set_option maxHeartbeats 2000000 in
theorem walk (t s : Int) (w : World) (l : -9223372036854775808 ≤ t) (u : t ≤ 9223372036854775807) (ls : -9223372036854775808 ≤ s) (us : s ≤ 9223372036854775807) :
    Calls Try.prog 3 #[.int .i64 t, .int .i64 s] w fun e w' => e = .returned (.bool true) ∧ Below w.heap.size w w' := by
  have K1 := Lib.hid (fun w => spread_any t s w l u)
  have K9 := Lib.hid (fun w => example31_any w)
  obtain ⟨n0, n1⟩ := spI_bd t s
  by_cases hb : t < -1152921504606846976 ∨ 1152921504606846976 < t
  · generalize spI t s = n at *
    clear l u ls us
    rcases hb with hb | hb
    all_goals
      go_enter Try.func3, Try.ntmps3
      go_wp2_with (first | (go_at_call 13; (with_reducible refine (K1.out _).mono ?_); rintro e w4 ⟨rfl, rfl⟩) | (go_at_call 14; (with_reducible refine (K9.out _).mono ?_); rintro e w9 ⟨rfl, hk⟩))
      all_goals
        go_ret
        exact ⟨rfl, hk⟩
  · have b0 : -1152921504606846976 ≤ t := by omega
    have b1 : t ≤ 1152921504606846976 := by omega
    clear hb
    by_cases k1 : s = 1
    · subst k1
      have hP := spI_pad (spI t 1) n0 n1
      have hT := spI_pad t
      have K2 := Lib.hid (fun w => spread_any (spI t 1) 1 w (by omega) (by omega))
      rw [hP] at K2
      generalize spI t 1 = n at *
      clear l u ls us hP
      have hT := Lib.hid hT
      by_cases h0 : 0 ≤ t
      · by_cases h1 : t ≤ 65536
        · obtain rfl := hT.out h0 h1
          go_enter Try.func3, Try.ntmps3
          go_wp2_with (first | (go_at_call 13; (first | (with_reducible refine (K1.out _).mono ?_) | (with_reducible refine (K2.out _).mono ?_)); rintro e w4 ⟨rfl, rfl⟩) | (go_at_call 14; (with_reducible refine (K9.out _).mono ?_); rintro e w9 ⟨rfl, hk⟩))
          go_ret
          exact ⟨rfl, hk⟩
        · go_enter Try.func3, Try.ntmps3
          go_wp2_with (first | (go_at_call 13; (first | (with_reducible refine (K1.out _).mono ?_) | (with_reducible refine (K2.out _).mono ?_)); rintro e w4 ⟨rfl, rfl⟩) | (go_at_call 14; (with_reducible refine (K9.out _).mono ?_); rintro e w9 ⟨rfl, hk⟩))
          all_goals
            go_ret
            exact ⟨rfl, hk⟩
      · go_enter Try.func3, Try.ntmps3
        go_wp2_with (first | (go_at_call 13; (first | (with_reducible refine (K1.out _).mono ?_) | (with_reducible refine (K2.out _).mono ?_)); rintro e w4 ⟨rfl, rfl⟩) | (go_at_call 14; (with_reducible refine (K9.out _).mono ?_); rintro e w9 ⟨rfl, hk⟩))
        all_goals
          go_ret
          exact ⟨rfl, hk⟩
    · have t1 : (s == 1) = false := beq_eq_false_iff_ne.2 k1
      by_cases k2 : s = 2
      · subst k2
        have K2 := Lib.hid (fun w => spread_any (t + 65536) 2 w (by omega) (by omega))
        rw [spI_rep] at K2
        generalize spI t 2 = n at *
        clear l u ls us
        go_enter Try.func3, Try.ntmps3
        go_wp2_with (first | (go_at_call 13; (first | (with_reducible refine (K1.out _).mono ?_) | (with_reducible refine (K2.out _).mono ?_)); rintro e w4 ⟨rfl, rfl⟩) | (go_at_call 14; (with_reducible refine (K9.out _).mono ?_); rintro e w9 ⟨rfl, hk⟩))
        all_goals
          go_ret
          exact ⟨rfl, hk⟩
      · have t2 : (s == 2) = false := beq_eq_false_iff_ne.2 k2
        by_cases k3 : s = 3
        · subst k3
          have K2 := Lib.hid (fun w => spread_any (-t) 3 w (by omega) (by omega))
          have K3 := Lib.hid (fun w => spread_any (t + 131072) 3 w (by omega) (by omega))
          have K4 := Lib.hid (fun w => spread_any (t + 65536) 3 w (by omega) (by omega))
          rw [spI_neg] at K2
          rw [spI_per] at K3
          rw [spI_half] at K4
          generalize spI t 3 = n at *
          clear l u ls us
          go_enter Try.func3, Try.ntmps3
          go_wp2_with (first | (go_at_call 13; (first | (with_reducible refine (K1.out _).mono ?_) | (with_reducible refine (K2.out _).mono ?_) | (with_reducible refine (K3.out _).mono ?_) | (with_reducible refine (K4.out _).mono ?_)); rintro e w4 ⟨rfl, rfl⟩) | (go_at_call 14; (with_reducible refine (K9.out _).mono ?_); rintro e w9 ⟨rfl, hk⟩))
          all_goals
            go_ret
            exact ⟨rfl, hk⟩
        · have t3 : (s == 3) = false := beq_eq_false_iff_ne.2 k3
          have t4 : (s != 1) = true := bne_iff_ne.2 k1
          have t5 : decide (s = 1) = false := decide_eq_false k1
          have t6 : decide (¬s = 1) = true := decide_eq_true k1
          generalize spI t s = n at *
          clear l u ls us k1 k2 k3
          go_enter Try.func3, Try.ntmps3
          go_wp2_with (first | (go_at_call 13; (first | (with_reducible refine (K1.out _).mono ?_)); rintro e w4 ⟨rfl, rfl⟩) | (go_at_call 14; (with_reducible refine (K9.out _).mono ?_); rintro e w9 ⟨rfl, hk⟩))
          all_goals
            go_ret
            exact ⟨rfl, hk⟩

set_option maxRecDepth 100000 in
theorem lifted (os : Os) (started : os.Started) (H : Type) (enc : TypeId × Value → H) :
    ReturnsInHanded {} Try.checked os 3 .any (Rows.gradientSpreadSpec.pre6 enc Try.prog Try.f3 Rows.gradientSpreadRow.domain false) (Rows.gradientSpreadSpec.post enc Try.prog Try.f3 false true false false) := by
  refine returnsInHanded_of_change (C := Try.checked) Try.own started (by kernel_rfl) Try.func3
    (ChangeSpec.witness6 (enc := enc) (C := Try.checked) false ⟨#[], #[.int .i64 0, .int .i64 0], []⟩ 8 (by kernel_rfl) (by kernel_rfl) (by kernel_rfl) (by kernel_rfl)) ?_
  intro W base args ds gs before hval0 hW hcnd _
  have hval : ∀ (j : Nat) t v, Try.f3.params[j]? = some t → args[j]? = some v → Value.okWide Try.prog W .any base t v := hval0
  have hW' := hW
  obtain ⟨p, q, hA0, hV, rfl, hfz, hnd⟩ := hW
  have hA : DataW.TrodAll enc Try.prog W 0 (fun _ => true) true Try.f3.params.toList args.toList ds p := hA0
  have hAll := hA
  rw [Try.params3] at hA hval
  obtain ⟨v0, vs0, d0, ds0, p0, q0, hargs, rfl, rfl, h0, r0⟩ := trodAll_cons hA
  obtain ⟨v1, vs1, d1, ds1, p1, q1, rfl, rfl, rfl, h1, r1⟩ := trodAll_cons r0
  obtain ⟨rfl, rfl, rfl⟩ := trodAll_nil r1
  obtain rfl : args = #[v0, v1] := by cases args; simp_all
  obtain ⟨rfl, rfl⟩ := trodVars_none hV
  obtain ⟨a0, rfl, _, _, w0⟩ := open_int Try.underlying3 (hval 0 3 v0 rfl rfl) h0
  obtain ⟨l0, u0⟩ := bounds_i64 w0
  obtain ⟨a1, rfl, _, _, w1⟩ := open_int Try.underlying3 (hval 1 3 v1 rfl rfl) h1
  obtain ⟨l1, u1⟩ := bounds_i64 w1
  clear hA0 hval0
  refine (walk a0 a1 W l0 u0 l1 u1).mono fun e W' ⟨he, bel⟩ => ?_
  subst he
  exact ⟨_, rfl, _, _, _, [], _, [], hW', trodAll_mk1 (shut_bool Try.underlying4 _), below_trodAll Try.laidOut bel (reads_of (by kernel_rfl)) hAll, rfl, bel.frame _, fun h => by cases h⟩

theorem over : Rows.gradientSpreadRow.holds Try.pinned (OpenSpec.ofChange Rows.gradientSpreadSpec) :=
  OpenClaim.holds_of_wide 3 Try.f3 rfl rfl rfl rfl rfl rfl rfl ⟨rfl, rfl, rfl, rfl, rfl⟩ rfl rfl rfl rfl rfl (by kernel_rfl) Try.func3 (by kernel_rfl)
    (of_decide_eq_true (by kernel_rfl)) (by unfold Func.isWrapper; first | (rw [if_pos (by decide +kernel)]; kernel_rfl) | (rw [if_neg (by decide +kernel)]; exact ⟨rfl, rfl⟩))
    (fun os started H enc _ => lifted os started H enc)

/-- The statement. -/
theorem proved : Rows.GradientSpreadSaid := over
#print axioms proved
end Go.Proofs.Ytboomdbmeallfaa.gradientSpread
