/- GradientTable of grisaillelaw31 returns true for all its arguments: every slice of stops and every int; no condition. -/
import Derived.Test.YtboomdbmeallfaaGk
import Derived.Test.YtboomdbmeallfaaOp
import Derived.Test.YtboomdbmeallfaaKk
namespace Go.Proofs.Ytboomdbmeallfaa.gradientTable
open Go.RowKit Go.ChangeShapes Go.WideShapes Go.ChangeAt
set_option linter.unusedVariables false
open Go.Proofs.Ytboomdbmeallfaa
set_option linter.unusedSimpArgs false
theorem cols_nil (w : World) : Cols w none 0 (fun _ => col0) := ⟨by omega, fun h => absurd h (by omega)⟩
set_option maxRecDepth 100000 in
set_option maxHeartbeats 4000000 in
theorem walk (A : Option Addr) (m c : Nat) (L : List St) (n : Int) (w : World) (h : Sts w A m c L) (ln : -9223372036854775808 ≤ n) (un : n ≤ 9223372036854775807) :
    Calls Try.prog 9 #[.slice A m c, .int .i64 n] w fun e w' => e = .returned (.bool true) ∧ Below w.heap.size w w' := by
  have K9 := Lib.hid (fun w => example31_any w)
  have hmx := h.max
  have hk0 := Keeps.refl w
  by_cases h40 : m ≤ 40
  · have KF := Lib.hid (fun w => few_yes A m c w h40 hmx)
    by_cases hmid : 300 < n ∧ n ≤ 4096
    · obtain ⟨m0, m1⟩ := hmid
      clear h
      go_enter Try.func9, Try.ntmps9
      go_wp2_with (first | (go_at_call 15; (with_reducible refine (KF.out _).mono ?_); rintro e wf ⟨rfl, rfl⟩) | (go_at_call 14; (with_reducible refine (K9.out _).mono ?_); rintro e w9 ⟨rfl, hk9⟩; replace hk0 := hk0.trans hk9; clear hk9))
      go_ret
      exact ⟨rfl, hk0⟩
    · cases hv : vB L with
      | false =>
        have K1 := Lib.hid (fun w' (hk : Keeps w w') => tab_inv A m c L n w' (h.keep hk) hv)
        have K2 := Lib.hid (fun w' (hk : Keeps w w') => rtab_inv A m c L n w' (h.keep hk) hv)
        have K3 := Lib.hid (fun w' => colors_any none none 0 0 0 _ w' (cols_nil w') (cols_nil w'))
        clear h hv
        (go_enter Try.func9, Try.ntmps9; go_wp2_with (first | (go_at_call 15; (with_reducible refine (KF.out _).mono ?_); rintro e wf ⟨rfl, rfl⟩) | (go_at_call 28; (with_reducible refine (K1.out _ hk0).mono ?_); rintro e w1 ⟨rfl, hk⟩; replace hk0 := hk0.trans hk; clear hk) | (go_at_call 29; (with_reducible refine (K2.out _ hk0).mono ?_); rintro e w2 ⟨rfl, hk⟩; replace hk0 := hk0.trans hk; clear hk) | (go_at_call 30; (with_reducible refine (K3.out _).mono ?_); rintro e w3 ⟨rfl, hk⟩; replace hk0 := hk0.trans hk; clear hk) | (go_at_call 14; (with_reducible refine (K9.out _).mono ?_); rintro e w9 ⟨rfl, hk9⟩; replace hk0 := hk0.trans hk9; clear hk9)); all_goals (go_ret; exact ⟨rfl, hk0⟩))
      | true =>
        by_cases hlow : n < 1
        · have K1 := Lib.hid (fun w' (hk : Keeps w w') => tab_low A m c L n w' (h.keep hk) hv hlow)
          have K2 := Lib.hid (fun w' (hk : Keeps w w') => rtab_low A m c L n w' (h.keep hk) hv hlow)
          have K3 := Lib.hid (fun w' => colors_any none none 0 0 0 _ w' (cols_nil w') (cols_nil w'))
          clear h hv
          (go_enter Try.func9, Try.ntmps9; go_wp2_with (first | (go_at_call 15; (with_reducible refine (KF.out _).mono ?_); rintro e wf ⟨rfl, rfl⟩) | (go_at_call 28; (with_reducible refine (K1.out _ hk0).mono ?_); rintro e w1 ⟨rfl, hk⟩; replace hk0 := hk0.trans hk; clear hk) | (go_at_call 29; (with_reducible refine (K2.out _ hk0).mono ?_); rintro e w2 ⟨rfl, hk⟩; replace hk0 := hk0.trans hk; clear hk) | (go_at_call 30; (with_reducible refine (K3.out _).mono ?_); rintro e w3 ⟨rfl, hk⟩; replace hk0 := hk0.trans hk; clear hk) | (go_at_call 14; (with_reducible refine (K9.out _).mono ?_); rintro e w9 ⟨rfl, hk9⟩; replace hk0 := hk0.trans hk9; clear hk9)); all_goals (go_ret; exact ⟨rfl, hk0⟩))
        · by_cases hhigh : 4096 < n
          · have K1 := Lib.hid (fun w' (hk : Keeps w w') => tab_high A m c L n w' (h.keep hk) hv hhigh)
            have K2 := Lib.hid (fun w' (hk : Keeps w w') => rtab_high A m c L n w' (h.keep hk) hv hhigh)
            have K3 := Lib.hid (fun w' => colors_any none none 0 0 0 _ w' (cols_nil w') (cols_nil w'))
            clear h hv
            (go_enter Try.func9, Try.ntmps9; go_wp2_with (first | (go_at_call 15; (with_reducible refine (KF.out _).mono ?_); rintro e wf ⟨rfl, rfl⟩) | (go_at_call 28; (with_reducible refine (K1.out _ hk0).mono ?_); rintro e w1 ⟨rfl, hk⟩; replace hk0 := hk0.trans hk; clear hk) | (go_at_call 29; (with_reducible refine (K2.out _ hk0).mono ?_); rintro e w2 ⟨rfl, hk⟩; replace hk0 := hk0.trans hk; clear hk) | (go_at_call 30; (with_reducible refine (K3.out _).mono ?_); rintro e w3 ⟨rfl, hk⟩; replace hk0 := hk0.trans hk; clear hk) | (go_at_call 14; (with_reducible refine (K9.out _).mono ?_); rintro e w9 ⟨rfl, hk9⟩; replace hk0 := hk0.trans hk9; clear hk9)); all_goals (go_ret; exact ⟨rfl, hk0⟩))
          · obtain ⟨k, rfl⟩ := Int.eq_ofNat_of_zero_le (show 0 ≤ n by omega)
            have K1 := Lib.hid (fun w' (hk : Keeps w w') => table_any A m c L k w' (h.keep hk) hv (by omega) (by omega))
            have K2 := Lib.hid (fun w' (hk : Keeps w w') => rtable_any A m c L k w' (h.keep hk) hv (by omega) (by omega))
            have hk300 : (k : Int) ≤ 300 := by omega
            clear h hv
            go_enter Try.func9, Try.ntmps9
            go_wp2_with (first | (go_at_call 15; (with_reducible refine (KF.out _).mono ?_); rintro e wf ⟨rfl, rfl⟩) | (go_at_call 28; (with_reducible refine (K1.out _ hk0).mono ?_); rintro e w1 ⟨A1, rfl, hC, hk⟩; replace hk0 := hk0.trans hk; clear hk) | (go_at_call 29; (with_reducible refine (K2.out _ hk0).mono ?_); rintro e w2 ⟨A2, c2, rfl, hD, hk⟩; replace hk0 := hk0.trans hk; have K3 := Lib.hid (fun c1 => colors_any A1 A2 k c1 c2 _ w2 (hC.keep hk) hD); clear hk) | (go_at_call 30; (with_reducible refine (K3.out _).mono ?_); rintro e w3 ⟨rfl, hk⟩; replace hk0 := hk0.trans hk; clear hk) | (go_at_call 14; (with_reducible refine (K9.out _).mono ?_); rintro e w9 ⟨rfl, hk9⟩; replace hk0 := hk0.trans hk9; clear hk9))
            go_ret
            exact ⟨rfl, hk0⟩
  · have KF := Lib.hid (fun w => few_no A m c w h40 hmx)
    clear h
    go_enter Try.func9, Try.ntmps9
    go_wp2_with (first | (go_at_call 15; (with_reducible refine (KF.out _).mono ?_); rintro e wf ⟨rfl, rfl⟩) | (go_at_call 14; (with_reducible refine (K9.out _).mono ?_); rintro e w9 ⟨rfl, hk9⟩; replace hk0 := hk0.trans hk9; clear hk9))
    go_ret
    exact ⟨rfl, hk0⟩

set_option maxRecDepth 100000 in
theorem lifted (os : Os) (started : os.Started) (H : Type) (enc : TypeId × Value → H) :
    ReturnsInHanded {} Try.checked os 9 .any (Rows.gradientTableSpec.pre6 enc Try.prog Try.f9 Rows.gradientTableRow.domain false) (Rows.gradientTableSpec.post enc Try.prog Try.f9 false true false false) := by
  refine returnsInHanded_of_change (C := Try.checked) Try.own started (by kernel_rfl) Try.func9
    (ChangeSpec.witness6 (enc := enc) (C := Try.checked) false ⟨#[], #[.slice none 0 0, .int .i64 0], []⟩ 8 (by kernel_rfl) (by kernel_rfl) (by kernel_rfl) (by kernel_rfl)) ?_
  intro W base args ds gs before hval0 hW hcnd _
  have hval : ∀ (j : Nat) t v, Try.f9.params[j]? = some t → args[j]? = some v → Value.okWide Try.prog W .any base t v := hval0
  have hW' := hW
  obtain ⟨p, q, hA0, hV, rfl, hfz, hnd⟩ := hW
  have hA : DataW.TrodAll enc Try.prog W 0 (fun _ => true) true Try.f9.params.toList args.toList ds p := hA0
  have hAll := hA
  rw [Try.params9] at hA hval
  obtain ⟨v0, vs0, d0, ds0, p0, q0, hargs, rfl, rfl, h0, r0⟩ := trodAll_cons hA
  obtain ⟨v1, vs1, d1, ds1, p1, q1, rfl, rfl, rfl, h1, r1⟩ := trodAll_cons r0
  obtain ⟨rfl, rfl, rfl⟩ := trodAll_nil r1
  obtain rfl : args = #[v0, v1] := by cases args; simp_all
  obtain ⟨rfl, rfl⟩ := trodVars_none hV
  obtain ⟨A0, n0, c0, L0, rfl, S0⟩ := open_stops (hval 0 25 v0 rfl rfl) h0
  obtain ⟨a1, rfl, _, _, w1⟩ := open_int Try.underlying3 (hval 1 3 v1 rfl rfl) h1
  obtain ⟨l1, u1⟩ := bounds_i64 w1
  clear hA0 hval0
  refine (walk A0 n0 c0 L0 a1 W S0 l1 u1).mono fun e W' ⟨he, bel⟩ => ?_
  subst he
  exact ⟨_, rfl, _, _, _, [], _, [], hW', trodAll_mk1 (shut_bool Try.underlying4 _), below_trodAll Try.laidOut bel (reads_of (by kernel_rfl)) hAll, rfl, bel.frame _, fun h => by cases h⟩

theorem over : Rows.gradientTableRow.holds Try.pinned (OpenSpec.ofChange Rows.gradientTableSpec) :=
  OpenClaim.holds_of_wide 9 Try.f9 rfl rfl rfl rfl rfl rfl rfl ⟨rfl, rfl, rfl, rfl, rfl⟩ rfl rfl rfl rfl rfl (by kernel_rfl) Try.func9 (by kernel_rfl)
    (of_decide_eq_true (by kernel_rfl)) (by unfold Func.isWrapper; first | (rw [if_pos (by decide +kernel)]; kernel_rfl) | (rw [if_neg (by decide +kernel)]; exact ⟨rfl, rfl⟩))
    (fun os started H enc _ => lifted os started H enc)

/-- The statement. -/
theorem proved : Rows.GradientTableSaid := over
#print axioms proved
end Go.Proofs.Ytboomdbmeallfaa.gradientTable
