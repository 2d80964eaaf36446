/- GradientColors of grisaillelaw31 returns true for all its arguments: every slice of stops, every two ints; no condition. -/
import Derived.Test.YtboomdbmeallfaaGi
import Derived.Test.YtboomdbmeallfaaOp
import Derived.Test.YtboomdbmeallfaaKk
namespace Go.Proofs.Ytboomdbmeallfaa.gradientColors
open Go.RowKit Go.ChangeShapes Go.WideShapes Go.ChangeAt
set_option linter.unusedVariables false
open Go.Proofs.Ytboomdbmeallfaa
set_option linter.unusedSimpArgs false
set_option maxRecDepth 100000 in
set_option maxHeartbeats 4000000 in
theorem walk (A : Option Addr) (n c : Nat) (L : List St) (s t : Int) (w : World) (h : Sts w A n c L) (ls : -9223372036854775808 ≤ s) (us : s ≤ 9223372036854775807) (l : -9223372036854775808 ≤ t) (u : t ≤ 9223372036854775807) :
    Calls Try.prog 6 #[.slice A n c, .int .i64 s, .int .i64 t] w fun e w' => e = .returned (.bool true) ∧ Below w.heap.size w w' := by
  have g3 := coGuard
  have g4 := coEql
  have K9 := Lib.hid (fun w => example31_any w)
  have hmx := h.max
  have hk0 := Keeps.refl w
  by_cases h40 : n ≤ 40
  · have K1 := Lib.hid (fun w => few_yes A n c w h40 hmx)
    have K2 := Lib.hid (fun w' (hk : Keeps w w') => colorAt_any A n c L t w' (h.keep hk) l u)
    have K3 := Lib.hid (fun w' (hk : Keeps w w') => rcolorAt_any A n c L t w' (h.keep hk) l u)
    have K4 := Lib.hid (fun w' (hk : Keeps w w') => spreadCol_any A n c L s t w' (h.keep hk) l u)
    have K5 := Lib.hid (fun w' (hk : Keeps w w') => rspreadCol_any A n c L s t w' (h.keep hk) l u)
    generalize cAt L t = x at *
    generalize scAt L s t = y at *
    unfold colV at K2 K3 K4 K5
    have q1 := eq4_refl x.1 x.2.1 x.2.2.1 x.2.2.2
    have q2 := eq4_refl y.1 y.2.1 y.2.2.1 y.2.2.2
    clear h l u ls us h40
    go_enter Try.func6, Try.ntmps6
    go_wp2_with (first | (go_at_call 15; (with_reducible refine (K1.out _).mono ?_); rintro e wf ⟨rfl, rfl⟩) | (go_at_call 17; (with_reducible refine (K2.out _ hk0).mono ?_); rintro e w2 ⟨rfl, hk⟩; replace hk0 := hk0.trans hk; clear hk) | (go_at_call 19; (with_reducible refine (K3.out _ hk0).mono ?_); rintro e w3 ⟨rfl, hk⟩; replace hk0 := hk0.trans hk; clear hk) | (go_at_call 20; (with_reducible refine (K4.out _ hk0).mono ?_); rintro e w4 ⟨rfl, hk⟩; replace hk0 := hk0.trans hk; clear hk) | (go_at_call 21; (with_reducible refine (K5.out _ hk0).mono ?_); rintro e w5 ⟨rfl, hk⟩; replace hk0 := hk0.trans hk; clear hk) | (go_at_call 14; (with_reducible refine (K9.out _).mono ?_); rintro e w9 ⟨rfl, hk⟩; replace hk0 := hk0.trans hk; clear hk))
    go_ret
    exact ⟨rfl, hk0⟩
  · have K1 := Lib.hid (fun w => few_no A n c w h40 hmx)
    clear h
    go_enter Try.func6, Try.ntmps6
    go_wp2_with (first | (go_at_call 15; (with_reducible refine (K1.out _).mono ?_); rintro e wf ⟨rfl, rfl⟩) | (go_at_call 14; (with_reducible refine (K9.out _).mono ?_); rintro e w9 ⟨rfl, hk⟩; replace hk0 := hk0.trans hk; clear hk))
    go_ret
    exact ⟨rfl, hk0⟩

set_option maxRecDepth 100000 in
theorem lifted (os : Os) (started : os.Started) (H : Type) (enc : TypeId × Value → H) :
    ReturnsInHanded {} Try.checked os 6 .any (Rows.gradientColorsSpec.pre6 enc Try.prog Try.f6 Rows.gradientColorsRow.domain false) (Rows.gradientColorsSpec.post enc Try.prog Try.f6 false true false false) := by
  refine returnsInHanded_of_change (C := Try.checked) Try.own started (by kernel_rfl) Try.func6
    (ChangeSpec.witness6 (enc := enc) (C := Try.checked) false ⟨#[], #[.slice none 0 0, .int .i64 0, .int .i64 0], []⟩ 8 (by kernel_rfl) (by kernel_rfl) (by kernel_rfl) (by kernel_rfl)) ?_
  intro W base args ds gs before hval0 hW hcnd _
  have hval : ∀ (j : Nat) t v, Try.f6.params[j]? = some t → args[j]? = some v → Value.okWide Try.prog W .any base t v := hval0
  have hW' := hW
  obtain ⟨p, q, hA0, hV, rfl, hfz, hnd⟩ := hW
  have hA : DataW.TrodAll enc Try.prog W 0 (fun _ => true) true Try.f6.params.toList args.toList ds p := hA0
  have hAll := hA
  rw [Try.params6] at hA hval
  obtain ⟨v0, vs0, d0, ds0, p0, q0, hargs, rfl, rfl, h0, r0⟩ := trodAll_cons hA
  obtain ⟨v1, vs1, d1, ds1, p1, q1, rfl, rfl, rfl, h1, r1⟩ := trodAll_cons r0
  obtain ⟨v2, vs2, d2, ds2, p2, q2, rfl, rfl, rfl, h2, r2⟩ := trodAll_cons r1
  obtain ⟨rfl, rfl, rfl⟩ := trodAll_nil r2
  obtain rfl : args = #[v0, v1, v2] := by cases args; simp_all
  obtain ⟨rfl, rfl⟩ := trodVars_none hV
  obtain ⟨A0, n0, c0, L0, rfl, S0⟩ := open_stops (hval 0 25 v0 rfl rfl) h0
  obtain ⟨a1, rfl, _, _, w1⟩ := open_int Try.underlying3 (hval 1 3 v1 rfl rfl) h1
  obtain ⟨l1, u1⟩ := bounds_i64 w1
  obtain ⟨a2, rfl, _, _, w2⟩ := open_int Try.underlying3 (hval 2 3 v2 rfl rfl) h2
  obtain ⟨l2, u2⟩ := bounds_i64 w2
  clear hA0 hval0
  refine (walk A0 n0 c0 L0 a1 a2 W S0 l1 u1 l2 u2).mono fun e W' ⟨he, bel⟩ => ?_
  subst he
  exact ⟨_, rfl, _, _, _, [], _, [], hW', trodAll_mk1 (shut_bool Try.underlying4 _), below_trodAll Try.laidOut bel (reads_of (by kernel_rfl)) hAll, rfl, bel.frame _, fun h => by cases h⟩

theorem over : Rows.gradientColorsRow.holds Try.pinned (OpenSpec.ofChange Rows.gradientColorsSpec) :=
  OpenClaim.holds_of_wide 6 Try.f6 rfl rfl rfl rfl rfl rfl rfl ⟨rfl, rfl, rfl, rfl, rfl⟩ rfl rfl rfl rfl rfl (by kernel_rfl) Try.func6 (by kernel_rfl)
    (of_decide_eq_true (by kernel_rfl)) (by unfold Func.isWrapper; first | (rw [if_pos (by decide +kernel)]; kernel_rfl) | (rw [if_neg (by decide +kernel)]; exact ⟨rfl, rfl⟩))
    (fun os started H enc _ => lifted os started H enc)

/-- The statement. -/
theorem proved : Rows.GradientColorsSaid := over
#print axioms proved
end Go.Proofs.Ytboomdbmeallfaa.gradientColors
