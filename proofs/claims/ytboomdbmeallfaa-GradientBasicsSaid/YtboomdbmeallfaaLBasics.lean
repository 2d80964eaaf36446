/- GradientBasics of grisaillelaw31 returns true for all its arguments: every slice of stops, every two ints; no condition. -/
import Derived.Test.YtboomdbmeallfaaGp
import Derived.Test.YtboomdbmeallfaaGd
import Derived.Test.YtboomdbmeallfaaGf
import Derived.Test.YtboomdbmeallfaaOs
import Derived.Test.YtboomdbmeallfaaOp
import Derived.Test.YtboomdbmeallfaaKk
namespace Go.Proofs.Ytboomdbmeallfaa.gradientBasics
open Go.RowKit Go.ChangeShapes Go.WideShapes Go.ChangeAt
set_option linter.unusedVariables false
open Go.Proofs.Ytboomdbmeallfaa
set_option linter.unusedSimpArgs false
set_option maxRecDepth 100000 in
set_option maxHeartbeats 4000000 in
theorem walk (A : Option Addr) (n c : Nat) (L : List St) (t s : Int) (w : World) (h : Sts w A n c L) (l : -9223372036854775808 ≤ t) (u : t ≤ 9223372036854775807) (ls : -9223372036854775808 ≤ s) (us : s ≤ 9223372036854775807) :
    Calls Try.prog 7 #[.slice A n c, .int .i64 t, .int .i64 s] w fun e w' => e = .returned (.bool true) ∧ Below w.heap.size w w' := by
  have K9 := Lib.hid (fun w => example31_any w)
  have hmx := h.max
  have hk0 := Keeps.refl w
  by_cases h40 : n ≤ 40
  · have K1 := Lib.hid (fun w => few_yes A n c w h40 hmx)
    have K2 := Lib.hid (fun w' (hk : Keeps w w') => valid31_any A n c L w' (h.keep hk))
    have K3 := Lib.hid (fun w' (hk : Keeps w w') => rvalid31_any A n c L w' (h.keep hk))
    have K4 := Lib.hid (fun w' => spread_any t s w' l u)
    have K5 := Lib.hid (fun w' => rspread_any t s w' l u)
    have K6 := Lib.hid (fun w' (hk : Keeps w w') => sort_any A n c L w' (h.keep hk) (by omega))
    have K7 := Lib.hid (fun w' (hk : Keeps w w') => rsort_any A n c L w' (h.keep hk) (by omega))
    generalize vB L = x at *
    generalize spI t s = y at *
    generalize srt L n = M at *
    have q1 : (x == x) = true := beq_self_eq_true x
    clear h l u ls us h40
    go_enter Try.func7, Try.ntmps7
    go_wp2_with (first | (go_at_call 15; (with_reducible refine (K1.out _).mono ?_); rintro e wf ⟨rfl, rfl⟩) | (go_at_call 16; (with_reducible refine (K2.out _ hk0).mono ?_); rintro e w2 ⟨rfl, hk⟩; replace hk0 := hk0.trans hk; clear hk) | (go_at_call 22; (with_reducible refine (K3.out _ hk0).mono ?_); rintro e w3 ⟨rfl, hk⟩; replace hk0 := hk0.trans hk; clear hk) | (go_at_call 13; (with_reducible refine (K4.out _).mono ?_); rintro e w4 ⟨rfl, rfl⟩) | (go_at_call 23; (with_reducible refine (K5.out _).mono ?_); rintro e w5 ⟨rfl, rfl⟩) | (go_at_call 25; (with_reducible refine (K6.out _ hk0).mono ?_); rintro e w6 ⟨A1, c1, rfl, hS1, hk⟩; have hS1 := Lib.hid hS1; replace hk0 := hk0.trans hk; clear hk) | (go_at_call 26; (with_reducible refine (K7.out _ hk0).mono ?_); rintro e w7 ⟨A2, c2, rfl, hS2, hk⟩; have KS := Lib.hid (same_any A1 A2 n c1 c2 M w7 (hS1.out.keep hk) hS2); replace hk0 := hk0.trans hk; clear hk hS2) | (go_at_call 24; (with_reducible refine KS.out.mono ?_); rintro e w8 ⟨rfl, hk⟩; replace hk0 := hk0.trans hk; clear hk) | (go_at_call 14; (with_reducible refine (K9.out _).mono ?_); rintro e w9 ⟨rfl, hk⟩; replace hk0 := hk0.trans hk; clear hk))
    go_ret
    exact ⟨rfl, hk0⟩
  · have K1 := Lib.hid (fun w => few_no A n c w h40 hmx)
    clear h
    go_enter Try.func7, Try.ntmps7
    go_wp2_with (first | (go_at_call 15; (with_reducible refine (K1.out _).mono ?_); rintro e wf ⟨rfl, rfl⟩) | (go_at_call 14; (with_reducible refine (K9.out _).mono ?_); rintro e w9 ⟨rfl, hk⟩; replace hk0 := hk0.trans hk; clear hk))
    go_ret
    exact ⟨rfl, hk0⟩

set_option maxRecDepth 100000 in
theorem lifted (os : Os) (started : os.Started) (H : Type) (enc : TypeId × Value → H) :
    ReturnsInHanded {} Try.checked os 7 .any (Rows.gradientBasicsSpec.pre6 enc Try.prog Try.f7 Rows.gradientBasicsRow.domain false) (Rows.gradientBasicsSpec.post enc Try.prog Try.f7 false true false false) := by
  refine returnsInHanded_of_change (C := Try.checked) Try.own started (by kernel_rfl) Try.func7
    (ChangeSpec.witness6 (enc := enc) (C := Try.checked) false ⟨#[], #[.slice none 0 0, .int .i64 0, .int .i64 0], []⟩ 8 (by kernel_rfl) (by kernel_rfl) (by kernel_rfl) (by kernel_rfl)) ?_
  intro W base args ds gs before hval0 hW hcnd _
  have hval : ∀ (j : Nat) t v, Try.f7.params[j]? = some t → args[j]? = some v → Value.okWide Try.prog W .any base t v := hval0
  have hW' := hW
  obtain ⟨p, q, hA0, hV, rfl, hfz, hnd⟩ := hW
  have hA : DataW.TrodAll enc Try.prog W 0 (fun _ => true) true Try.f7.params.toList args.toList ds p := hA0
  have hAll := hA
  rw [Try.params7] at hA hval
  obtain ⟨v0, vs0, d0, ds0, p0, q0, hargs, rfl, rfl, h0, r0⟩ := trodAll_cons hA
  obtain ⟨v1, vs1, d1, ds1, p1, q1, rfl, rfl, rfl, h1, r1⟩ := trodAll_cons r0
  obtain ⟨v2, vs2, d2, ds2, p2, q2, rfl, rfl, rfl, h2, r2⟩ := trodAll_cons r1
  obtain ⟨rfl, rfl, rfl⟩ := trodAll_nil r2
  obtain rfl : args = #[v0, v1, v2] := by cases args; simp_all
  obtain ⟨rfl, rfl⟩ := trodVars_none hV
  obtain ⟨A0, n0, c0, L0, rfl, S0⟩ := open_stops (hval 0 25 v0 rfl rfl) h0
  obtain ⟨a1, rfl, _, _, w1⟩ := open_int Try.underlying3 (hval 1 3 v1 rfl rfl) h1
  obtain ⟨l1, u1⟩ := bounds_i64 w1
  obtain ⟨a2, rfl, _, _, w2⟩ := open_int Try.underlying3 (hval 2 3 v2 rfl rfl) h2
  obtain ⟨l2, u2⟩ := bounds_i64 w2
  clear hA0 hval0
  refine (walk A0 n0 c0 L0 a1 a2 W S0 l1 u1 l2 u2).mono fun e W' ⟨he, bel⟩ => ?_
  subst he
  exact ⟨_, rfl, _, _, _, [], _, [], hW', trodAll_mk1 (shut_bool Try.underlying4 _), below_trodAll Try.laidOut bel (reads_of (by kernel_rfl)) hAll, rfl, bel.frame _, fun h => by cases h⟩

theorem over : Rows.gradientBasicsRow.holds Try.pinned (OpenSpec.ofChange Rows.gradientBasicsSpec) :=
  OpenClaim.holds_of_wide 7 Try.f7 rfl rfl rfl rfl rfl rfl rfl ⟨rfl, rfl, rfl, rfl, rfl⟩ rfl rfl rfl rfl rfl (by kernel_rfl) Try.func7 (by kernel_rfl)
    (of_decide_eq_true (by kernel_rfl)) (by unfold Func.isWrapper; first | (rw [if_pos (by decide +kernel)]; kernel_rfl) | (rw [if_neg (by decide +kernel)]; exact ⟨rfl, rfl⟩))
    (fun os started H enc _ => lifted os started H enc)

/-- The statement. -/
theorem proved : Rows.GradientBasicsSaid := over
#print axioms proved
end Go.Proofs.Ytboomdbmeallfaa.gradientBasics
