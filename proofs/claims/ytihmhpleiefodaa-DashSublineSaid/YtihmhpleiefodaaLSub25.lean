/- DashSubline of grisaillelaw25 returns true for all its arguments: every polyline and every two distances; no condition. -/
import Derived.Test.YtihmhpleiefodaaEb
import Derived.Test.YtihmhpleiefodaaOp
import Derived.Test.YtihmhpleiefodaaOz
namespace Go.Proofs.Ytihmhpleiefodaa.dashSubline
open Go.RowKit Go.ChangeShapes Go.WideShapes Go.ChangeAt
set_option linter.unusedVariables false
open Go.Proofs.Ytihmhpleiefodaa
attribute [local go_sem ↓] Go.wp_at_zero Go.wp_at_succ
set_option linter.unusedSimpArgs false
set_option maxRecDepth 100000 in
set_option maxHeartbeats 2000000 in
theorem walk (cl : Bool) (A : Option Addr) (n c : Nat) (L : List Pt) (f t : Int) (w : World) (h : Pts w A n c L) (a0 : -9223372036854775808 ≤ f) (a1 : f ≤ 9223372036854775807) (b0 : -9223372036854775808 ≤ t) (b1 : t ≤ 9223372036854775807) :
    Calls Try.prog 8 #[.agg #[.slice A n c, .bool cl], .int .i64 f, .int .i64 t] w fun e w' => e = .returned (.bool true) ∧ Below w.heap.size w w' := by
  have HS := Lib.hid (show ∀ w', Keeps (w.alloc (.cells #[.slice A n c, .bool cl] 24)) w' → w'.cell? ⟨w.heap.size, 0, none⟩ = some (.slice A n c) ∧ w'.frozen? ⟨w.heap.size, 0, none⟩ = false ∧ w'.cell? ⟨w.heap.size, 1, none⟩ = some (.bool cl) ∧ w'.frozen? ⟨w.heap.size, 1, none⟩ = false from fun w' hk => ⟨(hk.cell (p := ⟨w.heap.size, 0, none⟩) (by first | (simp; done) | (simp; omega))).trans (by simp [go_sem]), (hk.frozen (p := ⟨w.heap.size, 0, none⟩) (by first | (simp; done) | (simp; omega))).trans (by simp [go_sem]), (hk.cell (p := ⟨w.heap.size, 1, none⟩) (by first | (simp; done) | (simp; omega))).trans (by simp [go_sem]), (hk.frozen (p := ⟨w.heap.size, 1, none⟩) (by first | (simp; done) | (simp; omega))).trans (by simp [go_sem])⟩)
  have HB := Lib.hid (show Keeps w (w.alloc (.cells #[.slice A n c, .bool cl] 24)) from (by (repeat (first | (with_reducible exact Keeps.refl _) | (with_reducible assumption) | (with_reducible refine Keeps.drewN ?_ _) | (with_reducible refine Keeps.drew ?_) | (with_reducible refine Keeps.alloc ?_ _) | (with_reducible refine Keeps.setNew ?_ ?_ _))) <;> (dsimp only; omega)))
  have hk0 := Keeps.refl (w.alloc (.cells #[.slice A n c, .bool cl] 24))
  have KF := Lib.hid (few_any cl A n c 0 0 0 0 0 none 0 0)
  have KX := Lib.hid example25_any
  cases hf : fewB n 0 with
  | false =>
    rw [hf] at KF
    clear hf h
    go_enter Try.func8, Try.ntmps8
    obtain ⟨y0, y1, y2, y3⟩ := HS.out _ hk0
    go_wp2_with (first | (go_at_call 10; (with_reducible refine (KF.out _).mono ?_); rintro e w1 ⟨rfl, hk1⟩) | (go_at_call 11; (with_reducible refine (KX.out _).mono ?_); rintro e w2 ⟨rfl, hk2⟩))
    go_ret
    exact ⟨rfl, (HB.out.trans hk1).trans hk2⟩
  | true =>
    have hn : n ≤ 60 := by unfold fewB at hf; simp only [Bool.and_eq_true, decide_eq_true_eq] at hf; exact hf.1
    rw [hf] at KF
    clear hf
    have KS := Lib.hid (fun w' (hk : Keeps w w') => sublP_any cl A n c L f t w' (h.keep hk) (by omega))
    have KR := Lib.hid (fun w' (hk : Keeps w w') => rsublP_any cl A n c L f t w' (h.keep hk) (by omega))
    clear h
    generalize subV cl L f t = R at *
    have HT := Lib.hid (show ∀ w', Keeps (w.alloc (.cells #[.slice A n c, .bool cl] 24)) w' → (w'.cell? ⟨w.heap.size, 0, none⟩ = some (.slice A n c) ∧ w'.cell? ⟨w.heap.size, 1, none⟩ = some (.bool cl)) from fun w' hk => ⟨(HS.out _ hk).1, (HS.out _ hk).2.2.1⟩)
    go_enter Try.func8, Try.ntmps8
    obtain ⟨y0, y1, y2, y3⟩ := HS.out _ hk0
    go_upto_region 3 with (go_at_call 10; (with_reducible refine (KF.out _).mono ?_); rintro e w1 ⟨rfl, hk⟩)
    clear y0 y1 y2 y3
    generalize (w.alloc (.cells #[.slice A n c, .bool cl] 24)) = W0 at *
    go_region_held3 (fun w' => (w'.cell? ⟨w.heap.size, 0, none⟩ = some (.slice A n c) ∧ w'.cell? ⟨w.heap.size, 1, none⟩ = some (.bool cl))) (first | exact HT.out _ (by repeat (first | assumption | exact Keeps.refl _ | refine Keeps.alloc ?_ _ | refine Keeps.drewN ?_ _ | refine Keeps.drew ?_)) | go_keep) (first | (go_at_call 22; (with_reducible refine (KS.out _ (HB.out.trans (by repeat (first | assumption | exact Keeps.refl _ | refine Keeps.alloc ?_ _ | refine Keeps.drewN ?_ _ | refine Keeps.drew ?_)))).mono ?_); rintro e w3 ⟨A3, c3, rfl, hP3, hk3⟩; have hP3 := Lib.hid hP3; (try have hP4 := Lib.hid (hP4.out.keep (Keeps.trans (by repeat (first | assumption | exact Keeps.refl _ | refine Keeps.alloc ?_ _ | refine Keeps.drewN ?_ _ | refine Keeps.drew ?_)) hk3))); replace hk : Keeps W0 w3 := Keeps.trans (by repeat (first | assumption | exact Keeps.refl _ | refine Keeps.alloc ?_ _ | refine Keeps.drewN ?_ _ | refine Keeps.drew ?_)) hk3) | (go_at_call 23; (with_reducible refine (KR.out _ (HB.out.trans (by repeat (first | assumption | exact Keeps.refl _ | refine Keeps.alloc ?_ _ | refine Keeps.drewN ?_ _ | refine Keeps.drew ?_)))).mono ?_); rintro e w4 ⟨A4, c4, rfl, hP4, hk4⟩; have hP4 := Lib.hid hP4; (try have hP3 := Lib.hid (hP3.out.keep (Keeps.trans (by repeat (first | assumption | exact Keeps.refl _ | refine Keeps.alloc ?_ _ | refine Keeps.drewN ?_ _ | refine Keeps.drew ?_)) hk4))); replace hk : Keeps W0 w4 := Keeps.trans (by repeat (first | assumption | exact Keeps.refl _ | refine Keeps.alloc ?_ _ | refine Keeps.drewN ?_ _ | refine Keeps.drew ?_)) hk4) | (go_at_call 21; (with_reducible refine (same25_any _ _ 1 1 1 [(false, R)] _ (by first | exact pls_new (by repeat (first | assumption | exact Keeps.refl _ | refine Keeps.alloc ?_ _ | refine Keeps.drewN ?_ _ | refine Keeps.drew ?_)) (hP3.out.keep (by repeat (first | assumption | exact Keeps.refl _ | refine Keeps.alloc ?_ _ | refine Keeps.drewN ?_ _ | refine Keeps.drew ?_))) | exact pls_new2 (by repeat (first | assumption | exact Keeps.refl _ | refine Keeps.alloc ?_ _ | refine Keeps.drewN ?_ _ | refine Keeps.drew ?_)) (hP3.out.keep (by repeat (first | assumption | exact Keeps.refl _ | refine Keeps.alloc ?_ _ | refine Keeps.drewN ?_ _ | refine Keeps.drew ?_)))) (by first | exact pls_new (by repeat (first | assumption | exact Keeps.refl _ | refine Keeps.alloc ?_ _ | refine Keeps.drewN ?_ _ | refine Keeps.drew ?_)) (hP4.out.keep (by repeat (first | assumption | exact Keeps.refl _ | refine Keeps.alloc ?_ _ | refine Keeps.drewN ?_ _ | refine Keeps.drew ?_))) | exact pls_new2 (by repeat (first | assumption | exact Keeps.refl _ | refine Keeps.alloc ?_ _ | refine Keeps.drewN ?_ _ | refine Keeps.drew ?_)) (hP4.out.keep (by repeat (first | assumption | exact Keeps.refl _ | refine Keeps.alloc ?_ _ | refine Keeps.drewN ?_ _ | refine Keeps.drew ?_))))).mono ?_); rintro e w5 ⟨rfl, hk5⟩; replace hk : Keeps W0 w5 := Keeps.trans (by repeat (first | assumption | exact Keeps.refl _ | refine Keeps.alloc ?_ _ | refine Keeps.drewN ?_ _ | refine Keeps.drew ?_)) hk5) | (go_at_call 11; (with_reducible refine (KX.out _).mono ?_); rintro e w9 ⟨rfl, hk9⟩; replace hk : Keeps W0 w9 := Keeps.trans (by repeat (first | assumption | exact Keeps.refl _ | refine Keeps.alloc ?_ _ | refine Keeps.drewN ?_ _ | refine Keeps.drew ?_)) hk9) | fail "ARM")
    all_goals (go_wp2_with fail)
    all_goals (go_ret; exact ⟨rfl, HB.out.trans hk⟩)

set_option maxRecDepth 100000 in
theorem lifted (os : Os) (started : os.Started) (H : Type) (enc : TypeId × Value → H) :
    ReturnsInHanded {} Try.checked os 8 .any (Rows.dashSublineSpec.pre6 enc Try.prog Try.f8 Rows.dashSublineRow.domain false) (Rows.dashSublineSpec.post enc Try.prog Try.f8 false true false false) := by
  refine returnsInHanded_of_change (C := Try.checked) Try.own started (by kernel_rfl) Try.func8
    (ChangeSpec.witness6 (enc := enc) (C := Try.checked) false ⟨#[], #[.agg #[.slice none 0 0, .bool false], .int .i64 0, .int .i64 0], []⟩ 8 (by kernel_rfl) (by kernel_rfl) (by kernel_rfl) (by kernel_rfl)) ?_
  intro W base args ds gs before hval0 hW hcnd _
  have hval : ∀ (j : Nat) t v, Try.f8.params[j]? = some t → args[j]? = some v → Value.okWide Try.prog W .any base t v := hval0
  have hW' := hW
  obtain ⟨p, q, hA0, hV, rfl, hfz, hnd⟩ := hW
  have hA : DataW.TrodAll enc Try.prog W 0 (fun _ => true) true Try.f8.params.toList args.toList ds p := hA0
  have hAll := hA
  rw [Try.params8] at hA hval
  obtain ⟨v0, vs0, d0, ds0, p0, q0, hargs, rfl, rfl, h0, r0⟩ := trodAll_cons hA
  obtain ⟨v1, vs1, d1, ds1, p1, q1, rfl, rfl, rfl, h1, r1⟩ := trodAll_cons r0
  obtain ⟨v2, vs2, d2, ds2, p2, q2, rfl, rfl, rfl, h2, r2⟩ := trodAll_cons r1
  obtain ⟨rfl, rfl, rfl⟩ := trodAll_nil r2
  obtain rfl : args = #[v0, v1, v2] := by cases args; simp_all
  obtain ⟨rfl, rfl⟩ := trodVars_none hV
  obtain ⟨A0, n0, c0, L0, cl0, rfl, P0⟩ := open_poly (hval 0 24 v0 rfl rfl) h0
  obtain ⟨a1, rfl, _, _, w1⟩ := open_int Try.underlying3 (hval 1 3 v1 rfl rfl) h1
  obtain ⟨l1, u1⟩ := bounds_i64 w1
  obtain ⟨a2, rfl, _, _, w2⟩ := open_int Try.underlying3 (hval 2 3 v2 rfl rfl) h2
  obtain ⟨l2, u2⟩ := bounds_i64 w2
  clear hA0 hval0
  refine (walk cl0 A0 n0 c0 L0 a1 a2 W P0 l1 u1 l2 u2).mono fun e W' ⟨he, bel⟩ => ?_
  subst he
  exact ⟨_, rfl, _, _, _, [], _, [], hW', trodAll_mk1 (shut_bool Try.underlying4 _), below_trodAll Try.laidOut bel (reads_of (by kernel_rfl)) hAll, rfl, bel.frame _, fun h => by cases h⟩

theorem over : Rows.dashSublineRow.holds Try.pinned (OpenSpec.ofChange Rows.dashSublineSpec) :=
  OpenClaim.holds_of_wide 8 Try.f8 rfl rfl rfl rfl rfl rfl rfl ⟨rfl, rfl, rfl, rfl, rfl⟩ rfl rfl rfl rfl rfl (by kernel_rfl) Try.func8 (by kernel_rfl)
    (of_decide_eq_true (by kernel_rfl)) (by unfold Func.isWrapper; first | (rw [if_pos (by decide +kernel)]; kernel_rfl) | (rw [if_neg (by decide +kernel)]; exact ⟨rfl, rfl⟩))
    (fun os started H enc _ => lifted os started H enc)

/-- The statement. -/
theorem proved : Rows.DashSublineSaid := over
#print axioms proved
end Go.Proofs.Ytihmhpleiefodaa.dashSubline
