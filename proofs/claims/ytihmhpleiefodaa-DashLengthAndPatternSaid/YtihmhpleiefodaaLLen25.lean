/- DashLengthAndPattern of grisaillelaw25 returns true for all its arguments: every polyline, every stroke style and every distance; no condition. -/
import Derived.Test.YtihmhpleiefodaaE25
import Derived.Test.YtihmhpleiefodaaDt
import Derived.Test.YtihmhpleiefodaaOp
import Derived.Test.YtihmhpleiefodaaOz
namespace Go.Proofs.Ytihmhpleiefodaa.dashLengthAndPattern
open Go.RowKit Go.ChangeShapes Go.WideShapes Go.ChangeAt
set_option linter.unusedVariables false
open Go.Proofs.Ytihmhpleiefodaa
attribute [local go_sem ↓] Go.wp_at_zero Go.wp_at_succ
set_option linter.unusedSimpArgs false
set_option maxRecDepth 100000 in
set_option maxHeartbeats 2000000 in
theorem walk (cl : Bool) (A : Option Addr) (n c : Nat) (L : List Pt) (wd jn cp ml ph : Int) (Ad : Option Addr) (nd cd : Nat) (D : List Int) (at' : Int) (w : World) (h : Pts w A n c L) (hI : Ins w Ad nd cd D) (hB : i64b wd ∧ i64b jn ∧ i64b cp ∧ i64b ml ∧ i64b ph) (a0 : -9223372036854775808 ≤ at') (a1 : at' ≤ 9223372036854775807) :
    Calls Try.prog 3 #[.agg #[.slice A n c, .bool cl], .agg #[.int .i64 wd, .int .i64 jn, .int .i64 cp, .int .i64 ml, .slice Ad nd cd, .int .i64 ph], .int .i64 at'] w fun e w' => e = .returned (.bool true) ∧ Below w.heap.size w w' := by
  have HS := Lib.hid (show ∀ w', Keeps ((w.alloc (.cells #[.slice A n c, .bool cl] 24)).alloc (.cells #[.int .i64 wd, .int .i64 jn, .int .i64 cp, .int .i64 ml, .slice Ad nd cd, .int .i64 ph] 27)) w' → w'.cell? ⟨w.heap.size, 0, none⟩ = some (.slice A n c) ∧ w'.frozen? ⟨w.heap.size, 0, none⟩ = false ∧ w'.cell? ⟨w.heap.size, 1, none⟩ = some (.bool cl) ∧ w'.frozen? ⟨w.heap.size, 1, none⟩ = false ∧ w'.cell? ⟨w.heap.size + 1, 0, none⟩ = some (.int .i64 wd) ∧ w'.frozen? ⟨w.heap.size + 1, 0, none⟩ = false ∧ w'.cell? ⟨w.heap.size + 1, 1, none⟩ = some (.int .i64 jn) ∧ w'.frozen? ⟨w.heap.size + 1, 1, none⟩ = false ∧ w'.cell? ⟨w.heap.size + 1, 2, none⟩ = some (.int .i64 cp) ∧ w'.frozen? ⟨w.heap.size + 1, 2, none⟩ = false ∧ w'.cell? ⟨w.heap.size + 1, 3, none⟩ = some (.int .i64 ml) ∧ w'.frozen? ⟨w.heap.size + 1, 3, none⟩ = false ∧ w'.cell? ⟨w.heap.size + 1, 4, none⟩ = some (.slice Ad nd cd) ∧ w'.frozen? ⟨w.heap.size + 1, 4, none⟩ = false ∧ w'.cell? ⟨w.heap.size + 1, 5, none⟩ = some (.int .i64 ph) ∧ w'.frozen? ⟨w.heap.size + 1, 5, none⟩ = false from fun w' hk => ⟨(hk.cell (p := ⟨w.heap.size, 0, none⟩) (by first | (simp; done) | (simp; omega))).trans (by simp [go_sem]), (hk.frozen (p := ⟨w.heap.size, 0, none⟩) (by first | (simp; done) | (simp; omega))).trans (by simp [go_sem]), (hk.cell (p := ⟨w.heap.size, 1, none⟩) (by first | (simp; done) | (simp; omega))).trans (by simp [go_sem]), (hk.frozen (p := ⟨w.heap.size, 1, none⟩) (by first | (simp; done) | (simp; omega))).trans (by simp [go_sem]), (hk.cell (p := ⟨w.heap.size + 1, 0, none⟩) (by first | (simp; done) | (simp; omega))).trans (by simp [go_sem]), (hk.frozen (p := ⟨w.heap.size + 1, 0, none⟩) (by first | (simp; done) | (simp; omega))).trans (by simp [go_sem]), (hk.cell (p := ⟨w.heap.size + 1, 1, none⟩) (by first | (simp; done) | (simp; omega))).trans (by simp [go_sem]), (hk.frozen (p := ⟨w.heap.size + 1, 1, none⟩) (by first | (simp; done) | (simp; omega))).trans (by simp [go_sem]), (hk.cell (p := ⟨w.heap.size + 1, 2, none⟩) (by first | (simp; done) | (simp; omega))).trans (by simp [go_sem]), (hk.frozen (p := ⟨w.heap.size + 1, 2, none⟩) (by first | (simp; done) | (simp; omega))).trans (by simp [go_sem]), (hk.cell (p := ⟨w.heap.size + 1, 3, none⟩) (by first | (simp; done) | (simp; omega))).trans (by simp [go_sem]), (hk.frozen (p := ⟨w.heap.size + 1, 3, none⟩) (by first | (simp; done) | (simp; omega))).trans (by simp [go_sem]), (hk.cell (p := ⟨w.heap.size + 1, 4, none⟩) (by first | (simp; done) | (simp; omega))).trans (by simp [go_sem]), (hk.frozen (p := ⟨w.heap.size + 1, 4, none⟩) (by first | (simp; done) | (simp; omega))).trans (by simp [go_sem]), (hk.cell (p := ⟨w.heap.size + 1, 5, none⟩) (by first | (simp; done) | (simp; omega))).trans (by simp [go_sem]), (hk.frozen (p := ⟨w.heap.size + 1, 5, none⟩) (by first | (simp; done) | (simp; omega))).trans (by simp [go_sem])⟩)
  have HB := Lib.hid (show Keeps w ((w.alloc (.cells #[.slice A n c, .bool cl] 24)).alloc (.cells #[.int .i64 wd, .int .i64 jn, .int .i64 cp, .int .i64 ml, .slice Ad nd cd, .int .i64 ph] 27)) from (by (repeat (first | (with_reducible exact Keeps.refl _) | (with_reducible assumption) | (with_reducible refine Keeps.drewN ?_ _) | (with_reducible refine Keeps.drew ?_) | (with_reducible refine Keeps.alloc ?_ _) | (with_reducible refine Keeps.setNew ?_ ?_ _))) <;> (dsimp only; omega)))
  have hk0 := Keeps.refl ((w.alloc (.cells #[.slice A n c, .bool cl] 24)).alloc (.cells #[.int .i64 wd, .int .i64 jn, .int .i64 cp, .int .i64 ml, .slice Ad nd cd, .int .i64 ph] 27))
  have KF := Lib.hid (few_any cl A n c wd jn cp ml ph Ad nd cd)
  have KX := Lib.hid example25_any
  cases hf : fewB n nd with
  | false =>
    rw [hf] at KF
    clear hf h hI hB
    go_enter Try.func3, Try.ntmps3
    obtain ⟨y0, y1, y2, y3, y4, y5, y6, y7, y8, y9, y10, y11, y12, y13, y14, y15⟩ := HS.out _ hk0
    go_wp2_with (first | (go_at_call 10; (with_reducible refine (KF.out _).mono ?_); rintro e w1 ⟨rfl, hk1⟩) | (go_at_call 11; (with_reducible refine (KX.out _).mono ?_); rintro e w2 ⟨rfl, hk2⟩))
    go_ret
    exact ⟨rfl, (HB.out.trans hk1).trans hk2⟩
  | true =>
    have hn : n ≤ 60 := by unfold fewB at hf; simp only [Bool.and_eq_true, decide_eq_true_eq] at hf; exact hf.1
    rw [hf] at KF
    clear hf
    have K1 := Lib.hid (fun k : KW ((w.alloc (.cells #[.slice A n c, .bool cl] 24)).alloc (.cells #[.int .i64 wd, .int .i64 jn, .int .i64 cp, .int .i64 ml, .slice Ad nd cd, .int .i64 ph] 27)) => keepq (dlen_any cl A n c L k.w (h.keep (HB.out.trans k.keeps)) (by omega)))
    have K2 := Lib.hid (fun k : KW ((w.alloc (.cells #[.slice A n c, .bool cl] 24)).alloc (.cells #[.int .i64 wd, .int .i64 jn, .int .i64 cp, .int .i64 ml, .slice Ad nd cd, .int .i64 ph] 27)) => keepq (rdlen_any cl A n c L k.w (h.keep (HB.out.trans k.keeps)) (by omega)))
    have K3 := Lib.hid (fun k : KW ((w.alloc (.cells #[.slice A n c, .bool cl] 24)).alloc (.cells #[.int .i64 wd, .int .i64 jn, .int .i64 cp, .int .i64 ml, .slice Ad nd cd, .int .i64 ph] 27)) => keepq (ison_any wd jn cp ml ph Ad nd cd D at' k.w (hI.keep (HB.out.trans k.keeps)) (by omega)))
    have K4 := Lib.hid (fun k : KW ((w.alloc (.cells #[.slice A n c, .bool cl] 24)).alloc (.cells #[.int .i64 wd, .int .i64 jn, .int .i64 cp, .int .i64 ml, .slice Ad nd cd, .int .i64 ph] 27)) => keepq (rison_any wd jn cp ml ph Ad nd cd D at' k.w (hI.keep (HB.out.trans k.keeps)) (by omega)))
    have K9 := Lib.hid (fun k : KW ((w.alloc (.cells #[.slice A n c, .bool cl] 24)).alloc (.cells #[.int .i64 wd, .int .i64 jn, .int .i64 cp, .int .i64 ml, .slice Ad nd cd, .int .i64 ph] 27)) => keepq (example25_any k.w))
    have z0 := fun k : KW ((w.alloc (.cells #[.slice A n c, .bool cl] 24)).alloc (.cells #[.int .i64 wd, .int .i64 jn, .int .i64 cp, .int .i64 ml, .slice Ad nd cd, .int .i64 ph] 27)) => (show k.w.cell? ⟨w.heap.size, 0, none⟩ = some (.slice A n c) from (HS.out _ k.keeps).1)
    have z1 := fun k : KW ((w.alloc (.cells #[.slice A n c, .bool cl] 24)).alloc (.cells #[.int .i64 wd, .int .i64 jn, .int .i64 cp, .int .i64 ml, .slice Ad nd cd, .int .i64 ph] 27)) => (show k.w.cell? ⟨w.heap.size, 1, none⟩ = some (.bool cl) from (HS.out _ k.keeps).2.2.1)
    have z2 := fun k : KW ((w.alloc (.cells #[.slice A n c, .bool cl] 24)).alloc (.cells #[.int .i64 wd, .int .i64 jn, .int .i64 cp, .int .i64 ml, .slice Ad nd cd, .int .i64 ph] 27)) => (show k.w.cell? ⟨w.heap.size + 1, 0, none⟩ = some (.int .i64 wd) from (HS.out _ k.keeps).2.2.2.2.1)
    have z3 := fun k : KW ((w.alloc (.cells #[.slice A n c, .bool cl] 24)).alloc (.cells #[.int .i64 wd, .int .i64 jn, .int .i64 cp, .int .i64 ml, .slice Ad nd cd, .int .i64 ph] 27)) => (show k.w.cell? ⟨w.heap.size + 1, 1, none⟩ = some (.int .i64 jn) from (HS.out _ k.keeps).2.2.2.2.2.2.1)
    have z4 := fun k : KW ((w.alloc (.cells #[.slice A n c, .bool cl] 24)).alloc (.cells #[.int .i64 wd, .int .i64 jn, .int .i64 cp, .int .i64 ml, .slice Ad nd cd, .int .i64 ph] 27)) => (show k.w.cell? ⟨w.heap.size + 1, 2, none⟩ = some (.int .i64 cp) from (HS.out _ k.keeps).2.2.2.2.2.2.2.2.1)
    have z5 := fun k : KW ((w.alloc (.cells #[.slice A n c, .bool cl] 24)).alloc (.cells #[.int .i64 wd, .int .i64 jn, .int .i64 cp, .int .i64 ml, .slice Ad nd cd, .int .i64 ph] 27)) => (show k.w.cell? ⟨w.heap.size + 1, 3, none⟩ = some (.int .i64 ml) from (HS.out _ k.keeps).2.2.2.2.2.2.2.2.2.2.1)
    have z6 := fun k : KW ((w.alloc (.cells #[.slice A n c, .bool cl] 24)).alloc (.cells #[.int .i64 wd, .int .i64 jn, .int .i64 cp, .int .i64 ml, .slice Ad nd cd, .int .i64 ph] 27)) => (show k.w.cell? ⟨w.heap.size + 1, 4, none⟩ = some (.slice Ad nd cd) from (HS.out _ k.keeps).2.2.2.2.2.2.2.2.2.2.2.2.1)
    have z7 := fun k : KW ((w.alloc (.cells #[.slice A n c, .bool cl] 24)).alloc (.cells #[.int .i64 wd, .int .i64 jn, .int .i64 cp, .int .i64 ml, .slice Ad nd cd, .int .i64 ph] 27)) => (show k.w.cell? ⟨w.heap.size + 1, 5, none⟩ = some (.int .i64 ph) from (HS.out _ k.keeps).2.2.2.2.2.2.2.2.2.2.2.2.2.2.1)
    clear h hI hB
    generalize lenP cl L = t at *
    generalize isOnB wd jn cp ml ph D at' = b at *
    have q1 : (b == b) = true := beq_self_eq_true _
    have q2 : (t == t) = true := beq_self_eq_true _
    go_enter Try.func3, Try.ntmps3
    obtain ⟨y0, y1, y2, y3, y4, y5, y6, y7, y8, y9, y10, y11, y12, y13, y14, y15⟩ := HS.out _ hk0
    go_upto_region 3 with (go_at_call 10; (with_reducible refine (KF.out _).mono ?_); rintro e w1 ⟨rfl, hk1⟩)
    refine wp_region_kept (((w.alloc (.cells #[.slice A n c, .bool cl] 24)).alloc (.cells #[.int .i64 wd, .int .i64 jn, .int .i64 cp, .int .i64 ml, .slice Ad nd cd, .int .i64 ph] 27))) (by kernel_rfl) (by kernel_rfl) (hk1) ?_
    repeat (first | go_big_quiet_skip | (go_big_quiet_want; go_big_quiet_op; first | go_big_quiet_on | go_big_quiet_call ((first | (go_at_call 12; first | (with_reducible exact K1.out _)) | (go_at_call 13; first | (with_reducible exact K2.out _)) | (go_at_call 14; first | (with_reducible exact K3.out _)) | (go_at_call 15; first | (with_reducible exact K4.out _)) | (go_at_call 11; first | (with_reducible exact K9.out _))))))
    refine wpQuiet_nil ?_
    rintro w' ⟨k9, rfl⟩
    have hk := k9.keeps
    generalize k9.w = w9 at hk ⊢
    clear k9
    go_wp2_with fail
    go_ret
    exact ⟨rfl, HB.out.trans hk⟩

set_option maxRecDepth 100000 in
theorem lifted (os : Os) (started : os.Started) (H : Type) (enc : TypeId × Value → H) :
    ReturnsInHanded {} Try.checked os 3 .any (Rows.dashLengthAndPatternSpec.pre6 enc Try.prog Try.f3 Rows.dashLengthAndPatternRow.domain false) (Rows.dashLengthAndPatternSpec.post enc Try.prog Try.f3 false true false false) := by
  refine returnsInHanded_of_change (C := Try.checked) Try.own started (by kernel_rfl) Try.func3
    (ChangeSpec.witness6 (enc := enc) (C := Try.checked) false ⟨#[], #[.agg #[.slice none 0 0, .bool false], .agg #[.int .i64 0, .int .i64 0, .int .i64 0, .int .i64 0, .slice none 0 0, .int .i64 0], .int .i64 0], []⟩ 8 (by kernel_rfl) (by kernel_rfl) (by kernel_rfl) (by kernel_rfl)) ?_
  intro W base args ds gs before hval0 hW hcnd _
  have hval : ∀ (j : Nat) t v, Try.f3.params[j]? = some t → args[j]? = some v → Value.okWide Try.prog W .any base t v := hval0
  have hW' := hW
  obtain ⟨p, q, hA0, hV, rfl, hfz, hnd⟩ := hW
  have hA : DataW.TrodAll enc Try.prog W 0 (fun _ => true) true Try.f3.params.toList args.toList ds p := hA0
  have hAll := hA
  rw [Try.params3] at hA hval
  obtain ⟨v0, vs0, d0, ds0, p0, q0, hargs, rfl, rfl, h0, r0⟩ := trodAll_cons hA
  obtain ⟨v1, vs1, d1, ds1, p1, q1, rfl, rfl, rfl, h1, r1⟩ := trodAll_cons r0
  obtain ⟨v2, vs2, d2, ds2, p2, q2, rfl, rfl, rfl, h2, r2⟩ := trodAll_cons r1
  obtain ⟨rfl, rfl, rfl⟩ := trodAll_nil r2
  obtain rfl : args = #[v0, v1, v2] := by cases args; simp_all
  obtain ⟨rfl, rfl⟩ := trodVars_none hV
  obtain ⟨A0, n0, c0, L0, cl0, rfl, P0⟩ := open_poly (hval 0 24 v0 rfl rfl) h0
  obtain ⟨wd1, jn1, cp1, ml1, ph1, A1, n1, c1, D1, rfl, I1, B1⟩ := open_style (hval 1 27 v1 rfl rfl) h1
  obtain ⟨a2, rfl, _, _, w2⟩ := open_int Try.underlying3 (hval 2 3 v2 rfl rfl) h2
  obtain ⟨l2, u2⟩ := bounds_i64 w2
  clear hA0 hval0
  refine (walk cl0 A0 n0 c0 L0 wd1 jn1 cp1 ml1 ph1 A1 n1 c1 D1 a2 W P0 I1 B1 l2 u2).mono fun e W' ⟨he, bel⟩ => ?_
  subst he
  exact ⟨_, rfl, _, _, _, [], _, [], hW', trodAll_mk1 (shut_bool Try.underlying4 _), below_trodAll Try.laidOut bel (reads_of (by kernel_rfl)) hAll, rfl, bel.frame _, fun h => by cases h⟩

theorem over : Rows.dashLengthAndPatternRow.holds Try.pinned (OpenSpec.ofChange Rows.dashLengthAndPatternSpec) :=
  OpenClaim.holds_of_wide 3 Try.f3 rfl rfl rfl rfl rfl rfl rfl ⟨rfl, rfl, rfl, rfl, rfl⟩ rfl rfl rfl rfl rfl (by kernel_rfl) Try.func3 (by kernel_rfl)
    (of_decide_eq_true (by kernel_rfl)) (by unfold Func.isWrapper; first | (rw [if_pos (by decide +kernel)]; kernel_rfl) | (rw [if_neg (by decide +kernel)]; exact ⟨rfl, rfl⟩))
    (fun os started H enc _ => lifted os started H enc)

/-- The statement. -/
theorem proved : Rows.DashLengthAndPatternSaid := over
#print axioms proved
end Go.Proofs.Ytihmhpleiefodaa.dashLengthAndPattern
