/- GradientInterpolation of grisaillelaw31 returns true for all its arguments: every two stops and every int; no condition. -/
import Derived.Test.YtboomdbmeallfaaGe
import Derived.Test.YtboomdbmeallfaaOp
import Derived.Test.YtboomdbmeallfaaKk
namespace Go.Proofs.Ytboomdbmeallfaa.gradientInterpolation
open Go.RowKit Go.ChangeShapes Go.WideShapes Go.ChangeAt
set_option linter.unusedVariables false
open Go.Proofs.Ytboomdbmeallfaa
set_option linter.unusedSimpArgs false
set_option maxRecDepth 100000 in
set_option maxHeartbeats 4000000 in
theorem walkS (a b : St) (t : Int) (w : World) (oa : okSt a) (ob : okSt b) (l : -9223372036854775808 ≤ t) (u : t ≤ 9223372036854775807) :
    Calls Try.prog 5 #[.agg #[.int .i64 a.1, .int .u8 a.2.1, .int .u8 a.2.2.1, .int .u8 a.2.2.2.1, .int .u8 a.2.2.2.2], .agg #[.int .i64 b.1, .int .u8 b.2.1, .int .u8 b.2.2.1, .int .u8 b.2.2.2.1, .int .u8 b.2.2.2.2], .int .i64 t] w fun e w' => e = .returned (.bool true) ∧ Below w.heap.size w w' := by
  have K9 := Lib.hid (fun w => example31_any w)
  have HP := Lib.hid (two_between a b t oa ob)
  have HS := Lib.hid (show ∀ w', Keeps ((w.alloc (.cells #[.int .i64 a.1, .int .u8 a.2.1, .int .u8 a.2.2.1, .int .u8 a.2.2.2.1, .int .u8 a.2.2.2.2] 31)).alloc (.cells #[.int .i64 b.1, .int .u8 b.2.1, .int .u8 b.2.2.1, .int .u8 b.2.2.2.1, .int .u8 b.2.2.2.2] 31)) w' → w'.cell? ⟨w.heap.size, 0, none⟩ = some (.int .i64 a.1) ∧ w'.frozen? ⟨w.heap.size, 0, none⟩ = false ∧ w'.cell? ⟨w.heap.size, 1, none⟩ = some (.int .u8 a.2.1) ∧ w'.frozen? ⟨w.heap.size, 1, none⟩ = false ∧ w'.cell? ⟨w.heap.size, 2, none⟩ = some (.int .u8 a.2.2.1) ∧ w'.frozen? ⟨w.heap.size, 2, none⟩ = false ∧ w'.cell? ⟨w.heap.size, 3, none⟩ = some (.int .u8 a.2.2.2.1) ∧ w'.frozen? ⟨w.heap.size, 3, none⟩ = false ∧ w'.cell? ⟨w.heap.size, 4, none⟩ = some (.int .u8 a.2.2.2.2) ∧ w'.frozen? ⟨w.heap.size, 4, none⟩ = false ∧ w'.cell? ⟨w.heap.size + 1, 0, none⟩ = some (.int .i64 b.1) ∧ w'.frozen? ⟨w.heap.size + 1, 0, none⟩ = false ∧ w'.cell? ⟨w.heap.size + 1, 1, none⟩ = some (.int .u8 b.2.1) ∧ w'.frozen? ⟨w.heap.size + 1, 1, none⟩ = false ∧ w'.cell? ⟨w.heap.size + 1, 2, none⟩ = some (.int .u8 b.2.2.1) ∧ w'.frozen? ⟨w.heap.size + 1, 2, none⟩ = false ∧ w'.cell? ⟨w.heap.size + 1, 3, none⟩ = some (.int .u8 b.2.2.2.1) ∧ w'.frozen? ⟨w.heap.size + 1, 3, none⟩ = false ∧ w'.cell? ⟨w.heap.size + 1, 4, none⟩ = some (.int .u8 b.2.2.2.2) ∧ w'.frozen? ⟨w.heap.size + 1, 4, none⟩ = false from fun w' hk => ⟨(hk.cell (p := ⟨w.heap.size, 0, none⟩) (by first | (simp; done) | (simp; omega))).trans (by simp [go_sem]), (hk.frozen (p := ⟨w.heap.size, 0, none⟩) (by first | (simp; done) | (simp; omega))).trans (by simp [go_sem]), (hk.cell (p := ⟨w.heap.size, 1, none⟩) (by first | (simp; done) | (simp; omega))).trans (by simp [go_sem]), (hk.frozen (p := ⟨w.heap.size, 1, none⟩) (by first | (simp; done) | (simp; omega))).trans (by simp [go_sem]), (hk.cell (p := ⟨w.heap.size, 2, none⟩) (by first | (simp; done) | (simp; omega))).trans (by simp [go_sem]), (hk.frozen (p := ⟨w.heap.size, 2, none⟩) (by first | (simp; done) | (simp; omega))).trans (by simp [go_sem]), (hk.cell (p := ⟨w.heap.size, 3, none⟩) (by first | (simp; done) | (simp; omega))).trans (by simp [go_sem]), (hk.frozen (p := ⟨w.heap.size, 3, none⟩) (by first | (simp; done) | (simp; omega))).trans (by simp [go_sem]), (hk.cell (p := ⟨w.heap.size, 4, none⟩) (by first | (simp; done) | (simp; omega))).trans (by simp [go_sem]), (hk.frozen (p := ⟨w.heap.size, 4, none⟩) (by first | (simp; done) | (simp; omega))).trans (by simp [go_sem]), (hk.cell (p := ⟨w.heap.size + 1, 0, none⟩) (by first | (simp; done) | (simp; omega))).trans (by simp [go_sem]), (hk.frozen (p := ⟨w.heap.size + 1, 0, none⟩) (by first | (simp; done) | (simp; omega))).trans (by simp [go_sem]), (hk.cell (p := ⟨w.heap.size + 1, 1, none⟩) (by first | (simp; done) | (simp; omega))).trans (by simp [go_sem]), (hk.frozen (p := ⟨w.heap.size + 1, 1, none⟩) (by first | (simp; done) | (simp; omega))).trans (by simp [go_sem]), (hk.cell (p := ⟨w.heap.size + 1, 2, none⟩) (by first | (simp; done) | (simp; omega))).trans (by simp [go_sem]), (hk.frozen (p := ⟨w.heap.size + 1, 2, none⟩) (by first | (simp; done) | (simp; omega))).trans (by simp [go_sem]), (hk.cell (p := ⟨w.heap.size + 1, 3, none⟩) (by first | (simp; done) | (simp; omega))).trans (by simp [go_sem]), (hk.frozen (p := ⟨w.heap.size + 1, 3, none⟩) (by first | (simp; done) | (simp; omega))).trans (by simp [go_sem]), (hk.cell (p := ⟨w.heap.size + 1, 4, none⟩) (by first | (simp; done) | (simp; omega))).trans (by simp [go_sem]), (hk.frozen (p := ⟨w.heap.size + 1, 4, none⟩) (by first | (simp; done) | (simp; omega))).trans (by simp [go_sem])⟩)
  have HB := Lib.hid (show Keeps w ((w.alloc (.cells #[.int .i64 a.1, .int .u8 a.2.1, .int .u8 a.2.2.1, .int .u8 a.2.2.2.1, .int .u8 a.2.2.2.2] 31)).alloc (.cells #[.int .i64 b.1, .int .u8 b.2.1, .int .u8 b.2.2.1, .int .u8 b.2.2.2.1, .int .u8 b.2.2.2.2] 31)) from (by (repeat (first | (with_reducible exact Keeps.refl _) | (with_reducible assumption) | (with_reducible refine Keeps.drewN ?_ _) | (with_reducible refine Keeps.drew ?_) | (with_reducible refine Keeps.alloc ?_ _) | (with_reducible refine Keeps.setNew ?_ ?_ _))) <;> (dsimp only; omega)))
  have hk0 := Keeps.refl ((w.alloc (.cells #[.int .i64 a.1, .int .u8 a.2.1, .int .u8 a.2.2.1, .int .u8 a.2.2.2.1, .int .u8 a.2.2.2.2] 31)).alloc (.cells #[.int .i64 b.1, .int .u8 b.2.1, .int .u8 b.2.2.1, .int .u8 b.2.2.2.1, .int .u8 b.2.2.2.2] 31))
  have hz : (((w.alloc (.cells #[.int .i64 a.1, .int .u8 a.2.1, .int .u8 a.2.2.1, .int .u8 a.2.2.2.1, .int .u8 a.2.2.2.2] 31)).alloc (.cells #[.int .i64 b.1, .int .u8 b.2.1, .int .u8 b.2.2.1, .int .u8 b.2.2.2.1, .int .u8 b.2.2.2.2] 31))).heap.size = w.heap.size + 1 + 1 := by simp
  have K1 := Lib.hid (fun w' (hk : Keeps ((((w.alloc (.cells #[.int .i64 a.1, .int .u8 a.2.1, .int .u8 a.2.2.1, .int .u8 a.2.2.2.1, .int .u8 a.2.2.2.2] 31)).alloc (.cells #[.int .i64 b.1, .int .u8 b.2.1, .int .u8 b.2.2.1, .int .u8 b.2.2.2.1, .int .u8 b.2.2.2.2] 31))).alloc (.cells #[.int .i64 a.1, .int .u8 a.2.1, .int .u8 a.2.2.1, .int .u8 a.2.2.2.1, .int .u8 a.2.2.2.2, .int .i64 b.1, .int .u8 b.2.1, .int .u8 b.2.2.1, .int .u8 b.2.2.2.1, .int .u8 b.2.2.2.2] 31)) w') => valid31_any (some ⟨(((w.alloc (.cells #[.int .i64 a.1, .int .u8 a.2.1, .int .u8 a.2.2.1, .int .u8 a.2.2.2.1, .int .u8 a.2.2.2.2] 31)).alloc (.cells #[.int .i64 b.1, .int .u8 b.2.1, .int .u8 b.2.2.1, .int .u8 b.2.2.2.1, .int .u8 b.2.2.2.2] 31))).heap.size, 0, none⟩) 2 2 [a, b] w' (sts2 _ a b oa ob w' hk))
  have K2 := Lib.hid (fun w' (hk : Keeps ((((w.alloc (.cells #[.int .i64 a.1, .int .u8 a.2.1, .int .u8 a.2.2.1, .int .u8 a.2.2.2.1, .int .u8 a.2.2.2.2] 31)).alloc (.cells #[.int .i64 b.1, .int .u8 b.2.1, .int .u8 b.2.2.1, .int .u8 b.2.2.2.1, .int .u8 b.2.2.2.2] 31))).alloc (.cells #[.int .i64 a.1, .int .u8 a.2.1, .int .u8 a.2.2.1, .int .u8 a.2.2.2.1, .int .u8 a.2.2.2.2, .int .i64 b.1, .int .u8 b.2.1, .int .u8 b.2.2.1, .int .u8 b.2.2.2.1, .int .u8 b.2.2.2.2] 31)) w') => colorAt_any (some ⟨(((w.alloc (.cells #[.int .i64 a.1, .int .u8 a.2.1, .int .u8 a.2.2.1, .int .u8 a.2.2.2.1, .int .u8 a.2.2.2.2] 31)).alloc (.cells #[.int .i64 b.1, .int .u8 b.2.1, .int .u8 b.2.2.1, .int .u8 b.2.2.2.1, .int .u8 b.2.2.2.2] 31))).heap.size, 0, none⟩) 2 2 [a, b] t w' (sts2 _ a b oa ob w' hk) l u)
  have HT := Lib.hid (fun w' (hk : Keeps ((((w.alloc (.cells #[.int .i64 a.1, .int .u8 a.2.1, .int .u8 a.2.2.1, .int .u8 a.2.2.2.1, .int .u8 a.2.2.2.2] 31)).alloc (.cells #[.int .i64 b.1, .int .u8 b.2.1, .int .u8 b.2.2.1, .int .u8 b.2.2.2.1, .int .u8 b.2.2.2.2] 31))).alloc (.cells #[.int .i64 a.1, .int .u8 a.2.1, .int .u8 a.2.2.1, .int .u8 a.2.2.2.1, .int .u8 a.2.2.2.2, .int .i64 b.1, .int .u8 b.2.1, .int .u8 b.2.2.1, .int .u8 b.2.2.2.1, .int .u8 b.2.2.2.2] 31)) w') => HS.out w' (((Keeps.refl _).alloc _).trans hk))
  have HB1 := Lib.hid (HB.out.alloc (.cells #[.int .i64 a.1, .int .u8 a.2.1, .int .u8 a.2.2.1, .int .u8 a.2.2.2.1, .int .u8 a.2.2.2.2, .int .i64 b.1, .int .u8 b.2.1, .int .u8 b.2.2.1, .int .u8 b.2.2.2.1, .int .u8 b.2.2.2.2] 31))
  rw [hz] at K1 K2
  clear oa ob l u
  cases hv : vB [a, b] with
  | false =>
    rw [hv] at K1
    go_enter Try.func5, Try.ntmps5
    go_wp2_with (first | (go_at_call 16; (with_reducible refine (K1.out _ (Keeps.refl _)).mono ?_); rintro e w2 ⟨rfl, hk2⟩; obtain ⟨y0, y1, y2, y3, y4, y5, y6, y7, y8, y9, y10, y11, y12, y13, y14, y15, y16, y17, y18, y19⟩ := HT.out _ hk2) | (go_at_call 14; (with_reducible refine (K9.out _).mono ?_); rintro e w9 ⟨rfl, hk9⟩))
    go_ret
    exact ⟨rfl, (HB1.out.trans hk2).trans hk9⟩
  | true =>
    rw [hv] at K1
    by_cases h0 : t < a.1
    · go_enter Try.func5, Try.ntmps5
      go_wp2_with (first | (go_at_call 16; (with_reducible refine (K1.out _ (Keeps.refl _)).mono ?_); rintro e w2 ⟨rfl, hk2⟩; obtain ⟨y0, y1, y2, y3, y4, y5, y6, y7, y8, y9, y10, y11, y12, y13, y14, y15, y16, y17, y18, y19⟩ := HT.out _ hk2) | (go_at_call 14; (with_reducible refine (K9.out _).mono ?_); rintro e w9 ⟨rfl, hk9⟩))
      all_goals
        go_ret
        exact ⟨rfl, (HB1.out.trans hk2).trans hk9⟩
    · by_cases h1 : b.1 < t
      · go_enter Try.func5, Try.ntmps5
        go_wp2_with (first | (go_at_call 16; (with_reducible refine (K1.out _ (Keeps.refl _)).mono ?_); rintro e w2 ⟨rfl, hk2⟩; obtain ⟨y0, y1, y2, y3, y4, y5, y6, y7, y8, y9, y10, y11, y12, y13, y14, y15, y16, y17, y18, y19⟩ := HT.out _ hk2) | (go_at_call 14; (with_reducible refine (K9.out _).mono ?_); rintro e w9 ⟨rfl, hk9⟩))
        all_goals
          go_ret
          exact ⟨rfl, (HB1.out.trans hk2).trans hk9⟩
      · obtain ⟨c0, c1, c2, c3, hc, i0, i1, i2, i3⟩ := HP.out hv (by omega) (by omega)
        have hcv : colV (cAt [a, b] t) = .agg #[.int .u8 c0, .int .u8 c1, .int .u8 c2, .int .u8 c3] := by rw [hc]; rfl
        rw [hcv] at K2
        have J0 := Lib.hid (fun w => between_any c0 a.2.1 b.2.1 w i0)
        have J1 := Lib.hid (fun w => between_any c1 a.2.2.1 b.2.2.1 w i1)
        have J2 := Lib.hid (fun w => between_any c2 a.2.2.2.1 b.2.2.2.1 w i2)
        have J3 := Lib.hid (fun w => between_any c3 a.2.2.2.2 b.2.2.2.2 w i3)
        clear hc hcv i0 i1 i2 i3 HP hv
        go_enter Try.func5, Try.ntmps5
        go_wp2_with (first | (go_at_call 16; (with_reducible refine (K1.out _ (Keeps.refl _)).mono ?_); rintro e w2 ⟨rfl, hk2⟩; obtain ⟨y0, y1, y2, y3, y4, y5, y6, y7, y8, y9, y10, y11, y12, y13, y14, y15, y16, y17, y18, y19⟩ := HT.out _ hk2) | (go_at_call 17; (with_reducible refine (K2.out _ hk2).mono ?_); rintro e w3 ⟨rfl, hk3⟩; obtain ⟨z0, z1, z2, z3, z4, z5, z6, z7, z8, z9, z10, z11, z12, z13, z14, z15, z16, z17, z18, z19⟩ := HT.out _ (hk2.trans hk3); have hs3 : w.heap.size < w3.heap.size := (by have h := (HB1.out.trans (hk2.trans hk3)).size; have h2 := hk2.size; have h3 := hk3.size; simp at h2; omega); have hs4 : w.heap.size + 1 < w3.heap.size := (by have h2 := hk2.size; have h3 := hk3.size; simp at h2; omega); have HK := Lib.hid ((HB1.out.trans (hk2.trans hk3)).alloc (.cells #[.int .u8 c0, .int .u8 c1, .int .u8 c2, .int .u8 c3] 28))) | (go_at_call 18; (first | (with_reducible refine (J0.out _).mono ?_) | (with_reducible refine (J1.out _).mono ?_) | (with_reducible refine (J2.out _).mono ?_) | (with_reducible refine (J3.out _).mono ?_)); rintro e w5 ⟨rfl, rfl⟩) | (go_at_call 14; (with_reducible refine (K9.out _).mono ?_); rintro e w9 ⟨rfl, hk9⟩))
        go_ret
        exact ⟨rfl, HK.out.trans hk9⟩
theorem walk (a0 a1 a2 a3 a4 b0 b1 b2 b3 b4 t : Int) (w : World) (_ : -9223372036854775808 ≤ a0) (_ : a0 ≤ 9223372036854775807) (l1 : 0 ≤ a1) (u1 : a1 ≤ 255) (l2 : 0 ≤ a2) (u2 : a2 ≤ 255) (l3 : 0 ≤ a3) (u3 : a3 ≤ 255) (l4 : 0 ≤ a4) (u4 : a4 ≤ 255) (_ : -9223372036854775808 ≤ b0) (_ : b0 ≤ 9223372036854775807) (m1 : 0 ≤ b1) (n1 : b1 ≤ 255) (m2 : 0 ≤ b2) (n2 : b2 ≤ 255) (m3 : 0 ≤ b3) (n3 : b3 ≤ 255) (m4 : 0 ≤ b4) (n4 : b4 ≤ 255) (l : -9223372036854775808 ≤ t) (u : t ≤ 9223372036854775807) :
    Calls Try.prog 5 #[.agg #[.int .i64 a0, .int .u8 a1, .int .u8 a2, .int .u8 a3, .int .u8 a4], .agg #[.int .i64 b0, .int .u8 b1, .int .u8 b2, .int .u8 b3, .int .u8 b4], .int .i64 t] w fun e w' => e = .returned (.bool true) ∧ Below w.heap.size w w' :=
  walkS (a0, a1, a2, a3, a4) (b0, b1, b2, b3, b4) t w ⟨⟨l1, u1⟩, ⟨l2, u2⟩, ⟨l3, u3⟩, ⟨l4, u4⟩⟩ ⟨⟨m1, n1⟩, ⟨m2, n2⟩, ⟨m3, n3⟩, ⟨m4, n4⟩⟩ l u

set_option maxRecDepth 100000 in
theorem lifted (os : Os) (started : os.Started) (H : Type) (enc : TypeId × Value → H) :
    ReturnsInHanded {} Try.checked os 5 .any (Rows.gradientInterpolationSpec.pre6 enc Try.prog Try.f5 Rows.gradientInterpolationRow.domain false) (Rows.gradientInterpolationSpec.post enc Try.prog Try.f5 false true false false) := by
  refine returnsInHanded_of_change (C := Try.checked) Try.own started (by kernel_rfl) Try.func5
    (ChangeSpec.witness6 (enc := enc) (C := Try.checked) false ⟨#[], #[.agg #[.int .i64 0, .int .u8 0, .int .u8 0, .int .u8 0, .int .u8 0], .agg #[.int .i64 0, .int .u8 0, .int .u8 0, .int .u8 0, .int .u8 0], .int .i64 0], []⟩ 8 (by kernel_rfl) (by kernel_rfl) (by kernel_rfl) (by kernel_rfl)) ?_
  intro W base args ds gs before hval0 hW hcnd _
  have hval : ∀ (j : Nat) t v, Try.f5.params[j]? = some t → args[j]? = some v → Value.okWide Try.prog W .any base t v := hval0
  have hW' := hW
  obtain ⟨p, q, hA0, hV, rfl, hfz, hnd⟩ := hW
  have hA : DataW.TrodAll enc Try.prog W 0 (fun _ => true) true Try.f5.params.toList args.toList ds p := hA0
  have hAll := hA
  rw [Try.params5] at hA hval
  obtain ⟨v0, vs0, d0, ds0, p0, q0, hargs, rfl, rfl, h0, r0⟩ := trodAll_cons hA
  obtain ⟨v1, vs1, d1, ds1, p1, q1, rfl, rfl, rfl, h1, r1⟩ := trodAll_cons r0
  obtain ⟨v2, vs2, d2, ds2, p2, q2, rfl, rfl, rfl, h2, r2⟩ := trodAll_cons r1
  obtain ⟨rfl, rfl, rfl⟩ := trodAll_nil r2
  obtain rfl : args = #[v0, v1, v2] := by cases args; simp_all
  obtain ⟨rfl, rfl⟩ := trodVars_none hV
  obtain ⟨c0, rfl, L0_0⟩ := open_flat (ks := [some .i64, some .u8, some .u8, some .u8, some .u8]) (by kernel_rfl) (by kernel_rfl) (hval 0 31 v0 rfl rfl) h0
  obtain ⟨_, c0_0, rfl, ⟨a0_0, rfl, w0_0⟩, L0_1⟩ := leafs_cons L0_0
  obtain ⟨l0_0, u0_0⟩ := bounds_i64 w0_0
  obtain ⟨_, c0_1, rfl, ⟨a0_1, rfl, w0_1⟩, L0_2⟩ := leafs_cons L0_1
  obtain ⟨l0_1, u0_1⟩ := bounds_u8 w0_1
  obtain ⟨_, c0_2, rfl, ⟨a0_2, rfl, w0_2⟩, L0_3⟩ := leafs_cons L0_2
  obtain ⟨l0_2, u0_2⟩ := bounds_u8 w0_2
  obtain ⟨_, c0_3, rfl, ⟨a0_3, rfl, w0_3⟩, L0_4⟩ := leafs_cons L0_3
  obtain ⟨l0_3, u0_3⟩ := bounds_u8 w0_3
  obtain ⟨_, c0_4, rfl, ⟨a0_4, rfl, w0_4⟩, L0_5⟩ := leafs_cons L0_4
  obtain ⟨l0_4, u0_4⟩ := bounds_u8 w0_4
  obtain rfl := leafs_nil L0_5
  obtain ⟨c1, rfl, L1_0⟩ := open_flat (ks := [some .i64, some .u8, some .u8, some .u8, some .u8]) (by kernel_rfl) (by kernel_rfl) (hval 1 31 v1 rfl rfl) h1
  obtain ⟨_, c1_0, rfl, ⟨a1_0, rfl, w1_0⟩, L1_1⟩ := leafs_cons L1_0
  obtain ⟨l1_0, u1_0⟩ := bounds_i64 w1_0
  obtain ⟨_, c1_1, rfl, ⟨a1_1, rfl, w1_1⟩, L1_2⟩ := leafs_cons L1_1
  obtain ⟨l1_1, u1_1⟩ := bounds_u8 w1_1
  obtain ⟨_, c1_2, rfl, ⟨a1_2, rfl, w1_2⟩, L1_3⟩ := leafs_cons L1_2
  obtain ⟨l1_2, u1_2⟩ := bounds_u8 w1_2
  obtain ⟨_, c1_3, rfl, ⟨a1_3, rfl, w1_3⟩, L1_4⟩ := leafs_cons L1_3
  obtain ⟨l1_3, u1_3⟩ := bounds_u8 w1_3
  obtain ⟨_, c1_4, rfl, ⟨a1_4, rfl, w1_4⟩, L1_5⟩ := leafs_cons L1_4
  obtain ⟨l1_4, u1_4⟩ := bounds_u8 w1_4
  obtain rfl := leafs_nil L1_5
  obtain ⟨a2, rfl, _, _, w2⟩ := open_int Try.underlying3 (hval 2 3 v2 rfl rfl) h2
  obtain ⟨l2, u2⟩ := bounds_i64 w2
  clear hA0 hval0
  refine (walk a0_0 a0_1 a0_2 a0_3 a0_4 a1_0 a1_1 a1_2 a1_3 a1_4 a2 W l0_0 u0_0 l0_1 u0_1 l0_2 u0_2 l0_3 u0_3 l0_4 u0_4 l1_0 u1_0 l1_1 u1_1 l1_2 u1_2 l1_3 u1_3 l1_4 u1_4 l2 u2).mono fun e W' ⟨he, bel⟩ => ?_
  subst he
  exact ⟨_, rfl, _, _, _, [], _, [], hW', trodAll_mk1 (shut_bool Try.underlying4 _), below_trodAll Try.laidOut bel (reads_of (by kernel_rfl)) hAll, rfl, bel.frame _, fun h => by cases h⟩

theorem over : Rows.gradientInterpolationRow.holds Try.pinned (OpenSpec.ofChange Rows.gradientInterpolationSpec) :=
  OpenClaim.holds_of_wide 5 Try.f5 rfl rfl rfl rfl rfl rfl rfl ⟨rfl, rfl, rfl, rfl, rfl⟩ rfl rfl rfl rfl rfl (by kernel_rfl) Try.func5 (by kernel_rfl)
    (of_decide_eq_true (by kernel_rfl)) (by unfold Func.isWrapper; first | (rw [if_pos (by decide +kernel)]; kernel_rfl) | (rw [if_neg (by decide +kernel)]; exact ⟨rfl, rfl⟩))
    (fun os started H enc _ => lifted os started H enc)

/-- The statement. -/
theorem proved : Rows.GradientInterpolationSaid := over
#print axioms proved
end Go.Proofs.Ytboomdbmeallfaa.gradientInterpolation
