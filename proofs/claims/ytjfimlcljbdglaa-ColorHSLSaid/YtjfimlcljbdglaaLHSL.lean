/- ColorHSL of grisaillelaw27 returns true for all its arguments: every color and every three ints; no condition. -/
import Derived.Test.YtjfimlcljbdglaaE27
import Derived.Test.YtjfimlcljbdglaaCt
import Derived.Test.YtjfimlcljbdglaaOp
import Derived.Test.YtjfimlcljbdglaaKk
namespace Go.Proofs.Ytjfimlcljbdglaa.colorHSL
open Go.RowKit Go.ChangeShapes Go.WideShapes Go.ChangeAt
set_option linter.unusedVariables false
open Go.Proofs.Ytjfimlcljbdglaa
set_option maxRecDepth 100000 in
set_option maxHeartbeats 2000000 in
theorem walk (p q r t i j m : Int) (w : World) (l0 : 0 ≤ p) (u0 : p ≤ 255) (l1 : 0 ≤ q) (u1 : q ≤ 255) (l2 : 0 ≤ r) (u2 : r ≤ 255) (l3 : 0 ≤ t) (u3 : t ≤ 255) (li : -9223372036854775808 ≤ i) (ui : i ≤ 9223372036854775807) (lj : -9223372036854775808 ≤ j) (uj : j ≤ 9223372036854775807) (lm : -9223372036854775808 ≤ m) (um : m ≤ 9223372036854775807) :
    Calls Try.prog 11 #[.agg #[.int .u8 p, .int .u8 q, .int .u8 r, .int .u8 t], .agg #[.int .i64 i, .int .i64 j, .int .i64 m]] w fun e w' => e = .returned (.bool true) ∧ Below w.heap.size w w' := by
  have g3 := coGuard
  have g4 := coEql
  obtain ⟨h1, s1, n1, hV⟩ := hsl_is p q r
  obtain ⟨x, y, z, v, k, hF, hG⟩ := fh_is i j m t
  have q1 := eq4_refl x y z v
  have b0 : u8b p := ⟨l0, u0⟩
  have b1 : u8b q := ⟨l1, u1⟩
  have b2 : u8b r := ⟨l2, u2⟩
  have t1 : (k == k) = true := beq_self_eq_true _
  have HS := Lib.hid (show ∀ w', Keeps ((w.alloc (.cells #[.int .u8 p, .int .u8 q, .int .u8 r, .int .u8 t] 23)).alloc (.cells #[.int .i64 i, .int .i64 j, .int .i64 m] 49)) w' → w'.cell? ⟨w.heap.size, 0, none⟩ = some (.int .u8 p) ∧ w'.frozen? ⟨w.heap.size, 0, none⟩ = false ∧ w'.cell? ⟨w.heap.size, 1, none⟩ = some (.int .u8 q) ∧ w'.frozen? ⟨w.heap.size, 1, none⟩ = false ∧ w'.cell? ⟨w.heap.size, 2, none⟩ = some (.int .u8 r) ∧ w'.frozen? ⟨w.heap.size, 2, none⟩ = false ∧ w'.cell? ⟨w.heap.size, 3, none⟩ = some (.int .u8 t) ∧ w'.frozen? ⟨w.heap.size, 3, none⟩ = false ∧ w'.cell? ⟨w.heap.size + 1, 0, none⟩ = some (.int .i64 i) ∧ w'.frozen? ⟨w.heap.size + 1, 0, none⟩ = false ∧ w'.cell? ⟨w.heap.size + 1, 1, none⟩ = some (.int .i64 j) ∧ w'.frozen? ⟨w.heap.size + 1, 1, none⟩ = false ∧ w'.cell? ⟨w.heap.size + 1, 2, none⟩ = some (.int .i64 m) ∧ w'.frozen? ⟨w.heap.size + 1, 2, none⟩ = false from fun w' hk => ⟨(hk.cell (p := ⟨w.heap.size, 0, none⟩) (by first | (simp; done) | (simp; omega))).trans (by simp [go_sem]), (hk.frozen (p := ⟨w.heap.size, 0, none⟩) (by first | (simp; done) | (simp; omega))).trans (by simp [go_sem]), (hk.cell (p := ⟨w.heap.size, 1, none⟩) (by first | (simp; done) | (simp; omega))).trans (by simp [go_sem]), (hk.frozen (p := ⟨w.heap.size, 1, none⟩) (by first | (simp; done) | (simp; omega))).trans (by simp [go_sem]), (hk.cell (p := ⟨w.heap.size, 2, none⟩) (by first | (simp; done) | (simp; omega))).trans (by simp [go_sem]), (hk.frozen (p := ⟨w.heap.size, 2, none⟩) (by first | (simp; done) | (simp; omega))).trans (by simp [go_sem]), (hk.cell (p := ⟨w.heap.size, 3, none⟩) (by first | (simp; done) | (simp; omega))).trans (by simp [go_sem]), (hk.frozen (p := ⟨w.heap.size, 3, none⟩) (by first | (simp; done) | (simp; omega))).trans (by simp [go_sem]), (hk.cell (p := ⟨w.heap.size + 1, 0, none⟩) (by first | (simp; done) | (simp; omega))).trans (by simp [go_sem]), (hk.frozen (p := ⟨w.heap.size + 1, 0, none⟩) (by first | (simp; done) | (simp; omega))).trans (by simp [go_sem]), (hk.cell (p := ⟨w.heap.size + 1, 1, none⟩) (by first | (simp; done) | (simp; omega))).trans (by simp [go_sem]), (hk.frozen (p := ⟨w.heap.size + 1, 1, none⟩) (by first | (simp; done) | (simp; omega))).trans (by simp [go_sem]), (hk.cell (p := ⟨w.heap.size + 1, 2, none⟩) (by first | (simp; done) | (simp; omega))).trans (by simp [go_sem]), (hk.frozen (p := ⟨w.heap.size + 1, 2, none⟩) (by first | (simp; done) | (simp; omega))).trans (by simp [go_sem])⟩)
  have HB := Lib.hid (show Keeps w ((w.alloc (.cells #[.int .u8 p, .int .u8 q, .int .u8 r, .int .u8 t] 23)).alloc (.cells #[.int .i64 i, .int .i64 j, .int .i64 m] 49)) from (by (repeat (first | (with_reducible exact Keeps.refl _) | (with_reducible assumption) | (with_reducible refine Keeps.drewN ?_ _) | (with_reducible refine Keeps.drew ?_) | (with_reducible refine Keeps.alloc ?_ _) | (with_reducible refine Keeps.setNew ?_ ?_ _))) <;> (dsimp only; omega)))
  have hk0 := Keeps.refl ((w.alloc (.cells #[.int .u8 p, .int .u8 q, .int .u8 r, .int .u8 t] 23)).alloc (.cells #[.int .i64 i, .int .i64 j, .int .i64 m] 49))
  have T1 := fun w => tohsl_any p q r t w b0 b1 b2
  have T2 := fun w => rtohsl_any p q r t w b0 b1 b2
  rw [hV] at T1 T2
  have L1 := Lib.hid (fun w => lum_any p q r t w b0 b1 b2)
  have L2 := Lib.hid (fun w => rlum_any p q r t w b0 b1 b2)
  generalize lumI p q r = u at *
  have K1 := Lib.hid (fun w' (hk : Keeps ((w.alloc (.cells #[.int .u8 p, .int .u8 q, .int .u8 r, .int .u8 t] 23)).alloc (.cells #[.int .i64 i, .int .i64 j, .int .i64 m] 49)) w') => keepk (T1 w') hk)
  have K2 := Lib.hid (fun w' (hk : Keeps ((w.alloc (.cells #[.int .u8 p, .int .u8 q, .int .u8 r, .int .u8 t] 23)).alloc (.cells #[.int .i64 i, .int .i64 j, .int .i64 m] 49)) w') => keepk (T2 w') hk)
  have K3 := Lib.hid (fun w' (hk : Keeps ((w.alloc (.cells #[.int .u8 p, .int .u8 q, .int .u8 r, .int .u8 t] 23)).alloc (.cells #[.int .i64 i, .int .i64 j, .int .i64 m] 49)) w') => keepk (hF w') hk)
  have K4 := Lib.hid hG
  clear T1 T2 hF hG b0 b1 b2 l0 u0 l1 u1 l2 u2 l3 u3 hV
  go_enter Try.func11, Try.ntmps11
  go_wp2_with (first | (go_at_call 34; (with_reducible refine (K1.out _ (by assumption)).mono ?_); rintro e w1 ⟨rfl, hk1⟩; obtain ⟨y0, y1, y2, y3, y4, y5, y6, y7, y8, y9, y10, y11, y12, y13⟩ := HS.out _ hk1)       | (go_at_call 35; (with_reducible refine (K2.out _ (by assumption)).mono ?_); rintro e w2 ⟨rfl, hk2⟩; clear hk1; obtain ⟨y0, y1, y2, y3, y4, y5, y6, y7, y8, y9, y10, y11, y12, y13⟩ := HS.out _ hk2)       | (go_at_call 36; (with_reducible refine (K3.out _ (by assumption)).mono ?_); rintro e w3 ⟨rfl, hk3⟩; clear hk2; have HC := Lib.hid (box4 w3 (.int .u8 x) (.int .u8 y) (.int .u8 z) (.int .u8 v) 23 w3.heap.size rfl); have HK := Lib.hid (hk3.alloc (.cells #[.int .u8 x, .int .u8 y, .int .u8 z, .int .u8 v] 23)); have hk := HK.out; have h3t := hk3.size; have h3s : w.heap.size < w3.heap.size := (by simp at h3t; omega); have h3u : w.heap.size + 1 < w3.heap.size := (by simp at h3t; omega); clear h3t; obtain ⟨y0, y1, y2, y3, y4, y5, y6, y7, y8, y9, y10, y11, y12, y13⟩ := HS.out _ hk3; clear hk3)       | (go_at_call 37; (with_reducible refine (K4.out _).mono ?_); rintro e w4 ⟨rfl, hk4⟩))
  have HE := Lib.hid ((HK.out.trans hk4).alloc (.cells #[.int .u8 x, .int .u8 y, .int .u8 z, .int .u8 v] 23))
  have HF := Lib.hid (box4 w4 (.int .u8 x) (.int .u8 y) (.int .u8 z) (.int .u8 v) 23 w4.heap.size rfl)
  have HG := Lib.hid (fun w' hk' => HC.out w' ((hk4.alloc (.cells #[.int .u8 x, .int .u8 y, .int .u8 z, .int .u8 v] 23)).trans hk'))
  generalize w4.alloc (.cells #[.int .u8 x, .int .u8 y, .int .u8 z, .int .u8 v] 23) = Wb at HE HF HG ⊢
  have za0 := fun k : KW (Wb) => (HS.out _ (HE.out.trans k.keeps)).1
  have za1 := fun k : KW (Wb) => (HS.out _ (HE.out.trans k.keeps)).2.2.1
  have za2 := fun k : KW (Wb) => (HS.out _ (HE.out.trans k.keeps)).2.2.2.2.1
  have za3 := fun k : KW (Wb) => (HS.out _ (HE.out.trans k.keeps)).2.2.2.2.2.2.1
  have zb0 := fun k : KW (Wb) => (HG.out _ k.keeps).1
  have zb1 := fun k : KW (Wb) => (HG.out _ k.keeps).2.1
  have zb2 := fun k : KW (Wb) => (HG.out _ k.keeps).2.2.1
  have zb3 := fun k : KW (Wb) => (HG.out _ k.keeps).2.2.2
  have zc0 := fun k : KW (Wb) => (HF.out _ k.keeps).1
  have zc1 := fun k : KW (Wb) => (HF.out _ k.keeps).2.1
  have zc2 := fun k : KW (Wb) => (HF.out _ k.keeps).2.2.1
  have zc3 := fun k : KW (Wb) => (HF.out _ k.keeps).2.2.2
  have M1 := Lib.hid (fun k : KW Wb => keepq (L1.out k.w))
  have M2 := Lib.hid (fun k : KW Wb => keepq (L2.out k.w))
  have M9 := Lib.hid (fun k : KW Wb => keepq (example27_any k.w))
  have hkb := Keeps.refl Wb
  refine wp_region_kept (Wb) (by kernel_rfl) (by kernel_rfl) (hkb) ?_
  repeat (first | go_big_quiet_skip | (go_big_quiet_want; go_big_quiet_op; first | go_big_quiet_on | go_big_quiet_call ((first | (go_at_call 38; first | (with_reducible exact M1.out _)) | (go_at_call 39; first | (with_reducible exact M2.out _)) | (go_at_call 16; first | (with_reducible exact M9.out _))))))
  refine wpQuiet_nil ?_
  rintro w' ⟨k9, rfl⟩
  have hk := k9.keeps
  generalize k9.w = w9 at hk ⊢
  clear k9
  go_wp2_with fail
  go_ret
  exact ⟨rfl, (HB.out.trans HE.out).trans hk⟩

set_option maxRecDepth 100000 in
theorem lifted (os : Os) (started : os.Started) (H : Type) (enc : TypeId × Value → H) :
    ReturnsInHanded {} Try.checked os 11 .any (Rows.colorHSLSpec.pre6 enc Try.prog Try.f11 Rows.colorHSLRow.domain false) (Rows.colorHSLSpec.post enc Try.prog Try.f11 false true false false) := by
  refine returnsInHanded_of_change (C := Try.checked) Try.own started (by kernel_rfl) Try.func11
    (ChangeSpec.witness6 (enc := enc) (C := Try.checked) false ⟨#[], #[.agg #[.int .u8 0, .int .u8 0, .int .u8 0, .int .u8 0], .agg #[.int .i64 0, .int .i64 0, .int .i64 0]], []⟩ 8 (by kernel_rfl) (by kernel_rfl) (by kernel_rfl) (by kernel_rfl)) ?_
  intro W base args ds gs before hval0 hW hcnd _
  have hval : ∀ (j : Nat) t v, Try.f11.params[j]? = some t → args[j]? = some v → Value.okWide Try.prog W .any base t v := hval0
  have hW' := hW
  obtain ⟨p, q, hA0, hV, rfl, hfz, hnd⟩ := hW
  have hA : DataW.TrodAll enc Try.prog W 0 (fun _ => true) true Try.f11.params.toList args.toList ds p := hA0
  have hAll := hA
  rw [Try.params11] at hA hval
  obtain ⟨v0, vs0, d0, ds0, p0, q0, hargs, rfl, rfl, h0, r0⟩ := trodAll_cons hA
  obtain ⟨v1, vs1, d1, ds1, p1, q1, rfl, rfl, rfl, h1, r1⟩ := trodAll_cons r0
  obtain ⟨rfl, rfl, rfl⟩ := trodAll_nil r1
  obtain rfl : args = #[v0, v1] := by cases args; simp_all
  obtain ⟨rfl, rfl⟩ := trodVars_none hV
  obtain ⟨c0, rfl, L0_0⟩ := open_flat (ks := [some .u8, some .u8, some .u8, some .u8]) (by kernel_rfl) (by kernel_rfl) (hval 0 23 v0 rfl rfl) h0
  obtain ⟨_, c0_0, rfl, ⟨a0_0, rfl, w0_0⟩, L0_1⟩ := leafs_cons L0_0
  obtain ⟨l0_0, u0_0⟩ := bounds_u8 w0_0
  obtain ⟨_, c0_1, rfl, ⟨a0_1, rfl, w0_1⟩, L0_2⟩ := leafs_cons L0_1
  obtain ⟨l0_1, u0_1⟩ := bounds_u8 w0_1
  obtain ⟨_, c0_2, rfl, ⟨a0_2, rfl, w0_2⟩, L0_3⟩ := leafs_cons L0_2
  obtain ⟨l0_2, u0_2⟩ := bounds_u8 w0_2
  obtain ⟨_, c0_3, rfl, ⟨a0_3, rfl, w0_3⟩, L0_4⟩ := leafs_cons L0_3
  obtain ⟨l0_3, u0_3⟩ := bounds_u8 w0_3
  obtain rfl := leafs_nil L0_4
  obtain ⟨c1, rfl, L1_0⟩ := open_flat (ks := [some .i64, some .i64, some .i64]) (by kernel_rfl) (by kernel_rfl) (hval 1 49 v1 rfl rfl) h1
  obtain ⟨_, c1_0, rfl, ⟨a1_0, rfl, w1_0⟩, L1_1⟩ := leafs_cons L1_0
  obtain ⟨l1_0, u1_0⟩ := bounds_i64 w1_0
  obtain ⟨_, c1_1, rfl, ⟨a1_1, rfl, w1_1⟩, L1_2⟩ := leafs_cons L1_1
  obtain ⟨l1_1, u1_1⟩ := bounds_i64 w1_1
  obtain ⟨_, c1_2, rfl, ⟨a1_2, rfl, w1_2⟩, L1_3⟩ := leafs_cons L1_2
  obtain ⟨l1_2, u1_2⟩ := bounds_i64 w1_2
  obtain rfl := leafs_nil L1_3
  clear hA0 hval0
  refine (walk a0_0 a0_1 a0_2 a0_3 a1_0 a1_1 a1_2 W l0_0 u0_0 l0_1 u0_1 l0_2 u0_2 l0_3 u0_3 l1_0 u1_0 l1_1 u1_1 l1_2 u1_2).mono fun e W' ⟨he, bel⟩ => ?_
  subst he
  exact ⟨_, rfl, _, _, _, [], _, [], hW', trodAll_mk1 (shut_bool Try.underlying4 _), below_trodAll Try.laidOut bel (reads_of (by kernel_rfl)) hAll, rfl, bel.frame _, fun h => by cases h⟩

theorem over : Rows.colorHSLRow.holds Try.pinned (OpenSpec.ofChange Rows.colorHSLSpec) :=
  OpenClaim.holds_of_wide 11 Try.f11 rfl rfl rfl rfl rfl rfl rfl ⟨rfl, rfl, rfl, rfl, rfl⟩ rfl rfl rfl rfl rfl (by kernel_rfl) Try.func11 (by kernel_rfl)
    (of_decide_eq_true (by kernel_rfl)) (by unfold Func.isWrapper; first | (rw [if_pos (by decide +kernel)]; kernel_rfl) | (rw [if_neg (by decide +kernel)]; exact ⟨rfl, rfl⟩))
    (fun os started H enc _ => lifted os started H enc)

/-- The statement. -/
theorem proved : Rows.ColorHSLSaid := over
#print axioms proved
end Go.Proofs.Ytjfimlcljbdglaa.colorHSL
