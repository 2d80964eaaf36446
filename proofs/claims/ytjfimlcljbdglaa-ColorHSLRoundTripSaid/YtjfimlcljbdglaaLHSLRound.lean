/- ColorHSLRoundTrip of grisaillelaw27 returns true for all its arguments: every color; no condition. -/
import Derived.Test.YtjfimlcljbdglaaE27
import Derived.Test.YtjfimlcljbdglaaCu
import Derived.Test.YtjfimlcljbdglaaOp
import Derived.Test.YtjfimlcljbdglaaKk
namespace Go.Proofs.Ytjfimlcljbdglaa.colorHSLRoundTrip
open Go.RowKit Go.ChangeShapes Go.WideShapes Go.ChangeAt
set_option linter.unusedVariables false
open Go.Proofs.Ytjfimlcljbdglaa
set_option maxRecDepth 100000 in
set_option maxHeartbeats 2000000 in
theorem walk (p q r t : Int) (w : World) (l0 : 0 ≤ p) (u0 : p ≤ 255) (l1 : 0 ≤ q) (u1 : q ≤ 255) (l2 : 0 ≤ r) (u2 : r ≤ 255) (l3 : 0 ≤ t) (u3 : t ≤ 255) :
    Calls Try.prog 12 #[.agg #[.int .u8 p, .int .u8 q, .int .u8 r, .int .u8 t]] w fun e w' => e = .returned (.bool true) ∧ Below w.heap.size w w' := by
  have g3 := coGuard
  have g4 := coEql
  have q1 := eq4_refl p q r t
  have b0 : u8b p := ⟨l0, u0⟩
  have b1 : u8b q := ⟨l1, u1⟩
  have b2 : u8b r := ⟨l2, u2⟩
  obtain ⟨h, s, l, hV, hO, hR, hS⟩ := hsl_round p q r b0 b1 b2
  have T1 := fun w => tohsl_any p q r t w b0 b1 b2
  rw [hV] at T1
  have T2 := fun w => fromhsl_any h s l t w hO
  rw [hR] at T2
  dsimp only at T2
  have t1 : decide (0 ≤ h) = true := decide_eq_true hO.1
  have t2 : decide (h < 1536) = true := decide_eq_true (by have := hO.2.1; omega)
  have L1 := fun w => lum_any p q r t w b0 b1 b2
  have hL : q = p → r = p → lumI p q r = p := fun h1 h2 => by subst h1; subst h2; exact lumI_gray _ b0
  have HS := Lib.hid (show ∀ w', Keeps (w.alloc (.cells #[.int .u8 p, .int .u8 q, .int .u8 r, .int .u8 t] 23)) w' → w'.cell? ⟨w.heap.size, 0, none⟩ = some (.int .u8 p) ∧ w'.frozen? ⟨w.heap.size, 0, none⟩ = false ∧ w'.cell? ⟨w.heap.size, 1, none⟩ = some (.int .u8 q) ∧ w'.frozen? ⟨w.heap.size, 1, none⟩ = false ∧ w'.cell? ⟨w.heap.size, 2, none⟩ = some (.int .u8 r) ∧ w'.frozen? ⟨w.heap.size, 2, none⟩ = false ∧ w'.cell? ⟨w.heap.size, 3, none⟩ = some (.int .u8 t) ∧ w'.frozen? ⟨w.heap.size, 3, none⟩ = false from fun w' hk => ⟨(hk.cell (p := ⟨w.heap.size, 0, none⟩) (by first | (simp; done) | (simp; omega))).trans (by simp [go_sem]), (hk.frozen (p := ⟨w.heap.size, 0, none⟩) (by first | (simp; done) | (simp; omega))).trans (by simp [go_sem]), (hk.cell (p := ⟨w.heap.size, 1, none⟩) (by first | (simp; done) | (simp; omega))).trans (by simp [go_sem]), (hk.frozen (p := ⟨w.heap.size, 1, none⟩) (by first | (simp; done) | (simp; omega))).trans (by simp [go_sem]), (hk.cell (p := ⟨w.heap.size, 2, none⟩) (by first | (simp; done) | (simp; omega))).trans (by simp [go_sem]), (hk.frozen (p := ⟨w.heap.size, 2, none⟩) (by first | (simp; done) | (simp; omega))).trans (by simp [go_sem]), (hk.cell (p := ⟨w.heap.size, 3, none⟩) (by first | (simp; done) | (simp; omega))).trans (by simp [go_sem]), (hk.frozen (p := ⟨w.heap.size, 3, none⟩) (by first | (simp; done) | (simp; omega))).trans (by simp [go_sem])⟩)
  have HB := Lib.hid (show Keeps w (w.alloc (.cells #[.int .u8 p, .int .u8 q, .int .u8 r, .int .u8 t] 23)) from (by (repeat (first | (with_reducible exact Keeps.refl _) | (with_reducible assumption) | (with_reducible refine Keeps.drewN ?_ _) | (with_reducible refine Keeps.drew ?_) | (with_reducible refine Keeps.alloc ?_ _) | (with_reducible refine Keeps.setNew ?_ ?_ _))) <;> (dsimp only; omega)))
  have hk0 := Keeps.refl (w.alloc (.cells #[.int .u8 p, .int .u8 q, .int .u8 r, .int .u8 t] 23))
  have K1 := Lib.hid (fun w' (hk : Keeps (w.alloc (.cells #[.int .u8 p, .int .u8 q, .int .u8 r, .int .u8 t] 23)) w') => keepk (T1 w') hk)
  have K2 := Lib.hid (fun w' (hk : Keeps (w.alloc (.cells #[.int .u8 p, .int .u8 q, .int .u8 r, .int .u8 t] 23)) w') => keepk (T2 w') hk)
  clear T1 T2 hO hR hV b0 b1 b2
  have hc : (p ≠ q ∧ (p == q) = false ∧ (s == 0) = false) ∨ (p = q ∧ (q == r) = false ∧ (s == 0) = false) ∨ (p = q ∧ q = r ∧ s = 0) := by
    by_cases h1 : p = q
    · by_cases h2 : q = r
      · exact Or.inr (Or.inr ⟨h1, h2, hS.2 ⟨h1, h2⟩⟩)
      · exact Or.inr (Or.inl ⟨h1, beq_eq_false_iff_ne.2 h2, beq_eq_false_iff_ne.2 fun h => h2 (hS.1 h).2⟩)
    · exact Or.inl ⟨h1, beq_eq_false_iff_ne.2 h1, beq_eq_false_iff_ne.2 fun h => h1 (hS.1 h).1⟩
  clear hS
  rcases hc with ⟨_, c1, c2⟩ | ⟨rfl, c1, c2⟩ | ⟨rfl, rfl, rfl⟩
  · skip
    have L1 := Lib.hid L1
    clear hL
    go_enter Try.func12, Try.ntmps12
    go_wp2_with (first | (go_at_call 34; (with_reducible refine (K1.out _ (by assumption)).mono ?_); rintro e w1 ⟨rfl, hk1⟩; obtain ⟨y0, y1, y2, y3, y4, y5, y6, y7⟩ := HS.out _ hk1) | (go_at_call 36; (with_reducible refine (K2.out _ (by assumption)).mono ?_); rintro e w2 ⟨rfl, hk2⟩; have h3t := hk2.size; have h3s : w.heap.size < w2.heap.size := (by simp at h3t; omega); clear h3t hk1; obtain ⟨y0, y1, y2, y3, y4, y5, y6, y7⟩ := HS.out _ hk2))
    have HE := Lib.hid (hk2.alloc (.cells #[.int .u8 p, .int .u8 q, .int .u8 r, .int .u8 t] 23))
    have HF := Lib.hid (box4 w2 (.int .u8 p) (.int .u8 q) (.int .u8 r) (.int .u8 t) 23 w2.heap.size rfl)
    generalize w2.alloc (.cells #[.int .u8 p, .int .u8 q, .int .u8 r, .int .u8 t] 23) = Wb at HE HF ⊢
    have za0 := fun k : KW (Wb) => (HS.out _ (HE.out.trans k.keeps)).1
    have za1 := fun k : KW (Wb) => (HS.out _ (HE.out.trans k.keeps)).2.2.1
    have za2 := fun k : KW (Wb) => (HS.out _ (HE.out.trans k.keeps)).2.2.2.2.1
    have za3 := fun k : KW (Wb) => (HS.out _ (HE.out.trans k.keeps)).2.2.2.2.2.2.1
    have zb0 := fun k : KW (Wb) => (HF.out _ k.keeps).1
    have zb1 := fun k : KW (Wb) => (HF.out _ k.keeps).2.1
    have zb2 := fun k : KW (Wb) => (HF.out _ k.keeps).2.2.1
    have zb3 := fun k : KW (Wb) => (HF.out _ k.keeps).2.2.2
    have M1 := Lib.hid (fun k : KW Wb => keepq (L1.out k.w))
    have M9 := Lib.hid (fun k : KW Wb => keepq (example27_any k.w))
    have hkb := Keeps.refl Wb
    refine wp_region_kept (Wb) (by kernel_rfl) (by kernel_rfl) (hkb) ?_
    repeat (first | go_big_quiet_skip | (go_big_quiet_want; go_big_quiet_op; first | go_big_quiet_on | go_big_quiet_call ((first | (go_at_call 38; first | (with_reducible exact M1.out _)) | (go_at_call 16; first | (with_reducible exact M9.out _))))))
    refine wpQuiet_nil ?_
    rintro w' ⟨k9, rfl⟩
    have hk := k9.keeps
    generalize k9.w = w9 at hk ⊢
    clear k9
    go_wp2_with fail
    go_ret
    exact ⟨rfl, (HB.out.trans HE.out).trans hk⟩
  · skip
    have L1 := Lib.hid L1
    clear hL
    go_enter Try.func12, Try.ntmps12
    go_wp2_with (first | (go_at_call 34; (with_reducible refine (K1.out _ (by assumption)).mono ?_); rintro e w1 ⟨rfl, hk1⟩; obtain ⟨y0, y1, y2, y3, y4, y5, y6, y7⟩ := HS.out _ hk1) | (go_at_call 36; (with_reducible refine (K2.out _ (by assumption)).mono ?_); rintro e w2 ⟨rfl, hk2⟩; have h3t := hk2.size; have h3s : w.heap.size < w2.heap.size := (by simp at h3t; omega); clear h3t hk1; obtain ⟨y0, y1, y2, y3, y4, y5, y6, y7⟩ := HS.out _ hk2))
    have HE := Lib.hid (hk2.alloc (.cells #[.int .u8 p, .int .u8 p, .int .u8 r, .int .u8 t] 23))
    have HF := Lib.hid (box4 w2 (.int .u8 p) (.int .u8 p) (.int .u8 r) (.int .u8 t) 23 w2.heap.size rfl)
    generalize w2.alloc (.cells #[.int .u8 p, .int .u8 p, .int .u8 r, .int .u8 t] 23) = Wb at HE HF ⊢
    have za0 := fun k : KW (Wb) => (HS.out _ (HE.out.trans k.keeps)).1
    have za1 := fun k : KW (Wb) => (HS.out _ (HE.out.trans k.keeps)).2.2.1
    have za2 := fun k : KW (Wb) => (HS.out _ (HE.out.trans k.keeps)).2.2.2.2.1
    have za3 := fun k : KW (Wb) => (HS.out _ (HE.out.trans k.keeps)).2.2.2.2.2.2.1
    have zb0 := fun k : KW (Wb) => (HF.out _ k.keeps).1
    have zb1 := fun k : KW (Wb) => (HF.out _ k.keeps).2.1
    have zb2 := fun k : KW (Wb) => (HF.out _ k.keeps).2.2.1
    have zb3 := fun k : KW (Wb) => (HF.out _ k.keeps).2.2.2
    have M1 := Lib.hid (fun k : KW Wb => keepq (L1.out k.w))
    have M9 := Lib.hid (fun k : KW Wb => keepq (example27_any k.w))
    have hkb := Keeps.refl Wb
    refine wp_region_kept (Wb) (by kernel_rfl) (by kernel_rfl) (hkb) ?_
    repeat (first | go_big_quiet_skip | (go_big_quiet_want; go_big_quiet_op; first | go_big_quiet_on | go_big_quiet_call ((first | (go_at_call 38; first | (with_reducible exact M1.out _)) | (go_at_call 16; first | (with_reducible exact M9.out _))))))
    refine wpQuiet_nil ?_
    rintro w' ⟨k9, rfl⟩
    have hk := k9.keeps
    generalize k9.w = w9 at hk ⊢
    clear k9
    go_wp2_with fail
    go_ret
    exact ⟨rfl, (HB.out.trans HE.out).trans hk⟩
  · rw [hL rfl rfl] at L1
    have L1 := Lib.hid L1
    clear hL
    go_enter Try.func12, Try.ntmps12
    go_wp2_with (first | (go_at_call 34; (with_reducible refine (K1.out _ (by assumption)).mono ?_); rintro e w1 ⟨rfl, hk1⟩; obtain ⟨y0, y1, y2, y3, y4, y5, y6, y7⟩ := HS.out _ hk1) | (go_at_call 36; (with_reducible refine (K2.out _ (by assumption)).mono ?_); rintro e w2 ⟨rfl, hk2⟩; have h3t := hk2.size; have h3s : w.heap.size < w2.heap.size := (by simp at h3t; omega); clear h3t hk1; obtain ⟨y0, y1, y2, y3, y4, y5, y6, y7⟩ := HS.out _ hk2))
    have HE := Lib.hid (hk2.alloc (.cells #[.int .u8 p, .int .u8 p, .int .u8 p, .int .u8 t] 23))
    have HF := Lib.hid (box4 w2 (.int .u8 p) (.int .u8 p) (.int .u8 p) (.int .u8 t) 23 w2.heap.size rfl)
    generalize w2.alloc (.cells #[.int .u8 p, .int .u8 p, .int .u8 p, .int .u8 t] 23) = Wb at HE HF ⊢
    have za0 := fun k : KW (Wb) => (HS.out _ (HE.out.trans k.keeps)).1
    have za1 := fun k : KW (Wb) => (HS.out _ (HE.out.trans k.keeps)).2.2.1
    have za2 := fun k : KW (Wb) => (HS.out _ (HE.out.trans k.keeps)).2.2.2.2.1
    have za3 := fun k : KW (Wb) => (HS.out _ (HE.out.trans k.keeps)).2.2.2.2.2.2.1
    have zb0 := fun k : KW (Wb) => (HF.out _ k.keeps).1
    have zb1 := fun k : KW (Wb) => (HF.out _ k.keeps).2.1
    have zb2 := fun k : KW (Wb) => (HF.out _ k.keeps).2.2.1
    have zb3 := fun k : KW (Wb) => (HF.out _ k.keeps).2.2.2
    have M1 := Lib.hid (fun k : KW Wb => keepq (L1.out k.w))
    have M9 := Lib.hid (fun k : KW Wb => keepq (example27_any k.w))
    have hkb := Keeps.refl Wb
    refine wp_region_kept (Wb) (by kernel_rfl) (by kernel_rfl) (hkb) ?_
    repeat (first | go_big_quiet_skip | (go_big_quiet_want; go_big_quiet_op; first | go_big_quiet_on | go_big_quiet_call ((first | (go_at_call 38; first | (with_reducible exact M1.out _)) | (go_at_call 16; first | (with_reducible exact M9.out _))))))
    refine wpQuiet_nil ?_
    rintro w' ⟨k9, rfl⟩
    have hk := k9.keeps
    generalize k9.w = w9 at hk ⊢
    clear k9
    go_wp2_with fail
    go_ret
    exact ⟨rfl, (HB.out.trans HE.out).trans hk⟩

set_option maxRecDepth 100000 in
theorem lifted (os : Os) (started : os.Started) (H : Type) (enc : TypeId × Value → H) :
    ReturnsInHanded {} Try.checked os 12 .any (Rows.colorHSLRoundTripSpec.pre6 enc Try.prog Try.f12 Rows.colorHSLRoundTripRow.domain false) (Rows.colorHSLRoundTripSpec.post enc Try.prog Try.f12 false true false false) := by
  refine returnsInHanded_of_change (C := Try.checked) Try.own started (by kernel_rfl) Try.func12
    (ChangeSpec.witness6 (enc := enc) (C := Try.checked) false ⟨#[], #[.agg #[.int .u8 0, .int .u8 0, .int .u8 0, .int .u8 0]], []⟩ 8 (by kernel_rfl) (by kernel_rfl) (by kernel_rfl) (by kernel_rfl)) ?_
  intro W base args ds gs before hval0 hW hcnd _
  have hval : ∀ (j : Nat) t v, Try.f12.params[j]? = some t → args[j]? = some v → Value.okWide Try.prog W .any base t v := hval0
  have hW' := hW
  obtain ⟨p, q, hA0, hV, rfl, hfz, hnd⟩ := hW
  have hA : DataW.TrodAll enc Try.prog W 0 (fun _ => true) true Try.f12.params.toList args.toList ds p := hA0
  have hAll := hA
  rw [Try.params12] at hA hval
  obtain ⟨v0, vs0, d0, ds0, p0, q0, hargs, rfl, rfl, h0, r0⟩ := trodAll_cons hA
  obtain ⟨rfl, rfl, rfl⟩ := trodAll_nil r0
  obtain rfl : args = #[v0] := by cases args; simp_all
  obtain ⟨rfl, rfl⟩ := trodVars_none hV
  obtain ⟨c0, rfl, L0_0⟩ := open_flat (ks := [some .u8, some .u8, some .u8, some .u8]) (by kernel_rfl) (by kernel_rfl) (hval 0 23 v0 rfl rfl) h0
  obtain ⟨_, c0_0, rfl, ⟨a0_0, rfl, w0_0⟩, L0_1⟩ := leafs_cons L0_0
  obtain ⟨l0_0, u0_0⟩ := bounds_u8 w0_0
  obtain ⟨_, c0_1, rfl, ⟨a0_1, rfl, w0_1⟩, L0_2⟩ := leafs_cons L0_1
  obtain ⟨l0_1, u0_1⟩ := bounds_u8 w0_1
  obtain ⟨_, c0_2, rfl, ⟨a0_2, rfl, w0_2⟩, L0_3⟩ := leafs_cons L0_2
  obtain ⟨l0_2, u0_2⟩ := bounds_u8 w0_2
  obtain ⟨_, c0_3, rfl, ⟨a0_3, rfl, w0_3⟩, L0_4⟩ := leafs_cons L0_3
  obtain ⟨l0_3, u0_3⟩ := bounds_u8 w0_3
  obtain rfl := leafs_nil L0_4
  clear hA0 hval0
  refine (walk a0_0 a0_1 a0_2 a0_3 W l0_0 u0_0 l0_1 u0_1 l0_2 u0_2 l0_3 u0_3).mono fun e W' ⟨he, bel⟩ => ?_
  subst he
  exact ⟨_, rfl, _, _, _, [], _, [], hW', trodAll_mk1 (shut_bool Try.underlying4 _), below_trodAll Try.laidOut bel (reads_of (by kernel_rfl)) hAll, rfl, bel.frame _, fun h => by cases h⟩

theorem over : Rows.colorHSLRoundTripRow.holds Try.pinned (OpenSpec.ofChange Rows.colorHSLRoundTripSpec) :=
  OpenClaim.holds_of_wide 12 Try.f12 rfl rfl rfl rfl rfl rfl rfl ⟨rfl, rfl, rfl, rfl, rfl⟩ rfl rfl rfl rfl rfl (by kernel_rfl) Try.func12 (by kernel_rfl)
    (of_decide_eq_true (by kernel_rfl)) (by unfold Func.isWrapper; first | (rw [if_pos (by decide +kernel)]; kernel_rfl) | (rw [if_neg (by decide +kernel)]; exact ⟨rfl, rfl⟩))
    (fun os started H enc _ => lifted os started H enc)

/-- The statement. -/
theorem proved : Rows.ColorHSLRoundTripSaid := over
#print axioms proved
end Go.Proofs.Ytjfimlcljbdglaa.colorHSLRoundTrip
