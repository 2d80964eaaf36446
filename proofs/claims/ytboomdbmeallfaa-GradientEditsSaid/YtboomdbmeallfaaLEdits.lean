/- GradientEdits of grisaillelaw31 returns true for all its arguments: every slice of stops and every stop; no condition. -/
import Derived.Test.YtboomdbmeallfaaGz
import Derived.Test.YtboomdbmeallfaaGd
import Derived.Test.YtboomdbmeallfaaGf
import Derived.Test.YtboomdbmeallfaaOs
import Derived.Test.YtboomdbmeallfaaOp
import Derived.Test.YtboomdbmeallfaaKk
namespace Go.Proofs.Ytboomdbmeallfaa.gradientEdits
open Go.RowKit Go.ChangeShapes Go.WideShapes Go.ChangeAt
set_option linter.unusedVariables false
open Go.Proofs.Ytboomdbmeallfaa
set_option linter.unusedSimpArgs false
set_option maxRecDepth 100000 in
set_option maxHeartbeats 4000000 in
theorem walkS (A : Option Addr) (n c : Nat) (L : List St) (s : St) (w : World) (h : Sts w A n c L) (hs : okSt s) :
    Calls Try.prog 12 #[.slice A n c, .agg #[.int .i64 s.1, .int .u8 s.2.1, .int .u8 s.2.2.1, .int .u8 s.2.2.2.1, .int .u8 s.2.2.2.2]] w fun e w' => e = .returned (.bool true) ∧ Below w.heap.size w w' := by
  have K9 := Lib.hid (fun w => example31_any w)
  have hmx := h.max
  have HS := Lib.hid (show ∀ w', Keeps (w.alloc (.cells #[.int .i64 s.1, .int .u8 s.2.1, .int .u8 s.2.2.1, .int .u8 s.2.2.2.1, .int .u8 s.2.2.2.2] 31)) w' → w'.cell? ⟨w.heap.size, 0, none⟩ = some (.int .i64 s.1) ∧ w'.frozen? ⟨w.heap.size, 0, none⟩ = false ∧ w'.cell? ⟨w.heap.size, 1, none⟩ = some (.int .u8 s.2.1) ∧ w'.frozen? ⟨w.heap.size, 1, none⟩ = false ∧ w'.cell? ⟨w.heap.size, 2, none⟩ = some (.int .u8 s.2.2.1) ∧ w'.frozen? ⟨w.heap.size, 2, none⟩ = false ∧ w'.cell? ⟨w.heap.size, 3, none⟩ = some (.int .u8 s.2.2.2.1) ∧ w'.frozen? ⟨w.heap.size, 3, none⟩ = false ∧ w'.cell? ⟨w.heap.size, 4, none⟩ = some (.int .u8 s.2.2.2.2) ∧ w'.frozen? ⟨w.heap.size, 4, none⟩ = false from fun w' hk => ⟨(hk.cell (p := ⟨w.heap.size, 0, none⟩) (by first | (simp; done) | (simp; omega))).trans (by simp [go_sem]), (hk.frozen (p := ⟨w.heap.size, 0, none⟩) (by first | (simp; done) | (simp; omega))).trans (by simp [go_sem]), (hk.cell (p := ⟨w.heap.size, 1, none⟩) (by first | (simp; done) | (simp; omega))).trans (by simp [go_sem]), (hk.frozen (p := ⟨w.heap.size, 1, none⟩) (by first | (simp; done) | (simp; omega))).trans (by simp [go_sem]), (hk.cell (p := ⟨w.heap.size, 2, none⟩) (by first | (simp; done) | (simp; omega))).trans (by simp [go_sem]), (hk.frozen (p := ⟨w.heap.size, 2, none⟩) (by first | (simp; done) | (simp; omega))).trans (by simp [go_sem]), (hk.cell (p := ⟨w.heap.size, 3, none⟩) (by first | (simp; done) | (simp; omega))).trans (by simp [go_sem]), (hk.frozen (p := ⟨w.heap.size, 3, none⟩) (by first | (simp; done) | (simp; omega))).trans (by simp [go_sem]), (hk.cell (p := ⟨w.heap.size, 4, none⟩) (by first | (simp; done) | (simp; omega))).trans (by simp [go_sem]), (hk.frozen (p := ⟨w.heap.size, 4, none⟩) (by first | (simp; done) | (simp; omega))).trans (by simp [go_sem])⟩)
  have HB := Lib.hid (show Keeps w (w.alloc (.cells #[.int .i64 s.1, .int .u8 s.2.1, .int .u8 s.2.2.1, .int .u8 s.2.2.2.1, .int .u8 s.2.2.2.2] 31)) from (by (repeat (first | (with_reducible exact Keeps.refl _) | (with_reducible assumption) | (with_reducible refine Keeps.drewN ?_ _) | (with_reducible refine Keeps.drew ?_) | (with_reducible refine Keeps.alloc ?_ _) | (with_reducible refine Keeps.setNew ?_ ?_ _))) <;> (dsimp only; omega)))
  have hk0 := Keeps.refl (w.alloc (.cells #[.int .i64 s.1, .int .u8 s.2.1, .int .u8 s.2.2.1, .int .u8 s.2.2.2.1, .int .u8 s.2.2.2.2] 31))
  have hl := Lib.hid h.1
  by_cases h40 : n ≤ 40
  · have K1 := Lib.hid (fun w => few_yes A n c w h40 hmx)
    have HA := Lib.hid (fun w' (hk : Keeps ((w.alloc (.cells #[.int .i64 s.1, .int .u8 s.2.1, .int .u8 s.2.2.1, .int .u8 s.2.2.2.1, .int .u8 s.2.2.2.2] 31))) w') => h.keep (HB.out.trans hk))
    have K2 := Lib.hid (fun w' hk => valid31_any A n c L w' (HA.out w' hk))
    have KI := Lib.hid (fun w' hk => gins_any A n c L s w' (HA.out w' hk) hs)
    have KJ := Lib.hid (fun w' hk => rins_any A n c L s w' (HA.out w' hk) hs)
    have KR := Lib.hid (fun w' hk => grev5_any A n c L w' (HA.out w' hk))
    have KQ := Lib.hid (fun w' hk => rrev5_any A n c L w' (HA.out w' hk) (by omega))
    have HM := Lib.hid (fun (hv : vB L = true) => (mirS_mirS hv : mirS (mirS L) = L))
    unfold RetI at KI KJ
    generalize insE L s = y at *
    generalize insL L s = IL at *
    generalize hML : mirS L = ML at *
    have q1 : (y == y) = true := beq_self_eq_true y
    have q2 : (y != y) = false := by simp
    clear h hs h40 hML
    cases hv : vB L with
    | false =>
      rw [hv] at K2
      clear HM hv
      go_enter Try.func12, Try.ntmps12
      go_wp2_with (first | (go_at_call 15; (with_reducible refine (K1.out _).mono ?_); rintro e wf ⟨rfl, rfl⟩) | (go_at_call 31; (with_reducible refine (KI.out _ hk0).mono ?_); rintro e w1 ⟨A1, c1, rfl, hS1, hk⟩; replace hk0 := hk0.trans hk; have hS1 := Lib.hid hS1; clear hk; obtain ⟨y0, y1, y2, y3, y4, y5, y6, y7, y8, y9⟩ := HS.out _ hk0) | (go_at_call 33; (with_reducible refine (KJ.out _ hk0).mono ?_); rintro e w2 ⟨A2, c2, rfl, hS2, hk⟩; have KS := Lib.hid (same_any A1 A2 _ c1 c2 IL _ (hS1.out.keep hk) hS2); replace hk0 := hk0.trans hk; clear hk hS2 hS1) | (go_at_call 24; (with_reducible refine KS.out.mono ?_); rintro e w3 ⟨rfl, hk⟩; replace hk0 := hk0.trans hk; clear hk KS) | (go_at_call 34; (with_reducible refine (KR.out _ hk0).mono ?_); rintro e w4 ⟨A3, c3, rfl, hS3, hk⟩; have hS3 := Lib.hid hS3; replace hk0 := hk0.trans hk; clear hk) | (go_at_call 35; (with_reducible refine (KQ.out _ hk0).mono ?_); rintro e w5 ⟨A4, c4, rfl, hS4, hk⟩; have KS := Lib.hid (same_any A3 A4 _ c3 c4 ML _ (hS3.out.keep hk) hS4); replace hk0 := hk0.trans hk; clear hk hS3 hS4) | (go_at_call 16; (with_reducible refine (K2.out _ hk0).mono ?_); rintro e w6 ⟨rfl, hk⟩; replace hk0 := hk0.trans hk; clear hk) | (go_at_call 14; (with_reducible refine (K9.out _).mono ?_); rintro e w9 ⟨rfl, hk⟩; replace hk0 := hk0.trans hk; clear hk) | fail "ARM")
      go_ret
      exact ⟨rfl, HB.out.trans hk0⟩
    | true =>
      rw [hv] at K2
      have KT := Lib.hid (fun A5 c5 w' (hS : Sts w' A5 ML.length c5 ML) => (show Calls Try.prog 34 #[.slice A5 ML.length c5] w' fun e w'' => ∃ A' c', e = .returned (.slice A' n c') ∧ Sts w'' A' n c' L ∧ Keeps w' w'' from by
        have h1 := grev5_any A5 ML.length c5 ML w' hS
        rw [HM.out hv, hl.out] at h1
        exact h1))
      clear HM hv
      go_enter Try.func12, Try.ntmps12
      go_wp2_with (first | (go_at_call 15; (with_reducible refine (K1.out _).mono ?_); rintro e wf ⟨rfl, rfl⟩) | (go_at_call 31; (with_reducible refine (KI.out _ hk0).mono ?_); rintro e w1 ⟨A1, c1, rfl, hS1, hk⟩; replace hk0 := hk0.trans hk; have hS1 := Lib.hid hS1; clear hk; obtain ⟨y0, y1, y2, y3, y4, y5, y6, y7, y8, y9⟩ := HS.out _ hk0) | (go_at_call 33; (with_reducible refine (KJ.out _ hk0).mono ?_); rintro e w2 ⟨A2, c2, rfl, hS2, hk⟩; have KS := Lib.hid (same_any A1 A2 _ c1 c2 IL _ (hS1.out.keep hk) hS2); replace hk0 := hk0.trans hk; clear hk hS2 hS1) | (go_at_call 24; (with_reducible refine KS.out.mono ?_); rintro e w3 ⟨rfl, hk⟩; replace hk0 := hk0.trans hk; clear hk KS) | (go_at_call 34; (with_reducible refine (KU.out).mono ?_); rintro e w8 ⟨A6, c6, rfl, hS6, hk⟩; replace hk0 := hk0.trans hk; have KS := Lib.hid (same_any A6 A n c6 c L _ hS6 (HA.out _ hk0)); clear hk hS6 KU) | (go_at_call 34; (with_reducible refine (KR.out _ hk0).mono ?_); rintro e w4 ⟨A3, c3, rfl, hS3, hk⟩; have KU := Lib.hid (KT.out A3 c3 _ hS3); have hS3 := Lib.hid hS3; replace hk0 := hk0.trans hk; clear hk) | (go_at_call 35; (with_reducible refine (KQ.out _ hk0).mono ?_); rintro e w5 ⟨A4, c4, rfl, hS4, hk⟩; have KS := Lib.hid (same_any A3 A4 _ c3 c4 ML _ (hS3.out.keep hk) hS4); replace hk0 := hk0.trans hk; clear hk hS3 hS4 KU) | (go_at_call 16; (with_reducible refine (K2.out _ hk0).mono ?_); rintro e w6 ⟨rfl, hk⟩; replace hk0 := hk0.trans hk; clear hk) | (go_at_call 14; (with_reducible refine (K9.out _).mono ?_); rintro e w9 ⟨rfl, hk⟩; replace hk0 := hk0.trans hk; clear hk) | fail "ARM")
      go_ret
      exact ⟨rfl, HB.out.trans hk0⟩
  · have K1 := Lib.hid (fun w => few_no A n c w h40 hmx)
    clear h hs
    go_enter Try.func12, Try.ntmps12
    go_wp2_with (first | (go_at_call 15; (with_reducible refine (K1.out _).mono ?_); rintro e wf ⟨rfl, rfl⟩) | (go_at_call 14; (with_reducible refine (K9.out _).mono ?_); rintro e w9 ⟨rfl, hk⟩; replace hk0 := hk0.trans hk; clear hk) | fail "ARM")
    go_ret
    exact ⟨rfl, HB.out.trans hk0⟩
theorem walk (A : Option Addr) (n c : Nat) (L : List St) (a0 a1 a2 a3 a4 : Int) (w : World) (h : Sts w A n c L) (_ : -9223372036854775808 ≤ a0) (_ : a0 ≤ 9223372036854775807) (l1 : 0 ≤ a1) (u1 : a1 ≤ 255) (l2 : 0 ≤ a2) (u2 : a2 ≤ 255) (l3 : 0 ≤ a3) (u3 : a3 ≤ 255) (l4 : 0 ≤ a4) (u4 : a4 ≤ 255) :
    Calls Try.prog 12 #[.slice A n c, .agg #[.int .i64 a0, .int .u8 a1, .int .u8 a2, .int .u8 a3, .int .u8 a4]] w fun e w' => e = .returned (.bool true) ∧ Below w.heap.size w w' :=
  walkS A n c L (a0, a1, a2, a3, a4) w h ⟨⟨l1, u1⟩, ⟨l2, u2⟩, ⟨l3, u3⟩, ⟨l4, u4⟩⟩

set_option maxRecDepth 100000 in
theorem lifted (os : Os) (started : os.Started) (H : Type) (enc : TypeId × Value → H) :
    ReturnsInHanded {} Try.checked os 12 .any (Rows.gradientEditsSpec.pre6 enc Try.prog Try.f12 Rows.gradientEditsRow.domain false) (Rows.gradientEditsSpec.post enc Try.prog Try.f12 false true false false) := by
  refine returnsInHanded_of_change (C := Try.checked) Try.own started (by kernel_rfl) Try.func12
    (ChangeSpec.witness6 (enc := enc) (C := Try.checked) false ⟨#[], #[.slice none 0 0, .agg #[.int .i64 0, .int .u8 0, .int .u8 0, .int .u8 0, .int .u8 0]], []⟩ 8 (by kernel_rfl) (by kernel_rfl) (by kernel_rfl) (by kernel_rfl)) ?_
  intro W base args ds gs before hval0 hW hcnd _
  have hval : ∀ (j : Nat) t v, Try.f12.params[j]? = some t → args[j]? = some v → Value.okWide Try.prog W .any base t v := hval0
  have hW' := hW
  obtain ⟨p, q, hA0, hV, rfl, hfz, hnd⟩ := hW
  have hA : DataW.TrodAll enc Try.prog W 0 (fun _ => true) true Try.f12.params.toList args.toList ds p := hA0
  have hAll := hA
  rw [Try.params12] at hA hval
  obtain ⟨v0, vs0, d0, ds0, p0, q0, hargs, rfl, rfl, h0, r0⟩ := trodAll_cons hA
  obtain ⟨v1, vs1, d1, ds1, p1, q1, rfl, rfl, rfl, h1, r1⟩ := trodAll_cons r0
  obtain ⟨rfl, rfl, rfl⟩ := trodAll_nil r1
  obtain rfl : args = #[v0, v1] := by cases args; simp_all
  obtain ⟨rfl, rfl⟩ := trodVars_none hV
  obtain ⟨A0, n0, c0, L0, rfl, S0⟩ := open_stops (hval 0 25 v0 rfl rfl) h0
  obtain ⟨c1, rfl, L1_0⟩ := open_flat (ks := [some .i64, some .u8, some .u8, some .u8, some .u8]) (by kernel_rfl) (by kernel_rfl) (hval 1 31 v1 rfl rfl) h1
  obtain ⟨_, c1_0, rfl, ⟨a1_0, rfl, w1_0⟩, L1_1⟩ := leafs_cons L1_0
  obtain ⟨l1_0, u1_0⟩ := bounds_i64 w1_0
  obtain ⟨_, c1_1, rfl, ⟨a1_1, rfl, w1_1⟩, L1_2⟩ := leafs_cons L1_1
  obtain ⟨l1_1, u1_1⟩ := bounds_u8 w1_1
  obtain ⟨_, c1_2, rfl, ⟨a1_2, rfl, w1_2⟩, L1_3⟩ := leafs_cons L1_2
  obtain ⟨l1_2, u1_2⟩ := bounds_u8 w1_2
  obtain ⟨_, c1_3, rfl, ⟨a1_3, rfl, w1_3⟩, L1_4⟩ := leafs_cons L1_3
  obtain ⟨l1_3, u1_3⟩ := bounds_u8 w1_3
  obtain ⟨_, c1_4, rfl, ⟨a1_4, rfl, w1_4⟩, L1_5⟩ := leafs_cons L1_4
  obtain ⟨l1_4, u1_4⟩ := bounds_u8 w1_4
  obtain rfl := leafs_nil L1_5
  clear hA0 hval0
  refine (walk A0 n0 c0 L0 a1_0 a1_1 a1_2 a1_3 a1_4 W S0 l1_0 u1_0 l1_1 u1_1 l1_2 u1_2 l1_3 u1_3 l1_4 u1_4).mono fun e W' ⟨he, bel⟩ => ?_
  subst he
  exact ⟨_, rfl, _, _, _, [], _, [], hW', trodAll_mk1 (shut_bool Try.underlying4 _), below_trodAll Try.laidOut bel (reads_of (by kernel_rfl)) hAll, rfl, bel.frame _, fun h => by cases h⟩

theorem over : Rows.gradientEditsRow.holds Try.pinned (OpenSpec.ofChange Rows.gradientEditsSpec) :=
  OpenClaim.holds_of_wide 12 Try.f12 rfl rfl rfl rfl rfl rfl rfl ⟨rfl, rfl, rfl, rfl, rfl⟩ rfl rfl rfl rfl rfl (by kernel_rfl) Try.func12 (by kernel_rfl)
    (of_decide_eq_true (by kernel_rfl)) (by unfold Func.isWrapper; first | (rw [if_pos (by decide +kernel)]; kernel_rfl) | (rw [if_neg (by decide +kernel)]; exact ⟨rfl, rfl⟩))
    (fun os started H enc _ => lifted os started H enc)

/-- The statement. -/
theorem proved : Rows.GradientEditsSaid := over
#print axioms proved
end Go.Proofs.Ytboomdbmeallfaa.gradientEdits
