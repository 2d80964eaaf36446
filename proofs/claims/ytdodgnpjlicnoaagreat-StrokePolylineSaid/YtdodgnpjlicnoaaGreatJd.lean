/- Contract of reference 23's MiterTip. -/
import Derived.Test.YtdodgnpjlicnoaaGreatJb
import Derived.Test.YtdodgnpjlicnoaaGreatN19
namespace Go.Proofs.YtdodgnpjlicnoaaGreat
open Go.RowKit
attribute [local go_sem ↓] Go.wp_at_zero Go.wp_at_succ
set_option linter.unusedVariables false
set_option linter.unusedSimpArgs false
set_option maxRecDepth 100000 in
set_option maxHeartbeats 8000000 in
theorem rtip_any (n m : Pt) (v l : Int) (w : World) :
    Calls Tryz.prog 80 #[.agg #[.int .i64 n.1, .int .i64 n.2], .agg #[.int .i64 m.1, .int .i64 m.2], .int .i64 v, .int .i64 l] w fun e w' => e = .returned (.tuple #[.agg #[.int .i64 (tipP n m v l).1, .int .i64 (tipP n m v l).2], .bool (tipB n m v l)]) ∧ Keeps w w' := by
  have KN := Lib.hid (fun w => rvalid_any n.1 n.2 w)
  have KM := Lib.hid (fun w => rvalid_any m.1 m.2 w)
  have KV := Lib.hid (fun w => rwide23_any v w)
  rw [show validB n.1 n.2 = vP n from rfl] at KN
  rw [show validB m.1 m.2 = vP m from rfl] at KM
  have HS := Lib.hid (show ∀ w', Keeps (((w.alloc (.cells #[.int .i64 n.1, .int .i64 n.2] 37)).alloc (.cells #[.int .i64 m.1, .int .i64 m.2] 37)).alloc (.cells #[.int .i64 0, .int .i64 0] 37)) w' → w'.cell? ⟨w.heap.size, 0, none⟩ = some (.int .i64 n.1) ∧ w'.frozen? ⟨w.heap.size, 0, none⟩ = false ∧ w'.cell? ⟨w.heap.size, 1, none⟩ = some (.int .i64 n.2) ∧ w'.frozen? ⟨w.heap.size, 1, none⟩ = false ∧ w'.cell? ⟨w.heap.size + 1, 0, none⟩ = some (.int .i64 m.1) ∧ w'.frozen? ⟨w.heap.size + 1, 0, none⟩ = false ∧ w'.cell? ⟨w.heap.size + 1, 1, none⟩ = some (.int .i64 m.2) ∧ w'.frozen? ⟨w.heap.size + 1, 1, none⟩ = false ∧ w'.cell? ⟨w.heap.size + 1 + 1, 0, none⟩ = some (.int .i64 0) ∧ w'.frozen? ⟨w.heap.size + 1 + 1, 0, none⟩ = false ∧ w'.cell? ⟨w.heap.size + 1 + 1, 1, none⟩ = some (.int .i64 0) ∧ w'.frozen? ⟨w.heap.size + 1 + 1, 1, none⟩ = false from fun w' hk => ⟨(hk.cell (p := ⟨w.heap.size, 0, none⟩) (by first | (simp; done) | (simp; omega))).trans (by simp [go_sem]), (hk.frozen (p := ⟨w.heap.size, 0, none⟩) (by first | (simp; done) | (simp; omega))).trans (by simp [go_sem]), (hk.cell (p := ⟨w.heap.size, 1, none⟩) (by first | (simp; done) | (simp; omega))).trans (by simp [go_sem]), (hk.frozen (p := ⟨w.heap.size, 1, none⟩) (by first | (simp; done) | (simp; omega))).trans (by simp [go_sem]), (hk.cell (p := ⟨w.heap.size + 1, 0, none⟩) (by first | (simp; done) | (simp; omega))).trans (by simp [go_sem]), (hk.frozen (p := ⟨w.heap.size + 1, 0, none⟩) (by first | (simp; done) | (simp; omega))).trans (by simp [go_sem]), (hk.cell (p := ⟨w.heap.size + 1, 1, none⟩) (by first | (simp; done) | (simp; omega))).trans (by simp [go_sem]), (hk.frozen (p := ⟨w.heap.size + 1, 1, none⟩) (by first | (simp; done) | (simp; omega))).trans (by simp [go_sem]), (hk.cell (p := ⟨w.heap.size + 1 + 1, 0, none⟩) (by first | (simp; done) | (simp; omega))).trans (by simp [go_sem]), (hk.frozen (p := ⟨w.heap.size + 1 + 1, 0, none⟩) (by first | (simp; done) | (simp; omega))).trans (by simp [go_sem]), (hk.cell (p := ⟨w.heap.size + 1 + 1, 1, none⟩) (by first | (simp; done) | (simp; omega))).trans (by simp [go_sem]), (hk.frozen (p := ⟨w.heap.size + 1 + 1, 1, none⟩) (by first | (simp; done) | (simp; omega))).trans (by simp [go_sem])⟩)
  have HB := Lib.hid (show Keeps w (((w.alloc (.cells #[.int .i64 n.1, .int .i64 n.2] 37)).alloc (.cells #[.int .i64 m.1, .int .i64 m.2] 37)).alloc (.cells #[.int .i64 0, .int .i64 0] 37)) from (by (repeat (first | (with_reducible exact Keeps.refl _) | (with_reducible assumption) | (with_reducible refine Keeps.drewN ?_ _) | (with_reducible refine Keeps.drew ?_) | (with_reducible refine Keeps.alloc ?_ _) | (with_reducible refine Keeps.setNew ?_ ?_ _))) <;> (dsimp only; omega)))
  have hk0 := Keeps.refl (((w.alloc (.cells #[.int .i64 n.1, .int .i64 n.2] 37)).alloc (.cells #[.int .i64 m.1, .int .i64 m.2] 37)).alloc (.cells #[.int .i64 0, .int .i64 0] 37))
  unfold tipP
  cases hb : tipB n m v l with
  | false =>
    rw [if_neg (by decide)]
    rcases tip_no hb with h1 | ⟨h1, h2⟩ | ⟨h1, h2, h3⟩ | ⟨h1, h2, h3, h4⟩ | ⟨h1, h2, h3, h4, h5⟩ | ⟨h1, h2, h3, h4, h5, h6⟩ | ⟨h1, h2, h3, h4, h5, h6, h7⟩
    · rw [h1] at KN
      clear hb h1
      go_enter Tryz.func80, Tryz.ntmps80
      go_wp2_with (first | (go_at_call 40; (first | (with_reducible refine (keepk (KN.out _) (by first | assumption | exact Keeps.drew (by assumption) | exact Keeps.drewN (by assumption) _)).mono ?_) | (with_reducible refine (keepk (KM.out _) (by first | assumption | exact Keeps.drew (by assumption) | exact Keeps.drewN (by assumption) _)).mono ?_) | fail "V"); rintro e w1 ⟨rfl, hk⟩; have hj := Keeps.trans HB.out hk; have hk := hk; obtain ⟨y0, y1, y2, y3, y4, y5, y6, y7, y8, y9, y10, y11⟩ := HS.out _ hk) | (go_at_call 96; (with_reducible refine (KV.out _).mono ?_); rintro e w1 ⟨rfl, rfl⟩) | (go_at_call 81; (with_reducible refine (keepk (KP.out _) (by first | assumption | exact Keeps.drew (by assumption) | exact Keeps.drewN (by assumption) _)).mono ?_); rintro e w2 ⟨rfl, hk⟩; have hj := Keeps.trans HB.out hk; have hk := hk; obtain ⟨y0, y1, y2, y3, y4, y5, y6, y7, y8, y9, y10, y11⟩ := HS.out _ hk; have hs2 : w.heap.size + 1 + 1 < w2.heap.size := (by have h := hk.size; simp at h; omega); have hk0 := hk.alloc (.cells #[.int .i64 a, .int .i64 b] 37); have hkb := Keeps.refl (w2.alloc (.cells #[.int .i64 a, .int .i64 b] 37)); have HT2 := Lib.hid (show ∀ w', Keeps (w2.alloc (.cells #[.int .i64 a, .int .i64 b] 37)) w' → w'.cell? ⟨w2.heap.size, 0, none⟩ = some (.int .i64 a) ∧ w'.cell? ⟨w2.heap.size, 1, none⟩ = some (.int .i64 b) from fun w' hq => ⟨(hq.cell (p := ⟨w2.heap.size, 0, none⟩) (by simp)).trans (by simp [go_sem]), (hq.cell (p := ⟨w2.heap.size, 1, none⟩) (by simp)).trans (by simp [go_sem])⟩)) | (go_at_call 100; (with_reducible refine (KF1.out _).mono ?_); intro e wf1 hret; obtain ⟨A1, c1, rfl, hD1, hki, hF1⟩ := hret; clear hF1;  replace hk0 := hk0.trans hki; replace hkb := hkb.trans hki; clear hki) | (go_at_call 100; (with_reducible refine (KF2.out _).mono ?_); intro e wf2 hret; obtain ⟨A2, c2, rfl, hD2, hki, hF2⟩ := hret; clear hF2; replace hD1 := hD1.keep hki; replace hk0 := hk0.trans hki; replace hkb := hkb.trans hki; clear hki) | (go_at_call 100; (with_reducible refine (KF3.out _).mono ?_); intro e wf3 hret; obtain ⟨A3, c3, rfl, hD3, hki, hF3⟩ := hret; clear hF3; replace hD1 := hD1.keep hki; replace hD2 := hD2.keep hki; replace hk0 := hk0.trans hki; replace hkb := hkb.trans hki; clear hki) | (go_at_call 101; (with_reducible refine (KM2.out _ _ _ _ _ hD2 hD3).mono ?_); intro e wm hret; obtain ⟨A4, c4, rfl, hD4, hki, hF4⟩ := hret; clear hF4; replace hD1 := hD1.keep hki; replace hk0 := hk0.trans hki; replace hkb := hkb.trans hki; clear hki) | (go_at_call 99; (with_reducible refine (KC2.out _ _ _ _ _ hD1 hD4).mono ?_); rintro e wc ⟨rfl, hki⟩; clear hD1 hD2 hD3 hD4; replace hk0 := hk0.trans hki; replace hkb := hkb.trans hki; clear hki; obtain ⟨z0, z1⟩ := HT2.out _ hkb; obtain ⟨y0, y1, y2, y3, y4, y5, y6, y7, y8, y9, y10, y11⟩ := HS.out _ hk0) | (go_at_call 102; (first | (with_reducible refine (KA2.out _).mono ?_) | (with_reducible refine (KB2.out _).mono ?_) | fail "M"); rintro e wd ⟨rfl, hki⟩; replace hk0 := hk0.trans hki; replace hkb := hkb.trans hki; clear hki; obtain ⟨z0, z1⟩ := HT2.out _ hkb; obtain ⟨y0, y1, y2, y3, y4, y5, y6, y7, y8, y9, y10, y11⟩ := HS.out _ hk0) | fail "ARM")
      exact bodyPost_ret (v := .tuple #[.agg #[.int .i64 0, .int .i64 0], .bool false]) (by simp [results, Tryz.results80, go_sem, *]) rfl ⟨rfl, (by (repeat (first | (with_reducible exact Keeps.refl _) | (with_reducible assumption) | (with_reducible refine Keeps.drewN ?_ _) | (with_reducible refine Keeps.drew ?_) | (with_reducible refine Keeps.alloc ?_ _) | (with_reducible refine Keeps.setNew ?_ ?_ _))) <;> (dsimp only; omega))⟩
    · rw [h1] at KN
      rw [h2] at KM
      clear hb h1 h2
      go_enter Tryz.func80, Tryz.ntmps80
      go_wp2_with (first | (go_at_call 40; (first | (with_reducible refine (keepk (KN.out _) (by first | assumption | exact Keeps.drew (by assumption) | exact Keeps.drewN (by assumption) _)).mono ?_) | (with_reducible refine (keepk (KM.out _) (by first | assumption | exact Keeps.drew (by assumption) | exact Keeps.drewN (by assumption) _)).mono ?_) | fail "V"); rintro e w1 ⟨rfl, hk⟩; have hj := Keeps.trans HB.out hk; have hk := hk; obtain ⟨y0, y1, y2, y3, y4, y5, y6, y7, y8, y9, y10, y11⟩ := HS.out _ hk) | (go_at_call 96; (with_reducible refine (KV.out _).mono ?_); rintro e w1 ⟨rfl, rfl⟩) | (go_at_call 81; (with_reducible refine (keepk (KP.out _) (by first | assumption | exact Keeps.drew (by assumption) | exact Keeps.drewN (by assumption) _)).mono ?_); rintro e w2 ⟨rfl, hk⟩; have hj := Keeps.trans HB.out hk; have hk := hk; obtain ⟨y0, y1, y2, y3, y4, y5, y6, y7, y8, y9, y10, y11⟩ := HS.out _ hk; have hs2 : w.heap.size + 1 + 1 < w2.heap.size := (by have h := hk.size; simp at h; omega); have hk0 := hk.alloc (.cells #[.int .i64 a, .int .i64 b] 37); have hkb := Keeps.refl (w2.alloc (.cells #[.int .i64 a, .int .i64 b] 37)); have HT2 := Lib.hid (show ∀ w', Keeps (w2.alloc (.cells #[.int .i64 a, .int .i64 b] 37)) w' → w'.cell? ⟨w2.heap.size, 0, none⟩ = some (.int .i64 a) ∧ w'.cell? ⟨w2.heap.size, 1, none⟩ = some (.int .i64 b) from fun w' hq => ⟨(hq.cell (p := ⟨w2.heap.size, 0, none⟩) (by simp)).trans (by simp [go_sem]), (hq.cell (p := ⟨w2.heap.size, 1, none⟩) (by simp)).trans (by simp [go_sem])⟩)) | (go_at_call 100; (with_reducible refine (KF1.out _).mono ?_); intro e wf1 hret; obtain ⟨A1, c1, rfl, hD1, hki, hF1⟩ := hret; clear hF1;  replace hk0 := hk0.trans hki; replace hkb := hkb.trans hki; clear hki) | (go_at_call 100; (with_reducible refine (KF2.out _).mono ?_); intro e wf2 hret; obtain ⟨A2, c2, rfl, hD2, hki, hF2⟩ := hret; clear hF2; replace hD1 := hD1.keep hki; replace hk0 := hk0.trans hki; replace hkb := hkb.trans hki; clear hki) | (go_at_call 100; (with_reducible refine (KF3.out _).mono ?_); intro e wf3 hret; obtain ⟨A3, c3, rfl, hD3, hki, hF3⟩ := hret; clear hF3; replace hD1 := hD1.keep hki; replace hD2 := hD2.keep hki; replace hk0 := hk0.trans hki; replace hkb := hkb.trans hki; clear hki) | (go_at_call 101; (with_reducible refine (KM2.out _ _ _ _ _ hD2 hD3).mono ?_); intro e wm hret; obtain ⟨A4, c4, rfl, hD4, hki, hF4⟩ := hret; clear hF4; replace hD1 := hD1.keep hki; replace hk0 := hk0.trans hki; replace hkb := hkb.trans hki; clear hki) | (go_at_call 99; (with_reducible refine (KC2.out _ _ _ _ _ hD1 hD4).mono ?_); rintro e wc ⟨rfl, hki⟩; clear hD1 hD2 hD3 hD4; replace hk0 := hk0.trans hki; replace hkb := hkb.trans hki; clear hki; obtain ⟨z0, z1⟩ := HT2.out _ hkb; obtain ⟨y0, y1, y2, y3, y4, y5, y6, y7, y8, y9, y10, y11⟩ := HS.out _ hk0) | (go_at_call 102; (first | (with_reducible refine (KA2.out _).mono ?_) | (with_reducible refine (KB2.out _).mono ?_) | fail "M"); rintro e wd ⟨rfl, hki⟩; replace hk0 := hk0.trans hki; replace hkb := hkb.trans hki; clear hki; obtain ⟨z0, z1⟩ := HT2.out _ hkb; obtain ⟨y0, y1, y2, y3, y4, y5, y6, y7, y8, y9, y10, y11⟩ := HS.out _ hk0) | fail "ARM")
      exact bodyPost_ret (v := .tuple #[.agg #[.int .i64 0, .int .i64 0], .bool false]) (by simp [results, Tryz.results80, go_sem, *]) rfl ⟨rfl, (by (repeat (first | (with_reducible exact Keeps.refl _) | (with_reducible assumption) | (with_reducible refine Keeps.drewN ?_ _) | (with_reducible refine Keeps.drew ?_) | (with_reducible refine Keeps.alloc ?_ _) | (with_reducible refine Keeps.setNew ?_ ?_ _))) <;> (dsimp only; omega))⟩
    · rw [h1] at KN
      rw [h2] at KM
      rw [h3] at KV
      clear hb h1 h2 h3
      go_enter Tryz.func80, Tryz.ntmps80
      go_wp2_with (first | (go_at_call 40; (first | (with_reducible refine (keepk (KN.out _) (by first | assumption | exact Keeps.drew (by assumption) | exact Keeps.drewN (by assumption) _)).mono ?_) | (with_reducible refine (keepk (KM.out _) (by first | assumption | exact Keeps.drew (by assumption) | exact Keeps.drewN (by assumption) _)).mono ?_) | fail "V"); rintro e w1 ⟨rfl, hk⟩; have hj := Keeps.trans HB.out hk; have hk := hk; obtain ⟨y0, y1, y2, y3, y4, y5, y6, y7, y8, y9, y10, y11⟩ := HS.out _ hk) | (go_at_call 96; (with_reducible refine (KV.out _).mono ?_); rintro e w1 ⟨rfl, rfl⟩) | (go_at_call 81; (with_reducible refine (keepk (KP.out _) (by first | assumption | exact Keeps.drew (by assumption) | exact Keeps.drewN (by assumption) _)).mono ?_); rintro e w2 ⟨rfl, hk⟩; have hj := Keeps.trans HB.out hk; have hk := hk; obtain ⟨y0, y1, y2, y3, y4, y5, y6, y7, y8, y9, y10, y11⟩ := HS.out _ hk; have hs2 : w.heap.size + 1 + 1 < w2.heap.size := (by have h := hk.size; simp at h; omega); have hk0 := hk.alloc (.cells #[.int .i64 a, .int .i64 b] 37); have hkb := Keeps.refl (w2.alloc (.cells #[.int .i64 a, .int .i64 b] 37)); have HT2 := Lib.hid (show ∀ w', Keeps (w2.alloc (.cells #[.int .i64 a, .int .i64 b] 37)) w' → w'.cell? ⟨w2.heap.size, 0, none⟩ = some (.int .i64 a) ∧ w'.cell? ⟨w2.heap.size, 1, none⟩ = some (.int .i64 b) from fun w' hq => ⟨(hq.cell (p := ⟨w2.heap.size, 0, none⟩) (by simp)).trans (by simp [go_sem]), (hq.cell (p := ⟨w2.heap.size, 1, none⟩) (by simp)).trans (by simp [go_sem])⟩)) | (go_at_call 100; (with_reducible refine (KF1.out _).mono ?_); intro e wf1 hret; obtain ⟨A1, c1, rfl, hD1, hki, hF1⟩ := hret; clear hF1;  replace hk0 := hk0.trans hki; replace hkb := hkb.trans hki; clear hki) | (go_at_call 100; (with_reducible refine (KF2.out _).mono ?_); intro e wf2 hret; obtain ⟨A2, c2, rfl, hD2, hki, hF2⟩ := hret; clear hF2; replace hD1 := hD1.keep hki; replace hk0 := hk0.trans hki; replace hkb := hkb.trans hki; clear hki) | (go_at_call 100; (with_reducible refine (KF3.out _).mono ?_); intro e wf3 hret; obtain ⟨A3, c3, rfl, hD3, hki, hF3⟩ := hret; clear hF3; replace hD1 := hD1.keep hki; replace hD2 := hD2.keep hki; replace hk0 := hk0.trans hki; replace hkb := hkb.trans hki; clear hki) | (go_at_call 101; (with_reducible refine (KM2.out _ _ _ _ _ hD2 hD3).mono ?_); intro e wm hret; obtain ⟨A4, c4, rfl, hD4, hki, hF4⟩ := hret; clear hF4; replace hD1 := hD1.keep hki; replace hk0 := hk0.trans hki; replace hkb := hkb.trans hki; clear hki) | (go_at_call 99; (with_reducible refine (KC2.out _ _ _ _ _ hD1 hD4).mono ?_); rintro e wc ⟨rfl, hki⟩; clear hD1 hD2 hD3 hD4; replace hk0 := hk0.trans hki; replace hkb := hkb.trans hki; clear hki; obtain ⟨z0, z1⟩ := HT2.out _ hkb; obtain ⟨y0, y1, y2, y3, y4, y5, y6, y7, y8, y9, y10, y11⟩ := HS.out _ hk0) | (go_at_call 102; (first | (with_reducible refine (KA2.out _).mono ?_) | (with_reducible refine (KB2.out _).mono ?_) | fail "M"); rintro e wd ⟨rfl, hki⟩; replace hk0 := hk0.trans hki; replace hkb := hkb.trans hki; clear hki; obtain ⟨z0, z1⟩ := HT2.out _ hkb; obtain ⟨y0, y1, y2, y3, y4, y5, y6, y7, y8, y9, y10, y11⟩ := HS.out _ hk0) | fail "ARM")
      exact bodyPost_ret (v := .tuple #[.agg #[.int .i64 0, .int .i64 0], .bool false]) (by simp [results, Tryz.results80, go_sem, *]) rfl ⟨rfl, (by (repeat (first | (with_reducible exact Keeps.refl _) | (with_reducible assumption) | (with_reducible refine Keeps.drewN ?_ _) | (with_reducible refine Keeps.drew ?_) | (with_reducible refine Keeps.alloc ?_ _) | (with_reducible refine Keeps.setNew ?_ ?_ _))) <;> (dsimp only; omega))⟩
    · rw [h1] at KN
      rw [h2] at KM
      rw [h3] at KV
      have t4 : decide (l < 256) = true := decide_eq_true (by omega)
      clear hb h1 h2 h3
      go_enter Tryz.func80, Tryz.ntmps80
      go_wp2_with (first | (go_at_call 40; (first | (with_reducible refine (keepk (KN.out _) (by first | assumption | exact Keeps.drew (by assumption) | exact Keeps.drewN (by assumption) _)).mono ?_) | (with_reducible refine (keepk (KM.out _) (by first | assumption | exact Keeps.drew (by assumption) | exact Keeps.drewN (by assumption) _)).mono ?_) | fail "V"); rintro e w1 ⟨rfl, hk⟩; have hj := Keeps.trans HB.out hk; have hk := hk; obtain ⟨y0, y1, y2, y3, y4, y5, y6, y7, y8, y9, y10, y11⟩ := HS.out _ hk) | (go_at_call 96; (with_reducible refine (KV.out _).mono ?_); rintro e w1 ⟨rfl, rfl⟩) | (go_at_call 81; (with_reducible refine (keepk (KP.out _) (by first | assumption | exact Keeps.drew (by assumption) | exact Keeps.drewN (by assumption) _)).mono ?_); rintro e w2 ⟨rfl, hk⟩; have hj := Keeps.trans HB.out hk; have hk := hk; obtain ⟨y0, y1, y2, y3, y4, y5, y6, y7, y8, y9, y10, y11⟩ := HS.out _ hk; have hs2 : w.heap.size + 1 + 1 < w2.heap.size := (by have h := hk.size; simp at h; omega); have hk0 := hk.alloc (.cells #[.int .i64 a, .int .i64 b] 37); have hkb := Keeps.refl (w2.alloc (.cells #[.int .i64 a, .int .i64 b] 37)); have HT2 := Lib.hid (show ∀ w', Keeps (w2.alloc (.cells #[.int .i64 a, .int .i64 b] 37)) w' → w'.cell? ⟨w2.heap.size, 0, none⟩ = some (.int .i64 a) ∧ w'.cell? ⟨w2.heap.size, 1, none⟩ = some (.int .i64 b) from fun w' hq => ⟨(hq.cell (p := ⟨w2.heap.size, 0, none⟩) (by simp)).trans (by simp [go_sem]), (hq.cell (p := ⟨w2.heap.size, 1, none⟩) (by simp)).trans (by simp [go_sem])⟩)) | (go_at_call 100; (with_reducible refine (KF1.out _).mono ?_); intro e wf1 hret; obtain ⟨A1, c1, rfl, hD1, hki, hF1⟩ := hret; clear hF1;  replace hk0 := hk0.trans hki; replace hkb := hkb.trans hki; clear hki) | (go_at_call 100; (with_reducible refine (KF2.out _).mono ?_); intro e wf2 hret; obtain ⟨A2, c2, rfl, hD2, hki, hF2⟩ := hret; clear hF2; replace hD1 := hD1.keep hki; replace hk0 := hk0.trans hki; replace hkb := hkb.trans hki; clear hki) | (go_at_call 100; (with_reducible refine (KF3.out _).mono ?_); intro e wf3 hret; obtain ⟨A3, c3, rfl, hD3, hki, hF3⟩ := hret; clear hF3; replace hD1 := hD1.keep hki; replace hD2 := hD2.keep hki; replace hk0 := hk0.trans hki; replace hkb := hkb.trans hki; clear hki) | (go_at_call 101; (with_reducible refine (KM2.out _ _ _ _ _ hD2 hD3).mono ?_); intro e wm hret; obtain ⟨A4, c4, rfl, hD4, hki, hF4⟩ := hret; clear hF4; replace hD1 := hD1.keep hki; replace hk0 := hk0.trans hki; replace hkb := hkb.trans hki; clear hki) | (go_at_call 99; (with_reducible refine (KC2.out _ _ _ _ _ hD1 hD4).mono ?_); rintro e wc ⟨rfl, hki⟩; clear hD1 hD2 hD3 hD4; replace hk0 := hk0.trans hki; replace hkb := hkb.trans hki; clear hki; obtain ⟨z0, z1⟩ := HT2.out _ hkb; obtain ⟨y0, y1, y2, y3, y4, y5, y6, y7, y8, y9, y10, y11⟩ := HS.out _ hk0) | (go_at_call 102; (first | (with_reducible refine (KA2.out _).mono ?_) | (with_reducible refine (KB2.out _).mono ?_) | fail "M"); rintro e wd ⟨rfl, hki⟩; replace hk0 := hk0.trans hki; replace hkb := hkb.trans hki; clear hki; obtain ⟨z0, z1⟩ := HT2.out _ hkb; obtain ⟨y0, y1, y2, y3, y4, y5, y6, y7, y8, y9, y10, y11⟩ := HS.out _ hk0) | fail "ARM")
      exact bodyPost_ret (v := .tuple #[.agg #[.int .i64 0, .int .i64 0], .bool false]) (by simp [results, Tryz.results80, go_sem, *]) rfl ⟨rfl, (by (repeat (first | (with_reducible exact Keeps.refl _) | (with_reducible assumption) | (with_reducible refine Keeps.drewN ?_ _) | (with_reducible refine Keeps.drew ?_) | (with_reducible refine Keeps.alloc ?_ _) | (with_reducible refine Keeps.setNew ?_ ?_ _))) <;> (dsimp only; omega))⟩
    · rw [h1] at KN
      rw [h2] at KM
      rw [h3] at KV
      have t4 : decide (l < 256) = false := decide_eq_false (by omega)
      have t5 : decide (65536 < l) = true := decide_eq_true (by omega)
      clear hb h1 h2 h3
      go_enter Tryz.func80, Tryz.ntmps80
      go_wp2_with (first | (go_at_call 40; (first | (with_reducible refine (keepk (KN.out _) (by first | assumption | exact Keeps.drew (by assumption) | exact Keeps.drewN (by assumption) _)).mono ?_) | (with_reducible refine (keepk (KM.out _) (by first | assumption | exact Keeps.drew (by assumption) | exact Keeps.drewN (by assumption) _)).mono ?_) | fail "V"); rintro e w1 ⟨rfl, hk⟩; have hj := Keeps.trans HB.out hk; have hk := hk; obtain ⟨y0, y1, y2, y3, y4, y5, y6, y7, y8, y9, y10, y11⟩ := HS.out _ hk) | (go_at_call 96; (with_reducible refine (KV.out _).mono ?_); rintro e w1 ⟨rfl, rfl⟩) | (go_at_call 81; (with_reducible refine (keepk (KP.out _) (by first | assumption | exact Keeps.drew (by assumption) | exact Keeps.drewN (by assumption) _)).mono ?_); rintro e w2 ⟨rfl, hk⟩; have hj := Keeps.trans HB.out hk; have hk := hk; obtain ⟨y0, y1, y2, y3, y4, y5, y6, y7, y8, y9, y10, y11⟩ := HS.out _ hk; have hs2 : w.heap.size + 1 + 1 < w2.heap.size := (by have h := hk.size; simp at h; omega); have hk0 := hk.alloc (.cells #[.int .i64 a, .int .i64 b] 37); have hkb := Keeps.refl (w2.alloc (.cells #[.int .i64 a, .int .i64 b] 37)); have HT2 := Lib.hid (show ∀ w', Keeps (w2.alloc (.cells #[.int .i64 a, .int .i64 b] 37)) w' → w'.cell? ⟨w2.heap.size, 0, none⟩ = some (.int .i64 a) ∧ w'.cell? ⟨w2.heap.size, 1, none⟩ = some (.int .i64 b) from fun w' hq => ⟨(hq.cell (p := ⟨w2.heap.size, 0, none⟩) (by simp)).trans (by simp [go_sem]), (hq.cell (p := ⟨w2.heap.size, 1, none⟩) (by simp)).trans (by simp [go_sem])⟩)) | (go_at_call 100; (with_reducible refine (KF1.out _).mono ?_); intro e wf1 hret; obtain ⟨A1, c1, rfl, hD1, hki, hF1⟩ := hret; clear hF1;  replace hk0 := hk0.trans hki; replace hkb := hkb.trans hki; clear hki) | (go_at_call 100; (with_reducible refine (KF2.out _).mono ?_); intro e wf2 hret; obtain ⟨A2, c2, rfl, hD2, hki, hF2⟩ := hret; clear hF2; replace hD1 := hD1.keep hki; replace hk0 := hk0.trans hki; replace hkb := hkb.trans hki; clear hki) | (go_at_call 100; (with_reducible refine (KF3.out _).mono ?_); intro e wf3 hret; obtain ⟨A3, c3, rfl, hD3, hki, hF3⟩ := hret; clear hF3; replace hD1 := hD1.keep hki; replace hD2 := hD2.keep hki; replace hk0 := hk0.trans hki; replace hkb := hkb.trans hki; clear hki) | (go_at_call 101; (with_reducible refine (KM2.out _ _ _ _ _ hD2 hD3).mono ?_); intro e wm hret; obtain ⟨A4, c4, rfl, hD4, hki, hF4⟩ := hret; clear hF4; replace hD1 := hD1.keep hki; replace hk0 := hk0.trans hki; replace hkb := hkb.trans hki; clear hki) | (go_at_call 99; (with_reducible refine (KC2.out _ _ _ _ _ hD1 hD4).mono ?_); rintro e wc ⟨rfl, hki⟩; clear hD1 hD2 hD3 hD4; replace hk0 := hk0.trans hki; replace hkb := hkb.trans hki; clear hki; obtain ⟨z0, z1⟩ := HT2.out _ hkb; obtain ⟨y0, y1, y2, y3, y4, y5, y6, y7, y8, y9, y10, y11⟩ := HS.out _ hk0) | (go_at_call 102; (first | (with_reducible refine (KA2.out _).mono ?_) | (with_reducible refine (KB2.out _).mono ?_) | fail "M"); rintro e wd ⟨rfl, hki⟩; replace hk0 := hk0.trans hki; replace hkb := hkb.trans hki; clear hki; obtain ⟨z0, z1⟩ := HT2.out _ hkb; obtain ⟨y0, y1, y2, y3, y4, y5, y6, y7, y8, y9, y10, y11⟩ := HS.out _ hk0) | fail "ARM")
      exact bodyPost_ret (v := .tuple #[.agg #[.int .i64 0, .int .i64 0], .bool false]) (by simp [results, Tryz.results80, go_sem, *]) rfl ⟨rfl, (by (repeat (first | (with_reducible exact Keeps.refl _) | (with_reducible assumption) | (with_reducible refine Keeps.drewN ?_ _) | (with_reducible refine Keeps.drew ?_) | (with_reducible refine Keeps.alloc ?_ _) | (with_reducible refine Keeps.setNew ?_ ?_ _))) <;> (dsimp only; omega))⟩
    · obtain ⟨a, b, aa, bb, v2, l2, ea, eb, eaa, ebb, ev2, el2, ba, bb1, baa, bbb, bv2, bl2, bv, bav, bbv, bav1, bbv1, eq⟩ := tip_bd n m v l h1 h2 h3 h4 h5
      have bn := (vP_bd h1).2.2
      have bm := (vP_bd h2).2.2
      have KP := fun w => radd_any n.1 n.2 m.1 m.2 w
      rw [(vP_bd h1).1, (vP_bd h1).2.1, (vP_bd h2).1, (vP_bd h2).2.1, ea, eb] at KP
      have KP := Lib.hid KP
      clear bn bm
      obtain ⟨Q, hQ⟩ : ∃ Q : Nat, tipQ n m = Q := Int.eq_ofNat_of_zero_le (by omega)
      obtain ⟨L2, rfl⟩ : ∃ L2 : Nat, l2 = L2 := Int.eq_ofNat_of_zero_le (by omega)
      have eQ : aa + bb = (Q : Int) := by omega
      have bQ : (Q : Int) ≤ 8796093022208 := by omega
      obtain ⟨W, hW⟩ : ∃ W : Nat, (256 * v) * (256 * v) = W := Int.eq_ofNat_of_zero_le (Int.mul_nonneg (by omega) (by omega))
      have eW2 : (W : Int) = 65536 * v2 := by rw [← hW, ← ev2]; grind
      have bW : (W : Int) ≤ 17592186044416 := by omega
      have KF := fun (k : Nat) (hk : (k : Int) ≤ 9223372036854775807) (w : World) => fromint_any (k : Int) w (by omega) hk
      have e0 : ∀ k : Nat, decide ((k : Int) < 0) = false := fun k => decide_eq_false (by omega)
      simp only [e0, Int.natAbs_natCast] at KF
      have KF1 := Lib.hid (KF W (by omega))
      have KF2 := Lib.hid (KF L2 (by omega))
      have KF3 := Lib.hid (KF Q (by omega))
      have dl : ∀ x : Nat, x < 4294967296 ^ 8 → (dig x).length ≤ 100 := fun x hx => by have := dig_length hx; omega
      have hpq : L2 * Q < 4294967296 ^ 8 := by
        have := Nat.mul_le_mul (show L2 ≤ 4294967296 by omega) (show Q ≤ 8796093022208 by omega)
        omega
      have KM2 := fun A2 c2 A3 c3 w (hd1 : Dg w A2 (dig L2).length c2 (dig L2)) (hd2 : Dg w A3 (dig Q).length c3 (dig Q)) => mul2_any false false (dig L2) (dig Q) A2 A3 _ c2 _ c3 w hd1 hd2 (dl _ (by omega)) (dl _ (by omega))
      have KC2 := fun A1 c1 A4 c4 w (hd1 : Dg w A1 (dig W).length c1 (dig W)) (hd2 : Dg w A4 (dig (L2 * Q)).length c4 (dig (L2 * Q))) => cmp2_any (dig W) (dig (L2 * Q)) A1 A4 _ c1 _ c4 w hd1 hd2 (dl _ (by omega)) (dl _ hpq)
      simp only [nv_dig, bne_self_eq_false, Bool.false_and] at KM2 KC2
      have KM2 := Lib.hid KM2
      have KC2 := Lib.hid KC2
      have wW : IntKind.i64.wrap (W : Int) = W := i64_in _ (by omega)
      have w256 : IntKind.i64.wrap (256 * v) = 256 * v := i64_in _ (by omega)
      have wv2 : IntKind.i64.wrap v2 = v2 := i64_in _ (by omega)
      have w2Q : IntKind.i64.wrap (2 * (Q : Int)) = 2 * Q := i64_in _ (by omega)
      clear KF e0 dl hpq
      have w1 : IntKind.i64.wrap aa = aa := i64_in _ (by omega)
      have w2 : IntKind.i64.wrap bb = bb := i64_in _ (by omega)
      have w3 : IntKind.i64.wrap (Q : Int) = Q := i64_in _ (by omega)
      have w4 : IntKind.i64.wrap (L2 : Int) = L2 := i64_in _ (by omega)
      have t4 : decide (l < 256) = false := decide_eq_false (by omega)
      have t5 : decide (65536 < l) = false := decide_eq_false (by omega)
      have hLQ : (l * l * (Q : Int)) = ((L2 * Q : Nat) : Int) := by rw [el2, Int.natCast_mul]
      rw [hQ] at h6
      rw [h1] at KN
      rw [h2] at KM
      rw [h3] at KV
      have hq0 : (Q : Int) = 0 := h6
      have q1 : ((Q : Int) == 0) = true := by rw [hq0]; rfl
      clear hb h1 h2 h3 eq hQ eW2 hLQ h6 hq0
      go_enter Tryz.func80, Tryz.ntmps80
      go_wp2_with (first | (go_at_call 40; (first | (with_reducible refine (keepk (KN.out _) (by first | assumption | exact Keeps.drew (by assumption) | exact Keeps.drewN (by assumption) _)).mono ?_) | (with_reducible refine (keepk (KM.out _) (by first | assumption | exact Keeps.drew (by assumption) | exact Keeps.drewN (by assumption) _)).mono ?_) | fail "V"); rintro e w1 ⟨rfl, hk⟩; have hj := Keeps.trans HB.out hk; have hk := hk; obtain ⟨y0, y1, y2, y3, y4, y5, y6, y7, y8, y9, y10, y11⟩ := HS.out _ hk) | (go_at_call 96; (with_reducible refine (KV.out _).mono ?_); rintro e w1 ⟨rfl, rfl⟩) | (go_at_call 81; (with_reducible refine (keepk (KP.out _) (by first | assumption | exact Keeps.drew (by assumption) | exact Keeps.drewN (by assumption) _)).mono ?_); rintro e w2 ⟨rfl, hk⟩; have hj := Keeps.trans HB.out hk; have hk := hk; obtain ⟨y0, y1, y2, y3, y4, y5, y6, y7, y8, y9, y10, y11⟩ := HS.out _ hk; have hs2 : w.heap.size + 1 + 1 < w2.heap.size := (by have h := hk.size; simp at h; omega); have hk0 := hk.alloc (.cells #[.int .i64 a, .int .i64 b] 37); have hkb := Keeps.refl (w2.alloc (.cells #[.int .i64 a, .int .i64 b] 37)); have HT2 := Lib.hid (show ∀ w', Keeps (w2.alloc (.cells #[.int .i64 a, .int .i64 b] 37)) w' → w'.cell? ⟨w2.heap.size, 0, none⟩ = some (.int .i64 a) ∧ w'.cell? ⟨w2.heap.size, 1, none⟩ = some (.int .i64 b) from fun w' hq => ⟨(hq.cell (p := ⟨w2.heap.size, 0, none⟩) (by simp)).trans (by simp [go_sem]), (hq.cell (p := ⟨w2.heap.size, 1, none⟩) (by simp)).trans (by simp [go_sem])⟩)) | (go_at_call 100; (with_reducible refine (KF1.out _).mono ?_); intro e wf1 hret; obtain ⟨A1, c1, rfl, hD1, hki, hF1⟩ := hret; clear hF1;  replace hk0 := hk0.trans hki; replace hkb := hkb.trans hki; clear hki) | (go_at_call 100; (with_reducible refine (KF2.out _).mono ?_); intro e wf2 hret; obtain ⟨A2, c2, rfl, hD2, hki, hF2⟩ := hret; clear hF2; replace hD1 := hD1.keep hki; replace hk0 := hk0.trans hki; replace hkb := hkb.trans hki; clear hki) | (go_at_call 100; (with_reducible refine (KF3.out _).mono ?_); intro e wf3 hret; obtain ⟨A3, c3, rfl, hD3, hki, hF3⟩ := hret; clear hF3; replace hD1 := hD1.keep hki; replace hD2 := hD2.keep hki; replace hk0 := hk0.trans hki; replace hkb := hkb.trans hki; clear hki) | (go_at_call 101; (with_reducible refine (KM2.out _ _ _ _ _ hD2 hD3).mono ?_); intro e wm hret; obtain ⟨A4, c4, rfl, hD4, hki, hF4⟩ := hret; clear hF4; replace hD1 := hD1.keep hki; replace hk0 := hk0.trans hki; replace hkb := hkb.trans hki; clear hki) | (go_at_call 99; (with_reducible refine (KC2.out _ _ _ _ _ hD1 hD4).mono ?_); rintro e wc ⟨rfl, hki⟩; clear hD1 hD2 hD3 hD4; replace hk0 := hk0.trans hki; replace hkb := hkb.trans hki; clear hki; obtain ⟨z0, z1⟩ := HT2.out _ hkb; obtain ⟨y0, y1, y2, y3, y4, y5, y6, y7, y8, y9, y10, y11⟩ := HS.out _ hk0) | (go_at_call 102; (first | (with_reducible refine (KA2.out _).mono ?_) | (with_reducible refine (KB2.out _).mono ?_) | fail "M"); rintro e wd ⟨rfl, hki⟩; replace hk0 := hk0.trans hki; replace hkb := hkb.trans hki; clear hki; obtain ⟨z0, z1⟩ := HT2.out _ hkb; obtain ⟨y0, y1, y2, y3, y4, y5, y6, y7, y8, y9, y10, y11⟩ := HS.out _ hk0) | fail "ARM")
      exact bodyPost_ret (v := .tuple #[.agg #[.int .i64 0, .int .i64 0], .bool false]) (by simp [results, Tryz.results80, go_sem, *]) rfl ⟨rfl, (by (repeat (first | (with_reducible exact Keeps.refl _) | (with_reducible assumption) | (with_reducible refine Keeps.drewN ?_ _) | (with_reducible refine Keeps.drew ?_) | (with_reducible refine Keeps.alloc ?_ _) | (with_reducible refine Keeps.setNew ?_ ?_ _))) <;> (dsimp only; omega))⟩
    · obtain ⟨a, b, aa, bb, v2, l2, ea, eb, eaa, ebb, ev2, el2, ba, bb1, baa, bbb, bv2, bl2, bv, bav, bbv, bav1, bbv1, eq⟩ := tip_bd n m v l h1 h2 h3 h4 h5
      have bn := (vP_bd h1).2.2
      have bm := (vP_bd h2).2.2
      have KP := fun w => radd_any n.1 n.2 m.1 m.2 w
      rw [(vP_bd h1).1, (vP_bd h1).2.1, (vP_bd h2).1, (vP_bd h2).2.1, ea, eb] at KP
      have KP := Lib.hid KP
      clear bn bm
      obtain ⟨Q, hQ⟩ : ∃ Q : Nat, tipQ n m = Q := Int.eq_ofNat_of_zero_le (by omega)
      obtain ⟨L2, rfl⟩ : ∃ L2 : Nat, l2 = L2 := Int.eq_ofNat_of_zero_le (by omega)
      have eQ : aa + bb = (Q : Int) := by omega
      have bQ : (Q : Int) ≤ 8796093022208 := by omega
      obtain ⟨W, hW⟩ : ∃ W : Nat, (256 * v) * (256 * v) = W := Int.eq_ofNat_of_zero_le (Int.mul_nonneg (by omega) (by omega))
      have eW2 : (W : Int) = 65536 * v2 := by rw [← hW, ← ev2]; grind
      have bW : (W : Int) ≤ 17592186044416 := by omega
      have KF := fun (k : Nat) (hk : (k : Int) ≤ 9223372036854775807) (w : World) => fromint_any (k : Int) w (by omega) hk
      have e0 : ∀ k : Nat, decide ((k : Int) < 0) = false := fun k => decide_eq_false (by omega)
      simp only [e0, Int.natAbs_natCast] at KF
      have KF1 := Lib.hid (KF W (by omega))
      have KF2 := Lib.hid (KF L2 (by omega))
      have KF3 := Lib.hid (KF Q (by omega))
      have dl : ∀ x : Nat, x < 4294967296 ^ 8 → (dig x).length ≤ 100 := fun x hx => by have := dig_length hx; omega
      have hpq : L2 * Q < 4294967296 ^ 8 := by
        have := Nat.mul_le_mul (show L2 ≤ 4294967296 by omega) (show Q ≤ 8796093022208 by omega)
        omega
      have KM2 := fun A2 c2 A3 c3 w (hd1 : Dg w A2 (dig L2).length c2 (dig L2)) (hd2 : Dg w A3 (dig Q).length c3 (dig Q)) => mul2_any false false (dig L2) (dig Q) A2 A3 _ c2 _ c3 w hd1 hd2 (dl _ (by omega)) (dl _ (by omega))
      have KC2 := fun A1 c1 A4 c4 w (hd1 : Dg w A1 (dig W).length c1 (dig W)) (hd2 : Dg w A4 (dig (L2 * Q)).length c4 (dig (L2 * Q))) => cmp2_any (dig W) (dig (L2 * Q)) A1 A4 _ c1 _ c4 w hd1 hd2 (dl _ (by omega)) (dl _ hpq)
      simp only [nv_dig, bne_self_eq_false, Bool.false_and] at KM2 KC2
      have KM2 := Lib.hid KM2
      have KC2 := Lib.hid KC2
      have wW : IntKind.i64.wrap (W : Int) = W := i64_in _ (by omega)
      have w256 : IntKind.i64.wrap (256 * v) = 256 * v := i64_in _ (by omega)
      have wv2 : IntKind.i64.wrap v2 = v2 := i64_in _ (by omega)
      have w2Q : IntKind.i64.wrap (2 * (Q : Int)) = 2 * Q := i64_in _ (by omega)
      clear KF e0 dl hpq
      have w1 : IntKind.i64.wrap aa = aa := i64_in _ (by omega)
      have w2 : IntKind.i64.wrap bb = bb := i64_in _ (by omega)
      have w3 : IntKind.i64.wrap (Q : Int) = Q := i64_in _ (by omega)
      have w4 : IntKind.i64.wrap (L2 : Int) = L2 := i64_in _ (by omega)
      have t4 : decide (l < 256) = false := decide_eq_false (by omega)
      have t5 : decide (65536 < l) = false := decide_eq_false (by omega)
      have hLQ : (l * l * (Q : Int)) = ((L2 * Q : Nat) : Int) := by rw [el2, Int.natCast_mul]
      rw [hQ, hLQ, hW] at h7
      rw [hQ] at h6
      rw [h1] at KN
      rw [h2] at KM
      rw [h3] at KV
      have q1 : ((Q : Int) == 0) = false := by rw [beq_eq_false_iff_ne]; exact h6
      rw [cmpN_gt (show L2 * Q < W by omega)] at KC2
      clear hb h1 h2 h3 eq hQ eW2 hLQ h6 h7
      go_enter Tryz.func80, Tryz.ntmps80
      go_wp2_with (first | (go_at_call 40; (first | (with_reducible refine (keepk (KN.out _) (by first | assumption | exact Keeps.drew (by assumption) | exact Keeps.drewN (by assumption) _)).mono ?_) | (with_reducible refine (keepk (KM.out _) (by first | assumption | exact Keeps.drew (by assumption) | exact Keeps.drewN (by assumption) _)).mono ?_) | fail "V"); rintro e w1 ⟨rfl, hk⟩; have hj := Keeps.trans HB.out hk; have hk := hk; obtain ⟨y0, y1, y2, y3, y4, y5, y6, y7, y8, y9, y10, y11⟩ := HS.out _ hk) | (go_at_call 96; (with_reducible refine (KV.out _).mono ?_); rintro e w1 ⟨rfl, rfl⟩) | (go_at_call 81; (with_reducible refine (keepk (KP.out _) (by first | assumption | exact Keeps.drew (by assumption) | exact Keeps.drewN (by assumption) _)).mono ?_); rintro e w2 ⟨rfl, hk⟩; have hj := Keeps.trans HB.out hk; have hk := hk; obtain ⟨y0, y1, y2, y3, y4, y5, y6, y7, y8, y9, y10, y11⟩ := HS.out _ hk; have hs2 : w.heap.size + 1 + 1 < w2.heap.size := (by have h := hk.size; simp at h; omega); have hk0 := hk.alloc (.cells #[.int .i64 a, .int .i64 b] 37); have hkb := Keeps.refl (w2.alloc (.cells #[.int .i64 a, .int .i64 b] 37)); have HT2 := Lib.hid (show ∀ w', Keeps (w2.alloc (.cells #[.int .i64 a, .int .i64 b] 37)) w' → w'.cell? ⟨w2.heap.size, 0, none⟩ = some (.int .i64 a) ∧ w'.cell? ⟨w2.heap.size, 1, none⟩ = some (.int .i64 b) from fun w' hq => ⟨(hq.cell (p := ⟨w2.heap.size, 0, none⟩) (by simp)).trans (by simp [go_sem]), (hq.cell (p := ⟨w2.heap.size, 1, none⟩) (by simp)).trans (by simp [go_sem])⟩)) | (go_at_call 100; (with_reducible refine (KF1.out _).mono ?_); intro e wf1 hret; obtain ⟨A1, c1, rfl, hD1, hki, hF1⟩ := hret; clear hF1;  replace hk0 := hk0.trans hki; replace hkb := hkb.trans hki; clear hki) | (go_at_call 100; (with_reducible refine (KF2.out _).mono ?_); intro e wf2 hret; obtain ⟨A2, c2, rfl, hD2, hki, hF2⟩ := hret; clear hF2; replace hD1 := hD1.keep hki; replace hk0 := hk0.trans hki; replace hkb := hkb.trans hki; clear hki) | (go_at_call 100; (with_reducible refine (KF3.out _).mono ?_); intro e wf3 hret; obtain ⟨A3, c3, rfl, hD3, hki, hF3⟩ := hret; clear hF3; replace hD1 := hD1.keep hki; replace hD2 := hD2.keep hki; replace hk0 := hk0.trans hki; replace hkb := hkb.trans hki; clear hki) | (go_at_call 101; (with_reducible refine (KM2.out _ _ _ _ _ hD2 hD3).mono ?_); intro e wm hret; obtain ⟨A4, c4, rfl, hD4, hki, hF4⟩ := hret; clear hF4; replace hD1 := hD1.keep hki; replace hk0 := hk0.trans hki; replace hkb := hkb.trans hki; clear hki) | (go_at_call 99; (with_reducible refine (KC2.out _ _ _ _ _ hD1 hD4).mono ?_); rintro e wc ⟨rfl, hki⟩; clear hD1 hD2 hD3 hD4; replace hk0 := hk0.trans hki; replace hkb := hkb.trans hki; clear hki; obtain ⟨z0, z1⟩ := HT2.out _ hkb; obtain ⟨y0, y1, y2, y3, y4, y5, y6, y7, y8, y9, y10, y11⟩ := HS.out _ hk0) | (go_at_call 102; (first | (with_reducible refine (KA2.out _).mono ?_) | (with_reducible refine (KB2.out _).mono ?_) | fail "M"); rintro e wd ⟨rfl, hki⟩; replace hk0 := hk0.trans hki; replace hkb := hkb.trans hki; clear hki; obtain ⟨z0, z1⟩ := HT2.out _ hkb; obtain ⟨y0, y1, y2, y3, y4, y5, y6, y7, y8, y9, y10, y11⟩ := HS.out _ hk0) | fail "ARM")
      have hkf := HB.out.trans hk0
      exact bodyPost_ret (v := .tuple #[.agg #[.int .i64 0, .int .i64 0], .bool false]) (by simp [results, Tryz.results80, go_sem, *]) rfl ⟨rfl, hkf.far2 (by omega) _ _⟩
  | true =>
    rw [if_pos rfl]
    obtain ⟨h1, h2, h3, h4, h5, h6, h7⟩ := tip_yes hb
    obtain ⟨a, b, aa, bb, v2, l2, ea, eb, eaa, ebb, ev2, el2, ba, bb1, baa, bbb, bv2, bl2, bv, bav, bbv, bav1, bbv1, eq⟩ := tip_bd n m v l h1 h2 h3 h4 h5
    have bn := (vP_bd h1).2.2
    have bm := (vP_bd h2).2.2
    have KP := fun w => radd_any n.1 n.2 m.1 m.2 w
    rw [(vP_bd h1).1, (vP_bd h1).2.1, (vP_bd h2).1, (vP_bd h2).2.1, ea, eb] at KP
    have KP := Lib.hid KP
    clear bn bm
    obtain ⟨Q, hQ⟩ : ∃ Q : Nat, tipQ n m = Q := Int.eq_ofNat_of_zero_le (by omega)
    obtain ⟨L2, rfl⟩ : ∃ L2 : Nat, l2 = L2 := Int.eq_ofNat_of_zero_le (by omega)
    have eQ : aa + bb = (Q : Int) := by omega
    have bQ : (Q : Int) ≤ 8796093022208 := by omega
    obtain ⟨W, hW⟩ : ∃ W : Nat, (256 * v) * (256 * v) = W := Int.eq_ofNat_of_zero_le (Int.mul_nonneg (by omega) (by omega))
    have eW2 : (W : Int) = 65536 * v2 := by rw [← hW, ← ev2]; grind
    have bW : (W : Int) ≤ 17592186044416 := by omega
    have KF := fun (k : Nat) (hk : (k : Int) ≤ 9223372036854775807) (w : World) => fromint_any (k : Int) w (by omega) hk
    have e0 : ∀ k : Nat, decide ((k : Int) < 0) = false := fun k => decide_eq_false (by omega)
    simp only [e0, Int.natAbs_natCast] at KF
    have KF1 := Lib.hid (KF W (by omega))
    have KF2 := Lib.hid (KF L2 (by omega))
    have KF3 := Lib.hid (KF Q (by omega))
    have dl : ∀ x : Nat, x < 4294967296 ^ 8 → (dig x).length ≤ 100 := fun x hx => by have := dig_length hx; omega
    have hpq : L2 * Q < 4294967296 ^ 8 := by
      have := Nat.mul_le_mul (show L2 ≤ 4294967296 by omega) (show Q ≤ 8796093022208 by omega)
      omega
    have KM2 := fun A2 c2 A3 c3 w (hd1 : Dg w A2 (dig L2).length c2 (dig L2)) (hd2 : Dg w A3 (dig Q).length c3 (dig Q)) => mul2_any false false (dig L2) (dig Q) A2 A3 _ c2 _ c3 w hd1 hd2 (dl _ (by omega)) (dl _ (by omega))
    have KC2 := fun A1 c1 A4 c4 w (hd1 : Dg w A1 (dig W).length c1 (dig W)) (hd2 : Dg w A4 (dig (L2 * Q)).length c4 (dig (L2 * Q))) => cmp2_any (dig W) (dig (L2 * Q)) A1 A4 _ c1 _ c4 w hd1 hd2 (dl _ (by omega)) (dl _ hpq)
    simp only [nv_dig, bne_self_eq_false, Bool.false_and] at KM2 KC2
    have KM2 := Lib.hid KM2
    have KC2 := Lib.hid KC2
    have wW : IntKind.i64.wrap (W : Int) = W := i64_in _ (by omega)
    have w256 : IntKind.i64.wrap (256 * v) = 256 * v := i64_in _ (by omega)
    have wv2 : IntKind.i64.wrap v2 = v2 := i64_in _ (by omega)
    have w2Q : IntKind.i64.wrap (2 * (Q : Int)) = 2 * Q := i64_in _ (by omega)
    clear KF e0 dl hpq
    have w1 : IntKind.i64.wrap aa = aa := i64_in _ (by omega)
    have w2 : IntKind.i64.wrap bb = bb := i64_in _ (by omega)
    have w3 : IntKind.i64.wrap (Q : Int) = Q := i64_in _ (by omega)
    have w4 : IntKind.i64.wrap (L2 : Int) = L2 := i64_in _ (by omega)
    have t4 : decide (l < 256) = false := decide_eq_false (by omega)
    have t5 : decide (65536 < l) = false := decide_eq_false (by omega)
    have hLQ : (l * l * (Q : Int)) = ((L2 * Q : Nat) : Int) := by rw [el2, Int.natCast_mul]
    rw [hQ, hLQ, hW] at h7
    rw [hQ] at h6
    rw [h1] at KN
    rw [h2] at KM
    rw [h3] at KV
    have q1 : ((Q : Int) == 0) = false := by rw [beq_eq_false_iff_ne]; exact h6
    rw [hQ, ea, eb, ev2]
    have b1 := bav1
    have b2 := bbv1
    have KA2 := fun w => rmuldiv_any a v2 (2 * (Q : Int)) w (by omega) (by omega) (by omega) (by omega) (by omega) (by omega)
    have KB2 := fun w => rmuldiv_any b v2 (2 * (Q : Int)) w (by omega) (by omega) (by omega) (by omega) (by omega) (by omega)
    rw [mdrN_prod _ _ _ (by omega)] at KA2 KB2
    generalize mdrB a v2 (2 * (Q : Int)) = ka at *
    generalize mdrB b v2 (2 * (Q : Int)) = kb at *
    have KA2 := Lib.hid KA2
    have KB2 := Lib.hid KB2
    have hle := cmpN_le0 (show W ≤ L2 * Q by omega)
    generalize cmpN W (L2 * Q) = r at *
    have hr1 : decide (0 < r) = false := decide_eq_false (by omega)
    have hr2 : ¬ 0 < r := by omega
    generalize dvr (a * v2) (2 * (Q : Int)) = ra at *
    generalize dvr (b * v2) (2 * (Q : Int)) = rb at *
    clear hb h1 h2 h3 eq hQ eW2 hLQ h6 h7 b1 b2 bav bbv bav1 bbv1 hle
    go_enter Tryz.func80, Tryz.ntmps80
    go_wp2_with (first | (go_at_call 40; (first | (with_reducible refine (keepk (KN.out _) (by first | assumption | exact Keeps.drew (by assumption) | exact Keeps.drewN (by assumption) _)).mono ?_) | (with_reducible refine (keepk (KM.out _) (by first | assumption | exact Keeps.drew (by assumption) | exact Keeps.drewN (by assumption) _)).mono ?_) | fail "V"); rintro e w1 ⟨rfl, hk⟩; have hj := Keeps.trans HB.out hk; have hk := hk; obtain ⟨y0, y1, y2, y3, y4, y5, y6, y7, y8, y9, y10, y11⟩ := HS.out _ hk) | (go_at_call 96; (with_reducible refine (KV.out _).mono ?_); rintro e w1 ⟨rfl, rfl⟩) | (go_at_call 81; (with_reducible refine (keepk (KP.out _) (by first | assumption | exact Keeps.drew (by assumption) | exact Keeps.drewN (by assumption) _)).mono ?_); rintro e w2 ⟨rfl, hk⟩; have hj := Keeps.trans HB.out hk; have hk := hk; obtain ⟨y0, y1, y2, y3, y4, y5, y6, y7, y8, y9, y10, y11⟩ := HS.out _ hk; have hs2 : w.heap.size + 1 + 1 < w2.heap.size := (by have h := hk.size; simp at h; omega); have hk0 := hk.alloc (.cells #[.int .i64 a, .int .i64 b] 37); have hkb := Keeps.refl (w2.alloc (.cells #[.int .i64 a, .int .i64 b] 37)); have HT2 := Lib.hid (show ∀ w', Keeps (w2.alloc (.cells #[.int .i64 a, .int .i64 b] 37)) w' → w'.cell? ⟨w2.heap.size, 0, none⟩ = some (.int .i64 a) ∧ w'.cell? ⟨w2.heap.size, 1, none⟩ = some (.int .i64 b) from fun w' hq => ⟨(hq.cell (p := ⟨w2.heap.size, 0, none⟩) (by simp)).trans (by simp [go_sem]), (hq.cell (p := ⟨w2.heap.size, 1, none⟩) (by simp)).trans (by simp [go_sem])⟩)) | (go_at_call 100; (with_reducible refine (KF1.out _).mono ?_); intro e wf1 hret; obtain ⟨A1, c1, rfl, hD1, hki, hF1⟩ := hret; clear hF1;  replace hk0 := hk0.trans hki; replace hkb := hkb.trans hki; clear hki) | (go_at_call 100; (with_reducible refine (KF2.out _).mono ?_); intro e wf2 hret; obtain ⟨A2, c2, rfl, hD2, hki, hF2⟩ := hret; clear hF2; replace hD1 := hD1.keep hki; replace hk0 := hk0.trans hki; replace hkb := hkb.trans hki; clear hki) | (go_at_call 100; (with_reducible refine (KF3.out _).mono ?_); intro e wf3 hret; obtain ⟨A3, c3, rfl, hD3, hki, hF3⟩ := hret; clear hF3; replace hD1 := hD1.keep hki; replace hD2 := hD2.keep hki; replace hk0 := hk0.trans hki; replace hkb := hkb.trans hki; clear hki) | (go_at_call 101; (with_reducible refine (KM2.out _ _ _ _ _ hD2 hD3).mono ?_); intro e wm hret; obtain ⟨A4, c4, rfl, hD4, hki, hF4⟩ := hret; clear hF4; replace hD1 := hD1.keep hki; replace hk0 := hk0.trans hki; replace hkb := hkb.trans hki; clear hki) | (go_at_call 99; (with_reducible refine (KC2.out _ _ _ _ _ hD1 hD4).mono ?_); rintro e wc ⟨rfl, hki⟩; clear hD1 hD2 hD3 hD4; replace hk0 := hk0.trans hki; replace hkb := hkb.trans hki; clear hki; obtain ⟨z0, z1⟩ := HT2.out _ hkb; obtain ⟨y0, y1, y2, y3, y4, y5, y6, y7, y8, y9, y10, y11⟩ := HS.out _ hk0) | (go_at_call 102; (first | (with_reducible refine (KA2.out _).mono ?_) | (with_reducible refine (KB2.out _).mono ?_) | fail "M"); rintro e wd ⟨rfl, hki⟩; replace hk0 := hk0.trans hki; replace hkb := hkb.trans hki; clear hki; obtain ⟨z0, z1⟩ := HT2.out _ hkb; obtain ⟨y0, y1, y2, y3, y4, y5, y6, y7, y8, y9, y10, y11⟩ := HS.out _ hk0) | fail "ARM")
    have hkf := HB.out.trans hk0
    exact bodyPost_ret (v := .tuple #[.agg #[.int .i64 ra, .int .i64 rb], .bool true]) (by simp [results, Tryz.results80, go_sem, *]) rfl ⟨rfl, hkf.far2 (by omega) _ _⟩
end Go.Proofs.YtdodgnpjlicnoaaGreat
