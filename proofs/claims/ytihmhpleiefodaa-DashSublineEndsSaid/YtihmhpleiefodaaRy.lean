/- Contract of reference 11's Lerp. -/
import Derived.Test.YtihmhpleiefodaaRx
import Derived.Test.YtihmhpleiefodaaN19
namespace Go.Proofs.Ytihmhpleiefodaa
open Go.RowKit
attribute [local go_sem ↓] Go.wp_at_zero Go.wp_at_succ
set_option linter.unusedSimpArgs false
set_option linter.unusedVariables false

set_option maxRecDepth 100000 in
set_option maxHeartbeats 4000000 in
theorem rlerp_any (ax ay bx b_y n d : Int) (w : World) (d0 : -9223372036854775808 ≤ d) (d1 : d ≤ 9223372036854775807) :
    Calls Try.prog 42 #[.agg #[.int .i64 ax, .int .i64 ay], .agg #[.int .i64 bx, .int .i64 b_y], .int .i64 n, .int .i64 d] w fun e w' => e = .returned (.agg #[.int .i64 (lerpI ax bx n d), .int .i64 (lerpI ay b_y n d)]) ∧ Keeps w w' := by
  obtain ⟨x0, x1⟩ := hc_bd ax
  obtain ⟨x2, x3⟩ := hc_bd ay
  obtain ⟨x4, x5⟩ := hc_bd bx
  obtain ⟨x6, x7⟩ := hc_bd b_y
  have HS := Lib.hid (show ∀ w', Keeps (((w.alloc (.cells #[.int .i64 ax, .int .i64 ay] 50)).alloc (.cells #[.int .i64 bx, .int .i64 b_y] 50)).alloc (.cells #[.int .i64 0, .int .i64 0] 50)) w' → w'.cell? ⟨w.heap.size, 0, none⟩ = some (.int .i64 ax) ∧ w'.frozen? ⟨w.heap.size, 0, none⟩ = false ∧ w'.cell? ⟨w.heap.size, 1, none⟩ = some (.int .i64 ay) ∧ w'.frozen? ⟨w.heap.size, 1, none⟩ = false ∧ w'.cell? ⟨w.heap.size + 1, 0, none⟩ = some (.int .i64 bx) ∧ w'.frozen? ⟨w.heap.size + 1, 0, none⟩ = false ∧ w'.cell? ⟨w.heap.size + 1, 1, none⟩ = some (.int .i64 b_y) ∧ w'.frozen? ⟨w.heap.size + 1, 1, none⟩ = false ∧ w'.cell? ⟨w.heap.size + 1 + 1, 0, none⟩ = some (.int .i64 0) ∧ w'.frozen? ⟨w.heap.size + 1 + 1, 0, none⟩ = false ∧ w'.cell? ⟨w.heap.size + 1 + 1, 1, none⟩ = some (.int .i64 0) ∧ w'.frozen? ⟨w.heap.size + 1 + 1, 1, none⟩ = false from fun w' hk => ⟨(hk.cell (p := ⟨w.heap.size, 0, none⟩) (by first | (simp; done) | (simp; omega))).trans (by simp [go_sem]), (hk.frozen (p := ⟨w.heap.size, 0, none⟩) (by first | (simp; done) | (simp; omega))).trans (by simp [go_sem]), (hk.cell (p := ⟨w.heap.size, 1, none⟩) (by first | (simp; done) | (simp; omega))).trans (by simp [go_sem]), (hk.frozen (p := ⟨w.heap.size, 1, none⟩) (by first | (simp; done) | (simp; omega))).trans (by simp [go_sem]), (hk.cell (p := ⟨w.heap.size + 1, 0, none⟩) (by first | (simp; done) | (simp; omega))).trans (by simp [go_sem]), (hk.frozen (p := ⟨w.heap.size + 1, 0, none⟩) (by first | (simp; done) | (simp; omega))).trans (by simp [go_sem]), (hk.cell (p := ⟨w.heap.size + 1, 1, none⟩) (by first | (simp; done) | (simp; omega))).trans (by simp [go_sem]), (hk.frozen (p := ⟨w.heap.size + 1, 1, none⟩) (by first | (simp; done) | (simp; omega))).trans (by simp [go_sem]), (hk.cell (p := ⟨w.heap.size + 1 + 1, 0, none⟩) (by first | (simp; done) | (simp; omega))).trans (by simp [go_sem]), (hk.frozen (p := ⟨w.heap.size + 1 + 1, 0, none⟩) (by first | (simp; done) | (simp; omega))).trans (by simp [go_sem]), (hk.cell (p := ⟨w.heap.size + 1 + 1, 1, none⟩) (by first | (simp; done) | (simp; omega))).trans (by simp [go_sem]), (hk.frozen (p := ⟨w.heap.size + 1 + 1, 1, none⟩) (by first | (simp; done) | (simp; omega))).trans (by simp [go_sem])⟩)
  have HB := Lib.hid (show Keeps w (((w.alloc (.cells #[.int .i64 ax, .int .i64 ay] 50)).alloc (.cells #[.int .i64 bx, .int .i64 b_y] 50)).alloc (.cells #[.int .i64 0, .int .i64 0] 50)) from (by (repeat (first | (with_reducible exact Keeps.refl _) | (with_reducible assumption) | (with_reducible refine Keeps.drewN ?_ _) | (with_reducible refine Keeps.drew ?_) | (with_reducible refine Keeps.alloc ?_ _) | (with_reducible refine Keeps.setNew ?_ ?_ _))) <;> (dsimp only; omega)))
  have hk0 := Keeps.refl (((w.alloc (.cells #[.int .i64 ax, .int .i64 ay] 50)).alloc (.cells #[.int .i64 bx, .int .i64 b_y] 50)).alloc (.cells #[.int .i64 0, .int .i64 0] 50))
  have G1 := Lib.hid (fun w' hk => (rhold_any ax ay w').mono fun e w1 ⟨h1, h2⟩ => And.intro h1 (Keeps.trans (w0 := (((w.alloc (.cells #[.int .i64 ax, .int .i64 ay] 50)).alloc (.cells #[.int .i64 bx, .int .i64 b_y] 50)).alloc (.cells #[.int .i64 0, .int .i64 0] 50))) hk h2))
  by_cases hd : d < 1 ∨ 1099511627776 < d
  · have L1 : lerpI ax bx n d = hc ax := by unfold lerpI; rw [if_pos hd]
    have L2 : lerpI ay b_y n d = hc ay := by unfold lerpI; rw [if_pos hd]
    rw [L1, L2]
    clear L1 L2
    by_cases hd1 : d < 1
    · have t1 : decide (d < 1) = true := decide_eq_true hd1
      clear hd
      go_enter Try.func42, Try.ntmps42
      go_wp2_with (go_at_call 58; (with_reducible refine (G1.out _ hk0).mono ?_); rintro e w1 ⟨rfl, hk⟩; obtain ⟨y0, y1, y2, y3, y4, y5, y6, y7, y8, y9, y10, y11⟩ := HS.out _ hk; have hsz : w.heap.size + 1 + 1 < w1.heap.size := (by have h := hk.size; simp at h; omega); have hsa : w.heap.size + 1 < w1.heap.size := (by omega); have hsb : w.heap.size < w1.heap.size := (by omega); have hj := HB.out.trans hk; have hk1 := Lib.hid hk)
      exact bodyPost_ret (v := .agg #[.int .i64 (hc ax), .int .i64 (hc ay)]) (by simp [results, Try.results42, go_sem, *]) rfl ⟨rfl, (by (repeat (first | (with_reducible exact Keeps.refl _) | (with_reducible assumption) | (with_reducible refine Keeps.drewN ?_ _) | (with_reducible refine Keeps.drew ?_) | (with_reducible refine Keeps.alloc ?_ _) | (with_reducible refine Keeps.setNew ?_ ?_ _))) <;> (dsimp only; omega))⟩
    · have t1 : decide (d < 1) = false := decide_eq_false hd1
      have t2 : decide ((1099511627776 : Int) < d) = true := decide_eq_true (by omega)
      clear hd
      go_enter Try.func42, Try.ntmps42
      go_wp2_with (go_at_call 58; (with_reducible refine (G1.out _ hk0).mono ?_); rintro e w1 ⟨rfl, hk⟩; obtain ⟨y0, y1, y2, y3, y4, y5, y6, y7, y8, y9, y10, y11⟩ := HS.out _ hk; have hsz : w.heap.size + 1 + 1 < w1.heap.size := (by have h := hk.size; simp at h; omega); have hsa : w.heap.size + 1 < w1.heap.size := (by omega); have hsb : w.heap.size < w1.heap.size := (by omega); have hj := HB.out.trans hk; have hk1 := Lib.hid hk)
      exact bodyPost_ret (v := .agg #[.int .i64 (hc ax), .int .i64 (hc ay)]) (by simp [results, Try.results42, go_sem, *]) rfl ⟨rfl, (by (repeat (first | (with_reducible exact Keeps.refl _) | (with_reducible assumption) | (with_reducible refine Keeps.drewN ?_ _) | (with_reducible refine Keeps.drew ?_) | (with_reducible refine Keeps.alloc ?_ _) | (with_reducible refine Keeps.setNew ?_ ?_ _))) <;> (dsimp only; omega))⟩
  · have e0 : 1 ≤ d := by omega
    have e1 : d ≤ 1099511627776 := by omega
    have t1 : decide (d < 1) = false := decide_eq_false (by omega)
    have t2 : decide ((1099511627776 : Int) < d) = false := decide_eq_false (by omega)
    have L1 : lerpI ax bx n d = hc ax + dvr (clI n 0 d * (hc bx - hc ax)) d := by unfold lerpI; rw [if_neg hd]
    have L2 : lerpI ay b_y n d = hc ay + dvr (clI n 0 d * (hc b_y - hc ay)) d := by unfold lerpI; rw [if_neg hd]
    have hN : 0 ≤ clI n 0 d ∧ clI n 0 d ≤ 1099511627776 := by unfold clI; split <;> (try split) <;> omega
    obtain ⟨n0, n1⟩ := hN
    rw [L1, L2]
    obtain ⟨p, ep, p0, p1⟩ := at_prod (hc ax) (hc bx) (clI n 0 d) x0 x1 x4 x5 n0 n1
    obtain ⟨r, er, r0, r1⟩ := at_prod (hc ay) (hc b_y) (clI n 0 d) x2 x3 x6 x7 n0 n1
    obtain ⟨q2, q3⟩ := dvr_le p d (by omega)
    obtain ⟨q4, q5⟩ := dvr_le r d (by omega)
    rw [ep, er]
    clear L1 L2 hd
    have G2 := Lib.hid (fun w' hk => (rsub0_any bx b_y ax ay w').mono fun e w1 ⟨h1, h2⟩ => And.intro h1 (And.intro (Keeps.trans (w0 := (((w.alloc (.cells #[.int .i64 ax, .int .i64 ay] 50)).alloc (.cells #[.int .i64 bx, .int .i64 b_y] 50)).alloc (.cells #[.int .i64 0, .int .i64 0] 50))) hk h2) h2))
    have v0 := Lib.hid (fun w1 : World => show (w1.alloc (.cells #[.int .i64 (hc ax), .int .i64 (hc ay)] 50)).cell? ⟨w1.heap.size, 0, none⟩ = some (.int .i64 (hc ax)) by simp [go_sem])
    have v1 := Lib.hid (fun w1 : World => show (w1.alloc (.cells #[.int .i64 (hc ax), .int .i64 (hc ay)] 50)).cell? ⟨w1.heap.size, 1, none⟩ = some (.int .i64 (hc ay)) by simp [go_sem])
    go_enter Try.func42, Try.ntmps42
    go_wp2_with (first | (go_at_call 58; (with_reducible refine (G1.out _ hk0).mono ?_); rintro e w1 ⟨rfl, hk⟩; obtain ⟨y0, y1, y2, y3, y4, y5, y6, y7, y8, y9, y10, y11⟩ := HS.out _ hk; have hsz : w.heap.size + 1 + 1 < w1.heap.size := (by have h := hk.size; simp at h; omega); have hsa : w.heap.size + 1 < w1.heap.size := (by omega); have hsb : w.heap.size < w1.heap.size := (by omega); have hj := HB.out.trans hk; have hk1 := Lib.hid hk) | (go_at_call 49; (with_reducible refine (G2.out _ (Keeps.alloc hk _)).mono ?_); rintro e w2 ⟨rfl, hk2, hk3⟩; obtain ⟨z0, z1, z2, z3, z4, z5, z6, z7, z8, z9, z10, z11⟩ := HS.out _ hk2; have hsz2 : w1.heap.size < w2.heap.size := (by have h := hk3.size; simp at h; omega); have hsz3 : w.heap.size + 1 + 1 < w2.heap.size := (by omega); have hsc : w.heap.size + 1 < w2.heap.size := (by omega); have hsd : w.heap.size < w2.heap.size := (by omega); have q0 := (hk3.cell (p := ⟨w1.heap.size, 0, none⟩) (by simp)).trans (v0.out w1); have q1 := (hk3.cell (p := ⟨w1.heap.size, 1, none⟩) (by simp)).trans (v1.out w1); have hj2 := HB.out.trans hk2) | (go_at_call 59; refine (rclamp_any _ _ _ _).mono ?_; rintro e w1 ⟨rfl, rfl⟩))
    refine name_world (fun W hW => ?_)
    have F : W.cell? ⟨w1.heap.size, 0, none⟩ = some (.int .i64 (hc ax)) ∧ W.cell? ⟨w1.heap.size, 1, none⟩ = some (.int .i64 (hc ay)) ∧ W.cell? ⟨w2.heap.size, 0, none⟩ = some (.int .i64 (hc bx - hc ax)) ∧ W.cell? ⟨w2.heap.size, 1, none⟩ = some (.int .i64 (hc b_y - hc ay)) ∧ W.cell? ⟨w.heap.size + 1 + 1, 0, none⟩ = some (.int .i64 0) ∧ W.frozen? ⟨w.heap.size + 1 + 1, 0, none⟩ = false ∧ W.cell? ⟨w.heap.size + 1 + 1, 1, none⟩ = some (.int .i64 0) ∧ W.frozen? ⟨w.heap.size + 1 + 1, 1, none⟩ = false := by rw [hW]; refine ⟨?_, ?_, ?_, ?_, ?_, ?_, ?_, ?_⟩ <;> go_simp
    have hs1 : w1.heap.size < W.heap.size := by rw [hW]; simp; omega
    have hs2 : w2.heap.size < W.heap.size := by rw [hW]; simp
    have hs3 : w.heap.size + 1 + 1 < W.heap.size := by omega
    have hKW : Keeps w W := by rw [hW]; exact (by (repeat (first | (with_reducible exact Keeps.refl _) | (with_reducible assumption) | (with_reducible refine Keeps.drewN ?_ _) | (with_reducible refine Keeps.drew ?_) | (with_reducible refine Keeps.alloc ?_ _) | (with_reducible refine Keeps.setNew ?_ ?_ _))) <;> (dsimp only; omega))
    clear hW
    obtain ⟨f0, f1, f2, f3, f4, f5, f6, f7⟩ := F
    have HS2 := Lib.hid (show ∀ w', Keeps W w' → w'.cell? ⟨w1.heap.size, 0, none⟩ = some (.int .i64 (hc ax)) ∧ w'.cell? ⟨w1.heap.size, 1, none⟩ = some (.int .i64 (hc ay)) ∧ w'.cell? ⟨w2.heap.size, 0, none⟩ = some (.int .i64 (hc bx - hc ax)) ∧ w'.cell? ⟨w2.heap.size, 1, none⟩ = some (.int .i64 (hc b_y - hc ay)) ∧ w'.cell? ⟨w.heap.size + 1 + 1, 0, none⟩ = some (.int .i64 0) ∧ w'.frozen? ⟨w.heap.size + 1 + 1, 0, none⟩ = false ∧ w'.cell? ⟨w.heap.size + 1 + 1, 1, none⟩ = some (.int .i64 0) ∧ w'.frozen? ⟨w.heap.size + 1 + 1, 1, none⟩ = false from fun w' hk => ⟨(hk.cell (p := ⟨w1.heap.size, 0, none⟩) hs1).trans f0, (hk.cell (p := ⟨w1.heap.size, 1, none⟩) hs1).trans f1, (hk.cell (p := ⟨w2.heap.size, 0, none⟩) hs2).trans f2, (hk.cell (p := ⟨w2.heap.size, 1, none⟩) hs2).trans f3, (hk.cell (p := ⟨w.heap.size + 1 + 1, 0, none⟩) hs3).trans f4, (hk.frozen (p := ⟨w.heap.size + 1 + 1, 0, none⟩) hs3).trans f5, (hk.cell (p := ⟨w.heap.size + 1 + 1, 1, none⟩) hs3).trans f6, (hk.frozen (p := ⟨w.heap.size + 1 + 1, 1, none⟩) hs3).trans f7⟩)
    have hkW := Keeps.refl W
    have GD1 := Lib.hid (fun w' hk => (rdvr_any p d w' (by omega) (by omega) d0 d1).mono fun e w1 ⟨h1, h2⟩ => And.intro h1 (Keeps.trans (w0 := W) hk h2))
    have GD2 := Lib.hid (fun w' hk => (rdvr_any r d w' (by omega) (by omega) d0 d1).mono fun e w1 ⟨h1, h2⟩ => And.intro h1 (Keeps.trans (w0 := W) hk h2))
    have HT := Lib.hid (fun w' hk => have T := HS2.out w' hk; And.intro T.1 (And.intro T.2.1 (And.intro T.2.2.1 T.2.2.2.1)))
    have HU := Lib.hid (show ∀ w' u v, Keeps W w' → ((w'.setCell ⟨w.heap.size + 1 + 1, 0, none⟩ u).setCell ⟨w.heap.size + 1 + 1, 1, none⟩ v).cell? ⟨w1.heap.size, 0, none⟩ = some (.int .i64 (hc ax)) ∧ ((w'.setCell ⟨w.heap.size + 1 + 1, 0, none⟩ u).setCell ⟨w.heap.size + 1 + 1, 1, none⟩ v).cell? ⟨w1.heap.size, 1, none⟩ = some (.int .i64 (hc ay)) ∧ ((w'.setCell ⟨w.heap.size + 1 + 1, 0, none⟩ u).setCell ⟨w.heap.size + 1 + 1, 1, none⟩ v).cell? ⟨w2.heap.size, 0, none⟩ = some (.int .i64 (hc bx - hc ax)) ∧ ((w'.setCell ⟨w.heap.size + 1 + 1, 0, none⟩ u).setCell ⟨w.heap.size + 1 + 1, 1, none⟩ v).cell? ⟨w2.heap.size, 1, none⟩ = some (.int .i64 (hc b_y - hc ay)) from fun w' u v hk => by
      have T := HT.out w' hk
      refine ⟨?_, ?_, ?_, ?_⟩ <;> rw [World.cell?_setCell_far _ _ _ _ (by dsimp only; omega), World.cell?_setCell_far _ _ _ _ (by dsimp only; omega)]
      · exact T.1
      · exact T.2.1
      · exact T.2.2.1
      · exact T.2.2.2)
    have g1 := i64_in p (by omega)
    have g2 := i64_in r (by omega)
    have g3 := i64_in (hc ax + dvr p d) (by omega)
    have g4 := i64_in (hc ay + dvr r d) (by omega)
    clear y0 y1 y2 y3 y4 y5 y6 y7 y8 y9 y10 y11 z0 z1 z2 z3 z4 z5 z6 z7 z8 z9 z10 z11 f0 f1 f2 f3 f4 f5 f6 f7 hk hk2 hk3
    go_region_held3 (fun w' => w'.cell? ⟨w1.heap.size, 0, none⟩ = some (.int .i64 (hc ax)) ∧ w'.cell? ⟨w1.heap.size, 1, none⟩ = some (.int .i64 (hc ay)) ∧ w'.cell? ⟨w2.heap.size, 0, none⟩ = some (.int .i64 (hc bx - hc ax)) ∧ w'.cell? ⟨w2.heap.size, 1, none⟩ = some (.int .i64 (hc b_y - hc ay))) (first | exact HT.out _ (by assumption) | exact HT.out _ (Keeps.drew (by assumption)) | exact HU.out _ _ _ (by assumption) | fail "KEEP")
      (first | (go_at_call 60; (first | (with_reducible refine (GD1.out _ (by first | assumption | exact Keeps.drew (by assumption) | exact Keeps.drewN (by assumption) _)).mono ?_) | (with_reducible refine (GD2.out _ (by first | assumption | exact Keeps.drew (by assumption) | exact Keeps.drewN (by assumption) _)).mono ?_)); rintro e w5 ⟨rfl, hk⟩; obtain ⟨z0, z1, z2, z3, z4, z5, z6, z7⟩ := HS2.out _ hk) | fail "ARM")
    all_goals (go_wp2_with fail)
    all_goals exact bodyPost_ret (v := .agg #[.int .i64 (hc ax + dvr p d), .int .i64 (hc ay + dvr r d)]) (by simp [results, Try.results42, go_sem, *]) rfl ⟨rfl, (hKW.trans hk).far2 (by omega) _ _⟩
end Go.Proofs.Ytihmhpleiefodaa
