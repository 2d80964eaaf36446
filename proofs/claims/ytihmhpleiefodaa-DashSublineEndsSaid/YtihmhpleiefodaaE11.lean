/- The examples of chapter 11 hold. -/
import Derived.Test.YtihmhpleiefodaaVd
namespace Go.Proofs.Ytihmhpleiefodaa
section
open Go.RowKit
attribute [local go_sem ↓] Go.wp_at_zero Go.wp_at_succ

/-- Lerp's coordinate. -/
def lerpI (a b n d : Int) : Int := if d < 1 ∨ 1099511627776 < d then hc a else hc a + dvr (clI n 0 d * (hc b - hc a)) d
theorem dvr_le (a b : Int) (h : -4611686018427387904 ≤ a ∧ a ≤ 4611686018427387904) : -4611686018427387904 ≤ dvr a b ∧ dvr a b ≤ 4611686018427387904 := by
  by_cases hb : b = 0
  · subst hb; rw [dvr_zero]; omega
  · have h1 := rndN_le (a.natAbs * (1 : Int).natAbs) b.natAbs (by omega)
    have e : a.natAbs * (1 : Int).natAbs = a.natAbs := by simp
    unfold dvr mdrN
    split
    · unfold mdrQ
      rw [e] at h1 ⊢
      split <;> omega
    · omega
theorem at_prod (f t n : Int) (f0 : -1048576 ≤ f) (f1 : f ≤ 1048576) (t0 : -1048576 ≤ t) (t1 : t ≤ 1048576) (n0 : 0 ≤ n) (n1 : n ≤ 1099511627776) :
    ∃ p : Int, n * (t - f) = p ∧ -2305843009213693952 ≤ p ∧ p ≤ 2305843009213693952 := by
  refine ⟨_, rfl, ?_⟩
  have h := Nat.mul_le_mul (show n.natAbs ≤ 1099511627776 by omega) (show (t - f).natAbs ≤ 2097152 by omega)
  rw [← Int.natAbs_mul] at h
  omega
set_option maxHeartbeats 400000 in
theorem at_any (f t n d : Int) (bn bd : Nat) (w : World) (cn : w.cell? ⟨bn, 0, none⟩ = some (.int .i64 n)) (cd : w.cell? ⟨bd, 0, none⟩ = some (.int .i64 d))
    (f0 : -1048576 ≤ f) (f1 : f ≤ 1048576) (t0 : -1048576 ≤ t) (t1 : t ≤ 1048576) (n0 : 0 ≤ n) (n1 : n ≤ 1099511627776) (d0 : 1 ≤ d) (d1 : d ≤ 1099511627776) :
    Calls Try.prog 72 #[.int .i64 f, .int .i64 t, .pointer (some ⟨bn, 0, none⟩), .pointer (some ⟨bd, 0, none⟩)] w fun e w' => e = .returned (.int .i64 (f + dvr (n * (t - f)) d)) ∧ Keeps w w' := by
  obtain ⟨p, ep, p0, p1⟩ := at_prod f t n f0 f1 t0 t1 n0 n1
  obtain ⟨q0, q1⟩ := dvr_le p d (by omega)
  have hk0 := Keeps.refl w
  rw [ep]
  go_enter Try.func72, Try.ntmps72
  go_wp2_with (go_at_call 73; refine (keep (dvr_any _ _ _ (by omega) (by omega) (by omega) (by omega)) (by first | assumption | exact Keeps.drewN (by assumption) _ | exact Keeps.alloc (by assumption) _ | exact Keeps.drewN (Keeps.alloc (by assumption) _) _)).mono ?_; rintro e w1 ⟨rfl, hk⟩)
  go_ret
  exact ⟨rfl, (by (repeat (first | (with_reducible exact Keeps.refl _) | (with_reducible assumption) | (with_reducible refine Keeps.drewN ?_ _) | (with_reducible refine Keeps.drew ?_) | (with_reducible refine Keeps.alloc ?_ _) | (with_reducible refine Keeps.setNew ?_ ?_ _))) <;> (dsimp only; omega))⟩

set_option maxHeartbeats 4000000 in
theorem lerp_any (ax ay bx by' n d : Int) (w : World) :
    Calls Try.prog 67 #[.agg #[.int .i64 ax, .int .i64 ay], .agg #[.int .i64 bx, .int .i64 by'], .int .i64 n, .int .i64 d] w fun e w' => e = .returned (.agg #[.int .i64 (lerpI ax bx n d), .int .i64 (lerpI ay by' n d)]) ∧ Keeps w w' := by
  obtain ⟨x0, x1⟩ := hc_bd ax
  obtain ⟨x2, x3⟩ := hc_bd ay
  obtain ⟨x4, x5⟩ := hc_bd bx
  obtain ⟨x6, x7⟩ := hc_bd by'
  have HS := Lib.hid (show ∀ w', Keeps (((((w.alloc (.cells #[.int .i64 ax, .int .i64 ay] 50)).alloc (.cells #[.int .i64 bx, .int .i64 by'] 50)).alloc (.cells #[.int .i64 n] 3)).alloc (.cells #[.int .i64 d] 3)).alloc (.cells #[.int .i64 0, .int .i64 0] 50)) w' → w'.cell? ⟨w.heap.size, 0, none⟩ = some (.int .i64 ax) ∧ w'.frozen? ⟨w.heap.size, 0, none⟩ = false ∧ w'.cell? ⟨w.heap.size, 1, none⟩ = some (.int .i64 ay) ∧ w'.frozen? ⟨w.heap.size, 1, none⟩ = false ∧ w'.cell? ⟨w.heap.size + 1, 0, none⟩ = some (.int .i64 bx) ∧ w'.frozen? ⟨w.heap.size + 1, 0, none⟩ = false ∧ w'.cell? ⟨w.heap.size + 1, 1, none⟩ = some (.int .i64 by') ∧ w'.frozen? ⟨w.heap.size + 1, 1, none⟩ = false ∧ w'.cell? ⟨w.heap.size + 1 + 1, 0, none⟩ = some (.int .i64 n) ∧ w'.frozen? ⟨w.heap.size + 1 + 1, 0, none⟩ = false ∧ w'.cell? ⟨w.heap.size + 1 + 1 + 1, 0, none⟩ = some (.int .i64 d) ∧ w'.frozen? ⟨w.heap.size + 1 + 1 + 1, 0, none⟩ = false ∧ w'.cell? ⟨w.heap.size + 1 + 1 + 1 + 1, 0, none⟩ = some (.int .i64 0) ∧ w'.frozen? ⟨w.heap.size + 1 + 1 + 1 + 1, 0, none⟩ = false ∧ w'.cell? ⟨w.heap.size + 1 + 1 + 1 + 1, 1, none⟩ = some (.int .i64 0) ∧ w'.frozen? ⟨w.heap.size + 1 + 1 + 1 + 1, 1, none⟩ = false from fun w' hk => ⟨(hk.cell (p := ⟨w.heap.size, 0, none⟩) (by first | (simp; done) | (simp; omega))).trans (by simp [go_sem]), (hk.frozen (p := ⟨w.heap.size, 0, none⟩) (by first | (simp; done) | (simp; omega))).trans (by simp [go_sem]), (hk.cell (p := ⟨w.heap.size, 1, none⟩) (by first | (simp; done) | (simp; omega))).trans (by simp [go_sem]), (hk.frozen (p := ⟨w.heap.size, 1, none⟩) (by first | (simp; done) | (simp; omega))).trans (by simp [go_sem]), (hk.cell (p := ⟨w.heap.size + 1, 0, none⟩) (by first | (simp; done) | (simp; omega))).trans (by simp [go_sem]), (hk.frozen (p := ⟨w.heap.size + 1, 0, none⟩) (by first | (simp; done) | (simp; omega))).trans (by simp [go_sem]), (hk.cell (p := ⟨w.heap.size + 1, 1, none⟩) (by first | (simp; done) | (simp; omega))).trans (by simp [go_sem]), (hk.frozen (p := ⟨w.heap.size + 1, 1, none⟩) (by first | (simp; done) | (simp; omega))).trans (by simp [go_sem]), (hk.cell (p := ⟨w.heap.size + 1 + 1, 0, none⟩) (by first | (simp; done) | (simp; omega))).trans (by simp [go_sem]), (hk.frozen (p := ⟨w.heap.size + 1 + 1, 0, none⟩) (by first | (simp; done) | (simp; omega))).trans (by simp [go_sem]), (hk.cell (p := ⟨w.heap.size + 1 + 1 + 1, 0, none⟩) (by first | (simp; done) | (simp; omega))).trans (by simp [go_sem]), (hk.frozen (p := ⟨w.heap.size + 1 + 1 + 1, 0, none⟩) (by first | (simp; done) | (simp; omega))).trans (by simp [go_sem]), (hk.cell (p := ⟨w.heap.size + 1 + 1 + 1 + 1, 0, none⟩) (by first | (simp; done) | (simp; omega))).trans (by simp [go_sem]), (hk.frozen (p := ⟨w.heap.size + 1 + 1 + 1 + 1, 0, none⟩) (by first | (simp; done) | (simp; omega))).trans (by simp [go_sem]), (hk.cell (p := ⟨w.heap.size + 1 + 1 + 1 + 1, 1, none⟩) (by first | (simp; done) | (simp; omega))).trans (by simp [go_sem]), (hk.frozen (p := ⟨w.heap.size + 1 + 1 + 1 + 1, 1, none⟩) (by first | (simp; done) | (simp; omega))).trans (by simp [go_sem])⟩)
  have HB := Lib.hid (show Keeps w (((((w.alloc (.cells #[.int .i64 ax, .int .i64 ay] 50)).alloc (.cells #[.int .i64 bx, .int .i64 by'] 50)).alloc (.cells #[.int .i64 n] 3)).alloc (.cells #[.int .i64 d] 3)).alloc (.cells #[.int .i64 0, .int .i64 0] 50)) from (by (repeat (first | (with_reducible exact Keeps.refl _) | (with_reducible assumption) | (with_reducible refine Keeps.drewN ?_ _) | (with_reducible refine Keeps.drew ?_) | (with_reducible refine Keeps.alloc ?_ _) | (with_reducible refine Keeps.setNew ?_ ?_ _))) <;> (dsimp only; omega)))
  have hk0 := Keeps.refl (((((w.alloc (.cells #[.int .i64 ax, .int .i64 ay] 50)).alloc (.cells #[.int .i64 bx, .int .i64 by'] 50)).alloc (.cells #[.int .i64 n] 3)).alloc (.cells #[.int .i64 d] 3)).alloc (.cells #[.int .i64 0, .int .i64 0] 50))
  by_cases hd : d < 1
  · have t1 : decide (d < 1) = true := decide_eq_true hd
    have L1 : lerpI ax bx n d = hc ax := by unfold lerpI; rw [if_pos (by omega)]
    have L2 : lerpI ay by' n d = hc ay := by unfold lerpI; rw [if_pos (by omega)]
    rw [L1, L2]
    clear L1 L2
    go_enter Try.func67, Try.ntmps67
    go_wp2_with fail
    go_region_with (go_at_call 61; refine (keep (hold_any _ _ _) (by first | assumption | exact Keeps.drew (by assumption) | exact Keeps.drewN (by assumption) _)).mono ?_; rintro e w1 ⟨rfl, hk⟩; have hj := Keeps.trans HB.out hk; have hk := hk; obtain ⟨y0, y1, y2, y3, y4, y5, y6, y7, y8, y9, y10, y11, y12, y13, y14, y15⟩ := HS.out _ hk)
    all_goals go_wp2_with fail
    all_goals exact bodyPost_ret (v := .agg #[.int .i64 (hc ax), .int .i64 (hc ay)]) (by simp [results, Try.results67, go_sem, *]) rfl ⟨rfl, (by (repeat (first | (with_reducible exact Keeps.refl _) | (with_reducible assumption) | (with_reducible refine Keeps.drewN ?_ _) | (with_reducible refine Keeps.drew ?_) | (with_reducible refine Keeps.alloc ?_ _) | (with_reducible refine Keeps.setNew ?_ ?_ _))) <;> (dsimp only; omega))⟩
  · by_cases hd2 : 1099511627776 < d
    · have t1 : decide (d < 1) = false := decide_eq_false hd
      have t2 : decide ((1099511627776 : Int) < d) = true := decide_eq_true hd2
      have L1 : lerpI ax bx n d = hc ax := by unfold lerpI; rw [if_pos (by omega)]
      have L2 : lerpI ay by' n d = hc ay := by unfold lerpI; rw [if_pos (by omega)]
      rw [L1, L2]
      clear L1 L2
      go_enter Try.func67, Try.ntmps67
      go_wp2_with fail
      go_region_with (go_at_call 61; refine (keep (hold_any _ _ _) (by first | assumption | exact Keeps.drew (by assumption) | exact Keeps.drewN (by assumption) _)).mono ?_; rintro e w1 ⟨rfl, hk⟩; have hj := Keeps.trans HB.out hk; have hk := hk; obtain ⟨y0, y1, y2, y3, y4, y5, y6, y7, y8, y9, y10, y11, y12, y13, y14, y15⟩ := HS.out _ hk)
      all_goals go_wp2_with fail
      all_goals exact bodyPost_ret (v := .agg #[.int .i64 (hc ax), .int .i64 (hc ay)]) (by simp [results, Try.results67, go_sem, *]) rfl ⟨rfl, (by (repeat (first | (with_reducible exact Keeps.refl _) | (with_reducible assumption) | (with_reducible refine Keeps.drewN ?_ _) | (with_reducible refine Keeps.drew ?_) | (with_reducible refine Keeps.alloc ?_ _) | (with_reducible refine Keeps.setNew ?_ ?_ _))) <;> (dsimp only; omega))⟩
    · have d0 : 1 ≤ d := by omega
      have d1 : d ≤ 1099511627776 := by omega
      have t1 : decide (d < 1) = false := decide_eq_false hd
      have t2 : decide ((1099511627776 : Int) < d) = false := decide_eq_false hd2
      have L1 : lerpI ax bx n d = hc ax + dvr (clI n 0 d * (hc bx - hc ax)) d := by unfold lerpI; rw [if_neg (by omega)]
      have L2 : lerpI ay by' n d = hc ay + dvr (clI n 0 d * (hc by' - hc ay)) d := by unfold lerpI; rw [if_neg (by omega)]
      have hN : 0 ≤ clI n 0 d ∧ clI n 0 d ≤ 1099511627776 := by unfold clI; split <;> (try split) <;> omega
      obtain ⟨n0, n1⟩ := hN
      rw [L1, L2]
      clear L1 L2 hd hd2
      go_enter Try.func67, Try.ntmps67
      go_wp2_with fail
      go_region_with (go_at_call 61; refine (keep (hold_any _ _ _) (by first | assumption | exact Keeps.drew (by assumption) | exact Keeps.drewN (by assumption) _)).mono ?_; rintro e w1 ⟨rfl, hk⟩; have hj := Keeps.trans HB.out hk; have hk := hk; obtain ⟨y0, y1, y2, y3, y4, y5, y6, y7, y8, y9, y10, y11, y12, y13, y14, y15⟩ := HS.out _ hk)
      all_goals go_wp2_with (go_at_call 71; refine (clamp_any _ _ _ _).mono ?_; rintro e w1 ⟨rfl, rfl⟩)
      all_goals
        refine name_world (fun W hW => ?_)
        have F : W.cell? ⟨w.heap.size, 0, none⟩ = some (.int .i64 (hc ax)) ∧ W.frozen? ⟨w.heap.size, 0, none⟩ = false ∧ W.cell? ⟨w.heap.size, 1, none⟩ = some (.int .i64 (hc ay)) ∧ W.frozen? ⟨w.heap.size, 1, none⟩ = false ∧ W.cell? ⟨w.heap.size + 1, 0, none⟩ = some (.int .i64 (hc bx)) ∧ W.frozen? ⟨w.heap.size + 1, 0, none⟩ = false ∧ W.cell? ⟨w.heap.size + 1, 1, none⟩ = some (.int .i64 (hc by')) ∧ W.frozen? ⟨w.heap.size + 1, 1, none⟩ = false ∧ W.cell? ⟨w.heap.size + 1 + 1, 0, none⟩ = some (.int .i64 (clI n 0 d)) ∧ W.frozen? ⟨w.heap.size + 1 + 1, 0, none⟩ = false ∧ W.cell? ⟨w.heap.size + 1 + 1 + 1, 0, none⟩ = some (.int .i64 d) ∧ W.frozen? ⟨w.heap.size + 1 + 1 + 1, 0, none⟩ = false ∧ W.cell? ⟨w.heap.size + 1 + 1 + 1 + 1, 0, none⟩ = some (.int .i64 0) ∧ W.frozen? ⟨w.heap.size + 1 + 1 + 1 + 1, 0, none⟩ = false ∧ W.cell? ⟨w.heap.size + 1 + 1 + 1 + 1, 1, none⟩ = some (.int .i64 0) ∧ W.frozen? ⟨w.heap.size + 1 + 1 + 1 + 1, 1, none⟩ = false := by rw [hW]; refine ⟨?_, ?_, ?_, ?_, ?_, ?_, ?_, ?_, ?_, ?_, ?_, ?_, ?_, ?_, ?_, ?_⟩ <;> go_simp
        have KW : Keeps w W := by rw [hW]; exact (by (repeat (first | (with_reducible exact Keeps.refl _) | (with_reducible assumption) | (with_reducible refine Keeps.drewN ?_ _) | (with_reducible refine Keeps.drew ?_) | (with_reducible refine Keeps.alloc ?_ _) | (with_reducible refine Keeps.setNew ?_ ?_ _))) <;> (dsimp only; omega))
        have SZ : w.heap.size + 1 + 1 + 1 + 1 < W.heap.size := by rw [hW]; have hsz := hk.size; simp at hsz ⊢; omega
        clear hW
        obtain ⟨f0, f1, f2, f3, f4, f5, f6, f7, f8, f9, f10, f11, f12, f13, f14, f15⟩ := F
        have HS2 := Lib.hid (show ∀ w', Keeps W w' → w'.cell? ⟨w.heap.size, 0, none⟩ = some (.int .i64 (hc ax)) ∧ w'.frozen? ⟨w.heap.size, 0, none⟩ = false ∧ w'.cell? ⟨w.heap.size, 1, none⟩ = some (.int .i64 (hc ay)) ∧ w'.frozen? ⟨w.heap.size, 1, none⟩ = false ∧ w'.cell? ⟨w.heap.size + 1, 0, none⟩ = some (.int .i64 (hc bx)) ∧ w'.frozen? ⟨w.heap.size + 1, 0, none⟩ = false ∧ w'.cell? ⟨w.heap.size + 1, 1, none⟩ = some (.int .i64 (hc by')) ∧ w'.frozen? ⟨w.heap.size + 1, 1, none⟩ = false ∧ w'.cell? ⟨w.heap.size + 1 + 1, 0, none⟩ = some (.int .i64 (clI n 0 d)) ∧ w'.frozen? ⟨w.heap.size + 1 + 1, 0, none⟩ = false ∧ w'.cell? ⟨w.heap.size + 1 + 1 + 1, 0, none⟩ = some (.int .i64 d) ∧ w'.frozen? ⟨w.heap.size + 1 + 1 + 1, 0, none⟩ = false ∧ w'.cell? ⟨w.heap.size + 1 + 1 + 1 + 1, 0, none⟩ = some (.int .i64 0) ∧ w'.frozen? ⟨w.heap.size + 1 + 1 + 1 + 1, 0, none⟩ = false ∧ w'.cell? ⟨w.heap.size + 1 + 1 + 1 + 1, 1, none⟩ = some (.int .i64 0) ∧ w'.frozen? ⟨w.heap.size + 1 + 1 + 1 + 1, 1, none⟩ = false from fun w' hk => ⟨(hk.cell (p := ⟨w.heap.size, 0, none⟩) (by dsimp only; omega)).trans f0, (hk.frozen (p := ⟨w.heap.size, 0, none⟩) (by dsimp only; omega)).trans f1, (hk.cell (p := ⟨w.heap.size, 1, none⟩) (by dsimp only; omega)).trans f2, (hk.frozen (p := ⟨w.heap.size, 1, none⟩) (by dsimp only; omega)).trans f3, (hk.cell (p := ⟨w.heap.size + 1, 0, none⟩) (by dsimp only; omega)).trans f4, (hk.frozen (p := ⟨w.heap.size + 1, 0, none⟩) (by dsimp only; omega)).trans f5, (hk.cell (p := ⟨w.heap.size + 1, 1, none⟩) (by dsimp only; omega)).trans f6, (hk.frozen (p := ⟨w.heap.size + 1, 1, none⟩) (by dsimp only; omega)).trans f7, (hk.cell (p := ⟨w.heap.size + 1 + 1, 0, none⟩) (by dsimp only; omega)).trans f8, (hk.frozen (p := ⟨w.heap.size + 1 + 1, 0, none⟩) (by dsimp only; omega)).trans f9, (hk.cell (p := ⟨w.heap.size + 1 + 1 + 1, 0, none⟩) (by dsimp only; omega)).trans f10, (hk.frozen (p := ⟨w.heap.size + 1 + 1 + 1, 0, none⟩) (by dsimp only; omega)).trans f11, (hk.cell (p := ⟨w.heap.size + 1 + 1 + 1 + 1, 0, none⟩) (by dsimp only; omega)).trans f12, (hk.frozen (p := ⟨w.heap.size + 1 + 1 + 1 + 1, 0, none⟩) (by dsimp only; omega)).trans f13, (hk.cell (p := ⟨w.heap.size + 1 + 1 + 1 + 1, 1, none⟩) (by dsimp only; omega)).trans f14, (hk.frozen (p := ⟨w.heap.size + 1 + 1 + 1 + 1, 1, none⟩) (by dsimp only; omega)).trans f15⟩)
        have hkW := Keeps.refl W
        have HCn := Lib.hid (fun w' (hk : Keeps W w') => (HS2.out w' hk).2.2.2.2.2.2.2.2.1)
        have HCd := Lib.hid (fun w' (hk : Keeps W w') => (HS2.out w' hk).2.2.2.2.2.2.2.2.2.2.1)
        go_region_held3 (fun w' => w'.cell? ⟨w.heap.size, 0, none⟩ = some (.int .i64 (hc ax)) ∧ w'.cell? ⟨w.heap.size, 1, none⟩ = some (.int .i64 (hc ay)) ∧ w'.cell? ⟨w.heap.size + 1, 0, none⟩ = some (.int .i64 (hc bx)) ∧ w'.cell? ⟨w.heap.size + 1, 1, none⟩ = some (.int .i64 (hc by')) ∧ w'.cell? ⟨w.heap.size + 1 + 1, 0, none⟩ = some (.int .i64 (clI n 0 d)) ∧ w'.cell? ⟨w.heap.size + 1 + 1 + 1, 0, none⟩ = some (.int .i64 d)) (first | exact ⟨f0, f2, f4, f6, f8, f10⟩ | (refine ⟨?_, ?_, ?_, ?_, ?_, ?_⟩ <;> (first | assumption | (rw [World.cell?_setCell_far _ _ _ _ (by dsimp only; omega), World.cell?_setCell_far _ _ _ _ (by dsimp only; omega)]; assumption) | (fail "KEEPARM")))  | (fail "KEEP"))
          (first | (go_at_call 72; refine (keep (at_any _ _ (clI n 0 d) d _ _ _ (HCn.out _ (by first | assumption | exact Keeps.drew (by assumption) | exact Keeps.drewN (by assumption) _)) (HCd.out _ (by first | assumption | exact Keeps.drew (by assumption) | exact Keeps.drewN (by assumption) _)) (by omega) (by omega) (by omega) (by omega) (by omega) (by omega) (by omega) (by omega)) (by first | assumption | exact Keeps.drew (by assumption) | exact Keeps.drewN (by assumption) _)).mono ?_; rintro e w1 ⟨rfl, hk⟩; have hj := Keeps.trans KW hk; have hk := hk; obtain ⟨z0, z1, z2, z3, z4, z5, z6, z7, z8, z9, z10, z11, z12, z13, z14, z15⟩ := HS2.out _ hk))
      all_goals (go_wp2_with fail)
      all_goals exact bodyPost_ret (v := .agg #[.int .i64 (hc ax + dvr (clI n 0 d * (hc bx - hc ax)) d), .int .i64 (hc ay + dvr (clI n 0 d * (hc by' - hc ay)) d)]) (by simp [results, Try.results67, go_sem, *]) rfl ⟨rfl, (by (repeat (first | (with_reducible exact Keeps.refl _) | (with_reducible assumption) | (with_reducible refine Keeps.drewN ?_ _) | (with_reducible refine Keeps.drew ?_) | (with_reducible refine Keeps.alloc ?_ _) | (with_reducible refine Keeps.setNew ?_ ?_ _))) <;> (dsimp only; omega))⟩
end

section
open Go.RowKit
set_option linter.unusedVariables false
end
end Go.Proofs.Ytihmhpleiefodaa
