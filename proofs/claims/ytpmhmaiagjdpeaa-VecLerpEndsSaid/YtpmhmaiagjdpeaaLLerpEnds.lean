/- VecLerpEnds of grisaillelaw11 returns true for all its arguments: every two points and every pair of ints; no condition. -/
import Derived.Test.YtpmhmaiagjdpeaaKk
import Derived.Test.YtpmhmaiagjdpeaaOe
import Derived.RegionTactic
import Derived.Test.YtpmhmaiagjdpeaaOp
import Derived.Test.YtpmhmaiagjdpeaaE11
namespace Go.Proofs.Ytpmhmaiagjdpeaa.vecLerpEnds
open Go.RowKit Go.ChangeShapes Go.WideShapes Go.ChangeAt
set_option linter.unusedVariables false
open Go.Proofs.Ytpmhmaiagjdpeaa
attribute [local go_sem ↓] Go.wp_at_zero Go.wp_at_succ
set_option linter.unusedSimpArgs false
theorem valid_iff (x y : Int) : validB x y = true ↔ (-1048576 ≤ x ∧ x ≤ 1048576) ∧ (-1048576 ≤ y ∧ y ≤ 1048576) := by
  unfold validB
  rw [Bool.and_eq_true, beq_iff_eq, beq_iff_eq]
  constructor
  · rintro ⟨h1, h2⟩
    have := hc_bd x
    have := hc_bd y
    rw [h1] at *; rw [h2] at *; omega
  · rintro ⟨h1, h2⟩; exact ⟨hc_id h1, hc_id h2⟩
theorem name_worldC {P : Program} {f : FuncId} {args : Array Value} {w : World} {R : Ending → World → Prop} (h : ∀ W, W = w → Calls P f args W R) : Calls P f args w R := h w rfl
set_option maxRecDepth 100000 in
set_option maxHeartbeats 4000000 in
theorem walk (ax ay bx b_y n d : Int) (w : World) (lax : -9223372036854775808 ≤ ax) (uax : ax ≤ 9223372036854775807) (lay : -9223372036854775808 ≤ ay) (uay : ay ≤ 9223372036854775807) (lbx : -9223372036854775808 ≤ bx) (ubx : bx ≤ 9223372036854775807) (lby0 : -9223372036854775808 ≤ b_y) (uby0 : b_y ≤ 9223372036854775807) (ln : -9223372036854775808 ≤ n) (un : n ≤ 9223372036854775807) (ld : -9223372036854775808 ≤ d) (ud : d ≤ 9223372036854775807) :
    Calls Try.prog 5 #[.agg #[.int .i64 ax, .int .i64 ay], .agg #[.int .i64 bx, .int .i64 b_y], .agg #[.int .i64 n, .int .i64 d]] w fun e w' => e = .returned (.bool true) ∧ Below w.heap.size w w' := by
  have HS := Lib.hid (show ∀ w', Keeps (((w.alloc (.cells #[.int .i64 ax, .int .i64 ay] 23)).alloc (.cells #[.int .i64 bx, .int .i64 b_y] 23)).alloc (.cells #[.int .i64 n, .int .i64 d] 27)) w' → w'.cell? ⟨w.heap.size, 0, none⟩ = some (.int .i64 ax) ∧ w'.frozen? ⟨w.heap.size, 0, none⟩ = false ∧ w'.cell? ⟨w.heap.size, 1, none⟩ = some (.int .i64 ay) ∧ w'.frozen? ⟨w.heap.size, 1, none⟩ = false ∧ w'.cell? ⟨w.heap.size + 1, 0, none⟩ = some (.int .i64 bx) ∧ w'.frozen? ⟨w.heap.size + 1, 0, none⟩ = false ∧ w'.cell? ⟨w.heap.size + 1, 1, none⟩ = some (.int .i64 b_y) ∧ w'.frozen? ⟨w.heap.size + 1, 1, none⟩ = false ∧ w'.cell? ⟨w.heap.size + 1 + 1, 0, none⟩ = some (.int .i64 n) ∧ w'.frozen? ⟨w.heap.size + 1 + 1, 0, none⟩ = false ∧ w'.cell? ⟨w.heap.size + 1 + 1, 1, none⟩ = some (.int .i64 d) ∧ w'.frozen? ⟨w.heap.size + 1 + 1, 1, none⟩ = false from fun w' hk => ⟨(hk.cell (p := ⟨w.heap.size, 0, none⟩) (by first | (simp; done) | (simp; omega))).trans (by simp [go_sem]), (hk.frozen (p := ⟨w.heap.size, 0, none⟩) (by first | (simp; done) | (simp; omega))).trans (by simp [go_sem]), (hk.cell (p := ⟨w.heap.size, 1, none⟩) (by first | (simp; done) | (simp; omega))).trans (by simp [go_sem]), (hk.frozen (p := ⟨w.heap.size, 1, none⟩) (by first | (simp; done) | (simp; omega))).trans (by simp [go_sem]), (hk.cell (p := ⟨w.heap.size + 1, 0, none⟩) (by first | (simp; done) | (simp; omega))).trans (by simp [go_sem]), (hk.frozen (p := ⟨w.heap.size + 1, 0, none⟩) (by first | (simp; done) | (simp; omega))).trans (by simp [go_sem]), (hk.cell (p := ⟨w.heap.size + 1, 1, none⟩) (by first | (simp; done) | (simp; omega))).trans (by simp [go_sem]), (hk.frozen (p := ⟨w.heap.size + 1, 1, none⟩) (by first | (simp; done) | (simp; omega))).trans (by simp [go_sem]), (hk.cell (p := ⟨w.heap.size + 1 + 1, 0, none⟩) (by first | (simp; done) | (simp; omega))).trans (by simp [go_sem]), (hk.frozen (p := ⟨w.heap.size + 1 + 1, 0, none⟩) (by first | (simp; done) | (simp; omega))).trans (by simp [go_sem]), (hk.cell (p := ⟨w.heap.size + 1 + 1, 1, none⟩) (by first | (simp; done) | (simp; omega))).trans (by simp [go_sem]), (hk.frozen (p := ⟨w.heap.size + 1 + 1, 1, none⟩) (by first | (simp; done) | (simp; omega))).trans (by simp [go_sem])⟩)
  have HB := Lib.hid (show Keeps w (((w.alloc (.cells #[.int .i64 ax, .int .i64 ay] 23)).alloc (.cells #[.int .i64 bx, .int .i64 b_y] 23)).alloc (.cells #[.int .i64 n, .int .i64 d] 27)) from (by (repeat (first | (with_reducible exact Keeps.refl _) | (with_reducible assumption) | (with_reducible refine Keeps.drewN ?_ _) | (with_reducible refine Keeps.drew ?_) | (with_reducible refine Keeps.alloc ?_ _) | (with_reducible refine Keeps.setNew ?_ ?_ _))) <;> (dsimp only; omega)))
  have hk0 := Keeps.refl (((w.alloc (.cells #[.int .i64 ax, .int .i64 ay] 23)).alloc (.cells #[.int .i64 bx, .int .i64 b_y] 23)).alloc (.cells #[.int .i64 n, .int .i64 d] 27))
  have V1 := Lib.hid (fun w' (hk : Keeps (((w.alloc (.cells #[.int .i64 ax, .int .i64 ay] 23)).alloc (.cells #[.int .i64 bx, .int .i64 b_y] 23)).alloc (.cells #[.int .i64 n, .int .i64 d] 27)) w') => keepk (valid_any ax ay w') hk)
  have V2 := Lib.hid (fun w' (hk : Keeps (((w.alloc (.cells #[.int .i64 ax, .int .i64 ay] 23)).alloc (.cells #[.int .i64 bx, .int .i64 b_y] 23)).alloc (.cells #[.int .i64 n, .int .i64 d] 27)) w') => keepk (valid_any bx b_y w') hk)
  have L1 := Lib.hid (fun w' (hk : Keeps (((w.alloc (.cells #[.int .i64 ax, .int .i64 ay] 23)).alloc (.cells #[.int .i64 bx, .int .i64 b_y] 23)).alloc (.cells #[.int .i64 n, .int .i64 d] 27)) w') => keepk (lerp_any ax ay bx b_y n d w') hk)
  have g1 := ptGuard
  have g2 := ptEql
  by_cases hv : validB ax ay = true ∧ validB bx b_y = true
  · obtain ⟨hv1, hv2⟩ := hv
    obtain ⟨X, Y⟩ := (valid_iff _ _).1 hv1
    obtain ⟨Z, T⟩ := (valid_iff _ _).1 hv2
    rw [hv1] at V1
    rw [hv2] at V2
    clear hv1 hv2
    by_cases hd : d < 1 ∨ 1099511627776 < d
    · have e1 : lerpI ax bx n d = ax := by unfold lerpI; rw [if_pos hd, hc_id X]
      have e2 : lerpI ay b_y n d = ay := by unfold lerpI; rw [if_pos hd, hc_id Y]
      rw [e1, e2] at L1
      have u1 : (ax == ax) = true := beq_self_eq_true _
      have u2 : (ay == ay) = true := beq_self_eq_true _
      clear e1 e2
      by_cases hd1 : d < 1
      · have t1 : decide (d < 1) = true := decide_eq_true hd1
        clear hd
        go_enter Try.func5, Try.ntmps5
        go_wp2_with (go_at_call 16; (first | (with_reducible refine (V1.out _ (by first | assumption | exact Keeps.drew (by assumption) | exact Keeps.drewN (by assumption) _)).mono ?_) | (with_reducible refine (V2.out _ (by first | assumption | exact Keeps.drew (by assumption) | exact Keeps.drewN (by assumption) _)).mono ?_)); rintro e w1 ⟨rfl, hk⟩; obtain ⟨y0, y1, y2, y3, y4, y5, y6, y7, y8, y9, y10, y11⟩ := HS.out _ hk)
        go_quiet (fail)
        go_wp2_with (first | (go_at_call 14; (with_reducible refine (L1.out _ (by first | assumption | exact Keeps.drew (by assumption) | exact Keeps.drewN (by assumption) _)).mono ?_); rintro e w2 ⟨rfl, hk2⟩; obtain ⟨y0, y1, y2, y3, y4, y5, y6, y7, y8, y9, y10, y11⟩ := HS.out _ hk2; have hsw2c : w.heap.size + 1 + 1 < w2.heap.size := (by have h := hk2.size; simp at h; omega); have hsw2b : w.heap.size + 1 < w2.heap.size := (by omega); have hsw2a : w.heap.size < w2.heap.size := (by omega)) | (go_at_call 13; refine (example11 _ _ (Keeps.alloc hk2 _)).mono ?_; rintro e w1 ⟨rfl, hk⟩))
        go_ret
        exact ⟨rfl, HB.out.trans hk⟩
      · have t1 : decide (d < 1) = false := decide_eq_false hd1
        have t2 : decide ((1099511627776 : Int) < d) = true := decide_eq_true (by omega)
        clear hd
        go_enter Try.func5, Try.ntmps5
        go_wp2_with (go_at_call 16; (first | (with_reducible refine (V1.out _ (by first | assumption | exact Keeps.drew (by assumption) | exact Keeps.drewN (by assumption) _)).mono ?_) | (with_reducible refine (V2.out _ (by first | assumption | exact Keeps.drew (by assumption) | exact Keeps.drewN (by assumption) _)).mono ?_)); rintro e w1 ⟨rfl, hk⟩; obtain ⟨y0, y1, y2, y3, y4, y5, y6, y7, y8, y9, y10, y11⟩ := HS.out _ hk)
        go_quiet (fail)
        go_wp2_with (first | (go_at_call 14; (with_reducible refine (L1.out _ (by first | assumption | exact Keeps.drew (by assumption) | exact Keeps.drewN (by assumption) _)).mono ?_); rintro e w2 ⟨rfl, hk2⟩; obtain ⟨y0, y1, y2, y3, y4, y5, y6, y7, y8, y9, y10, y11⟩ := HS.out _ hk2; have hsw2c : w.heap.size + 1 + 1 < w2.heap.size := (by have h := hk2.size; simp at h; omega); have hsw2b : w.heap.size + 1 < w2.heap.size := (by omega); have hsw2a : w.heap.size < w2.heap.size := (by omega)) | (go_at_call 13; refine (example11 _ _ (Keeps.alloc hk2 _)).mono ?_; rintro e w1 ⟨rfl, hk⟩))
        go_ret
        exact ⟨rfl, HB.out.trans hk⟩
    · have d0 : 1 ≤ d := by omega
      have d1 : d ≤ 1099511627776 := by omega
      have t1 : decide (d < 1) = false := decide_eq_false (by omega)
      have t2 : decide ((1099511627776 : Int) < d) = false := decide_eq_false (by omega)
      obtain ⟨n', en, hn⟩ : ∃ n', d - min (max n 0) d = n' ∧ clI n' 0 d = d - clI n 0 d := ⟨_, rfl, by unfold clI; split <;> split <;> (try split) <;> (try split) <;> omega⟩
      have pX := lerp_mid ax bx n d X Z d0 d1
      have pY := lerp_mid ay b_y n d Y T d0 d1
      obtain ⟨oX1, oX2⟩ := lerp_pair ax bx n n' d X Z d0 d1 hn
      obtain ⟨oY1, oY2⟩ := lerp_pair ay b_y n n' d Y T d0 d1 hn
      have bX := lerp_bd ax bx n d X Z d0 d1
      have bY := lerp_bd ay b_y n d Y T d0 d1
      have cX := lerp_bd bx ax n' d Z X d0 d1
      have cY := lerp_bd b_y ay n' d T Y d0 d1
      have L2 := Lib.hid (fun w => lerp_any bx b_y ax ay n' d w)
      have SU := Lib.hid (fun w => subc_any (lerpI ax bx n d) (lerpI ay b_y n d) (lerpI bx ax n' d) (lerpI b_y ay n' d) w)
      unfold subc at SU
      rw [hc_id bX, hc_id bY, hc_id cX, hc_id cY] at SU
      have mX1 : min ax bx ≤ lerpI ax bx n d := by
        rcases Int.le_total ax bx with h | h
        · have := pX.1 h; omega
        · have := pX.2 h; omega
      have mX2 : lerpI ax bx n d ≤ max ax bx := by
        rcases Int.le_total ax bx with h | h
        · have := pX.1 h; omega
        · have := pX.2 h; omega
      have mY1 : min ay b_y ≤ lerpI ay b_y n d := by
        rcases Int.le_total ay b_y with h | h
        · have := pY.1 h; omega
        · have := pY.2 h; omega
      have mY2 : lerpI ay b_y n d ≤ max ay b_y := by
        rcases Int.le_total ay b_y with h | h
        · have := pY.1 h; omega
        · have := pY.2 h; omega
      have zA := lerp_zero ax bx 0 d X d0 d1 (by omega)
      have zB := lerp_zero ay b_y 0 d Y d0 d1 (by omega)
      have zC := lerp_zero ax bx (-1) d X d0 d1 (by omega)
      have zD := lerp_zero ay b_y (-1) d Y d0 d1 (by omega)
      have zE := lerp_full ax bx d X Z d0 d1
      have zF := lerp_full ay b_y d Y T d0 d1
      have LA := Lib.hid (fun w => lerp_any ax ay bx b_y 0 d w)
      have LB := Lib.hid (fun w => lerp_any ax ay bx b_y d d w)
      have LC := Lib.hid (fun w => lerp_any ax ay bx b_y (-1) d w)
      rw [zA, zB] at LA
      rw [zE, zF] at LB
      rw [zC, zD] at LC
      generalize lerpI ax bx n d = PX at *
      generalize lerpI ay b_y n d = PY at *
      generalize lerpI bx ax n' d = QX at *
      generalize lerpI b_y ay n' d = QY at *
      clear pX pY hd hn zA zB zC zD zE zF bX bY cX cY
      have u1 : (ax == ax) = true := beq_self_eq_true _
      have u2 : (ay == ay) = true := beq_self_eq_true _
      have u3 : (bx == bx) = true := beq_self_eq_true _
      have u4 : (b_y == b_y) = true := beq_self_eq_true _
      have C0 := Lib.hid (fun (w1 : World) (u v : Int) => show (w1.alloc (.cells #[.int .i64 u, .int .i64 v] 23)).cell? ⟨w1.heap.size, 0, none⟩ = some (.int .i64 u) by simp [go_sem])
      have C1 := Lib.hid (fun (w1 : World) (u v : Int) => show (w1.alloc (.cells #[.int .i64 u, .int .i64 v] 23)).cell? ⟨w1.heap.size, 1, none⟩ = some (.int .i64 v) by simp [go_sem])
      all_goals
        go_enter Try.func5, Try.ntmps5
        go_wp2_with (go_at_call 16; (first | (with_reducible refine (V1.out _ (by first | assumption | exact Keeps.drew (by assumption) | exact Keeps.drewN (by assumption) _)).mono ?_) | (with_reducible refine (V2.out _ (by first | assumption | exact Keeps.drew (by assumption) | exact Keeps.drewN (by assumption) _)).mono ?_)); rintro e w1 ⟨rfl, hk⟩; obtain ⟨y0, y1, y2, y3, y4, y5, y6, y7, y8, y9, y10, y11⟩ := HS.out _ hk)
        go_quiet (fail)
        go_wp2_with (first | (go_at_call 14; (with_reducible refine (L1.out _ (by first | assumption | exact Keeps.drew (by assumption) | exact Keeps.drewN (by assumption) _)).mono ?_); rintro e w2 ⟨rfl, hk2⟩; obtain ⟨y0, y1, y2, y3, y4, y5, y6, y7, y8, y9, y10, y11⟩ := HS.out _ hk2; have hsw2c : w.heap.size + 1 + 1 < w2.heap.size := (by have h := hk2.size; simp at h; omega); have hsw2b : w.heap.size + 1 < w2.heap.size := (by omega); have hsw2a : w.heap.size < w2.heap.size := (by omega)) | (go_at_call 14; (with_reducible refine (L2.out _).mono ?_); rintro e w3 ⟨rfl, hk3⟩; have hk3' := Keeps.trans (Keeps.alloc hk2 _) hk3; obtain ⟨y0, y1, y2, y3, y4, y5, y6, y7, y8, y9, y10, y11⟩ := HS.out _ hk3'; have hs3 : w2.heap.size < w3.heap.size := (by have h := hk3.size; simp at h; omega); have hs3c : w.heap.size + 1 + 1 < w3.heap.size := (by omega); have hs3b : w.heap.size + 1 < w3.heap.size := (by omega); have hs3a : w.heap.size < w3.heap.size := (by omega); have q0 := (hk3.cell (p := ⟨w2.heap.size, 0, none⟩) (by simp)).trans (C0.out w2 PX PY); have q1 := (hk3.cell (p := ⟨w2.heap.size, 1, none⟩) (by simp)).trans (C1.out w2 PX PY)) | (go_at_call 17; (with_reducible refine (SU.out _).mono ?_); rintro e w4 ⟨rfl, hk4⟩; have hk4' := Keeps.trans (Keeps.alloc hk3' _) hk4; obtain ⟨y0, y1, y2, y3, y4, y5, y6, y7, y8, y9, y10, y11⟩ := HS.out _ hk4'; have hs4 : w3.heap.size < w4.heap.size := (by have h := hk4.size; simp at h; omega); have hs4c : w.heap.size + 1 + 1 < w4.heap.size := (by omega); have hs4b : w.heap.size + 1 < w4.heap.size := (by omega); have hs4a : w.heap.size < w4.heap.size := (by omega); have hs42 : w2.heap.size < w4.heap.size := (by omega); have r0 := (hk4.cell (p := ⟨w2.heap.size, 0, none⟩) (by simp; omega)).trans ((World.cell?_alloc_lt _ _ ⟨w2.heap.size, 0, none⟩ hs3).trans q0); have r1 := (hk4.cell (p := ⟨w2.heap.size, 1, none⟩) (by simp; omega)).trans ((World.cell?_alloc_lt _ _ ⟨w2.heap.size, 1, none⟩ hs3).trans q1)))
        refine name_world (fun W hW => ?_)
        have F : W.cell? ⟨w.heap.size, 0, none⟩ = some (.int .i64 (ax)) ∧ W.cell? ⟨w.heap.size, 1, none⟩ = some (.int .i64 (ay)) ∧ W.cell? ⟨w.heap.size + 1, 0, none⟩ = some (.int .i64 (bx)) ∧ W.cell? ⟨w.heap.size + 1, 1, none⟩ = some (.int .i64 (b_y)) ∧ W.cell? ⟨w2.heap.size, 0, none⟩ = some (.int .i64 (PX)) ∧ W.cell? ⟨w2.heap.size, 1, none⟩ = some (.int .i64 (PY)) ∧ W.cell? ⟨w4.heap.size, 0, none⟩ = some (.int .i64 (PX - QX)) ∧ W.cell? ⟨w4.heap.size, 1, none⟩ = some (.int .i64 (PY - QY)) := by rw [hW]; refine ⟨?_, ?_, ?_, ?_, ?_, ?_, ?_, ?_⟩ <;> go_simp
        have hs4x : w4.heap.size < W.heap.size := by rw [hW]; simp
        have hs2 : w2.heap.size < W.heap.size := by omega
        have hs1 : w.heap.size + 1 < W.heap.size := by omega
        have hs0 : w.heap.size < W.heap.size := by omega
        have hKW : Keeps w W := by rw [hW]; exact HB.out.trans (Keeps.alloc hk4' _)
        clear hW
        obtain ⟨f0, f1, f2, f3, f4, f5, f6, f7⟩ := F
        have z0 : ∀ k : KW W, k.w.cell? ⟨w.heap.size, 0, none⟩ = some (.int .i64 (ax)) := fun k => (k.keeps.cell (p := ⟨w.heap.size, 0, none⟩) hs0).trans f0
        have z1 : ∀ k : KW W, k.w.cell? ⟨w.heap.size, 1, none⟩ = some (.int .i64 (ay)) := fun k => (k.keeps.cell (p := ⟨w.heap.size, 1, none⟩) hs0).trans f1
        have z2 : ∀ k : KW W, k.w.cell? ⟨w.heap.size + 1, 0, none⟩ = some (.int .i64 (bx)) := fun k => (k.keeps.cell (p := ⟨w.heap.size + 1, 0, none⟩) hs1).trans f2
        have z3 : ∀ k : KW W, k.w.cell? ⟨w.heap.size + 1, 1, none⟩ = some (.int .i64 (b_y)) := fun k => (k.keeps.cell (p := ⟨w.heap.size + 1, 1, none⟩) hs1).trans f3
        have z4 : ∀ k : KW W, k.w.cell? ⟨w2.heap.size, 0, none⟩ = some (.int .i64 (PX)) := fun k => (k.keeps.cell (p := ⟨w2.heap.size, 0, none⟩) hs2).trans f4
        have z5 : ∀ k : KW W, k.w.cell? ⟨w2.heap.size, 1, none⟩ = some (.int .i64 (PY)) := fun k => (k.keeps.cell (p := ⟨w2.heap.size, 1, none⟩) hs2).trans f5
        have z6 : ∀ k : KW W, k.w.cell? ⟨w4.heap.size, 0, none⟩ = some (.int .i64 (PX - QX)) := fun k => (k.keeps.cell (p := ⟨w4.heap.size, 0, none⟩) hs4x).trans f6
        have z7 : ∀ k : KW W, k.w.cell? ⟨w4.heap.size, 1, none⟩ = some (.int .i64 (PY - QY)) := fun k => (k.keeps.cell (p := ⟨w4.heap.size, 1, none⟩) hs4x).trans f7
        have hkW := Keeps.refl W
        have KA := Lib.hid (fun k : KW W => keepq (LA.out k.w))
        have KB := Lib.hid (fun k : KW W => keepq (LB.out k.w))
        have KC := Lib.hid (fun k : KW W => keepq (LC.out k.w))
        have EX := Lib.hid (fun k : KW W => keepq (example11 k.w k.w (Keeps.refl _)))
        clear hk hk2 hk3 hk3' hk4 hk4' y0 y1 y2 y3 y4 y5 y6 y7 y8 y9 y10 y11 q0 q1 r0 r1 hk0 C0 C1 L1 L2 V1 V2 SU LA LB LC f0 f1 f2 f3 f4 f5 f6 f7
        have eX : PX - QX ≤ 1 := oX2
        have eX' : QX - PX ≤ 1 := by omega
        have eY : PY - QY ≤ 1 := oY2
        have eY' : QY - PY ≤ 1 := by omega
        have mx : max (PX - QX) (-(PX - QX)) ≤ 1 := by omega
        have my : max (PY - QY) (-(PY - QY)) ≤ 1 := by omega
        have mx' : max (PX - QX) (QX - PX) ≤ 1 := by omega
        have my' : max (PY - QY) (QY - PY) ≤ 1 := by omega
        simp only [List.append]
        refine wp_region_kept (W) (by kernel_rfl) (by kernel_rfl) (hkW) ?_
        repeat (first | go_big_quiet_skip | (go_big_quiet_want; go_big_quiet_op; first | go_big_quiet_on | go_big_quiet_call ((first | (go_at_call 14; first | (with_reducible exact KA.out _) | (with_reducible exact KB.out _) | (with_reducible exact KC.out _)) | (go_at_call 13; first | (with_reducible exact EX.out _))))))
        refine wpQuiet_nil ?_
        rintro w' ⟨k9, rfl⟩
        have hk := k9.keeps
        generalize k9.w = w9 at hk ⊢
        clear k9
        go_wp2_with fail
        go_ret
        exact ⟨rfl, hKW.trans hk⟩
  · have hv0 : validB ax ay = false ∨ (validB ax ay = true ∧ validB bx b_y = false) := by
      cases h1 : validB ax ay
      · exact .inl rfl
      · cases h2 : validB bx b_y
        · exact .inr ⟨rfl, rfl⟩
        · exact absurd ⟨h1, h2⟩ hv
    clear hv
    rcases hv0 with h | ⟨h, h2⟩
    · rw [h] at V1
      clear h
      go_enter Try.func5, Try.ntmps5
      go_wp2_with (first | (go_at_call 16; (first | (with_reducible refine (V1.out _ (by first | assumption | exact Keeps.drew (by assumption) | exact Keeps.drewN (by assumption) _)).mono ?_) | (with_reducible refine (V2.out _ (by first | assumption | exact Keeps.drew (by assumption) | exact Keeps.drewN (by assumption) _)).mono ?_)); rintro e w1 ⟨rfl, hk⟩; obtain ⟨y0, y1, y2, y3, y4, y5, y6, y7, y8, y9, y10, y11⟩ := HS.out _ hk) | (go_at_call 13; refine (example11 _ _ (by first | assumption | exact Keeps.drew (by assumption) | exact Keeps.drewN (by assumption) _)).mono ?_; rintro e w1 ⟨rfl, hk⟩))
      go_ret
      exact ⟨rfl, HB.out.trans (by (repeat (first | (with_reducible exact Keeps.refl _) | (with_reducible assumption) | (with_reducible refine Keeps.drewN ?_ _) | (with_reducible refine Keeps.drew ?_) | (with_reducible refine Keeps.alloc ?_ _) | (with_reducible refine Keeps.setNew ?_ ?_ _))) <;> ((try dsimp only); omega))⟩
    · rw [h] at V1
      rw [h2] at V2
      clear h h2
      go_enter Try.func5, Try.ntmps5
      go_wp2_with (first | (go_at_call 16; (first | (with_reducible refine (V1.out _ (by first | assumption | exact Keeps.drew (by assumption) | exact Keeps.drewN (by assumption) _)).mono ?_) | (with_reducible refine (V2.out _ (by first | assumption | exact Keeps.drew (by assumption) | exact Keeps.drewN (by assumption) _)).mono ?_)); rintro e w1 ⟨rfl, hk⟩; obtain ⟨y0, y1, y2, y3, y4, y5, y6, y7, y8, y9, y10, y11⟩ := HS.out _ hk) | (go_at_call 13; refine (example11 _ _ (by first | assumption | exact Keeps.drew (by assumption) | exact Keeps.drewN (by assumption) _)).mono ?_; rintro e w1 ⟨rfl, hk⟩))
      go_ret
      exact ⟨rfl, HB.out.trans (by (repeat (first | (with_reducible exact Keeps.refl _) | (with_reducible assumption) | (with_reducible refine Keeps.drewN ?_ _) | (with_reducible refine Keeps.drew ?_) | (with_reducible refine Keeps.alloc ?_ _) | (with_reducible refine Keeps.setNew ?_ ?_ _))) <;> ((try dsimp only); omega))⟩

set_option maxRecDepth 100000 in
theorem lifted (os : Os) (started : os.Started) (H : Type) (enc : TypeId × Value → H) :
    ReturnsInHanded {} Try.checked os 5 .any (Rows.vecLerpEndsSpec.pre6 enc Try.prog Try.f5 Rows.vecLerpEndsRow.domain false) (Rows.vecLerpEndsSpec.post enc Try.prog Try.f5 false true false false) := by
  refine returnsInHanded_of_change (C := Try.checked) Try.own started (by kernel_rfl) Try.func5
    (ChangeSpec.witness6 (enc := enc) (C := Try.checked) false ⟨#[], #[.agg #[.int .i64 0, .int .i64 0], .agg #[.int .i64 0, .int .i64 0], .agg #[.int .i64 0, .int .i64 0]], []⟩ 8 (by kernel_rfl) (by kernel_rfl) (by kernel_rfl) (by kernel_rfl)) ?_
  intro W base args ds gs before hval0 hW hcnd _
  have hval : ∀ (j : Nat) t v, Try.f5.params[j]? = some t → args[j]? = some v → Value.okWide Try.prog W .any base t v := hval0
  have hW' := hW
  obtain ⟨p, q, hA0, hV, rfl, hfz, hnd⟩ := hW
  have hA : DataW.TrodAll enc Try.prog W 0 (fun _ => true) true Try.f5.params.toList args.toList ds p := hA0
  have hAll := hA
  rw [Try.params5] at hA hval
  obtain ⟨v0, vs0, d0, ds0, p0, q0, hargs, rfl, rfl, h0, r0⟩ := trodAll_cons hA
  obtain ⟨v1, vs1, d1, ds1, p1, q1, rfl, rfl, rfl, h1, r1⟩ := trodAll_cons r0
  obtain ⟨v2, vs2, d2, ds2, p2, q2, rfl, rfl, rfl, h2, r2⟩ := trodAll_cons r1
  obtain ⟨rfl, rfl, rfl⟩ := trodAll_nil r2
  obtain rfl : args = #[v0, v1, v2] := by cases args; simp_all
  obtain ⟨rfl, rfl⟩ := trodVars_none hV
  obtain ⟨c0, rfl, L0_0⟩ := open_flat (ks := [some .i64, some .i64]) (by kernel_rfl) (by kernel_rfl) (hval 0 23 v0 rfl rfl) h0
  obtain ⟨_, c0_0, rfl, ⟨a0_0, rfl, w0_0⟩, L0_1⟩ := leafs_cons L0_0
  obtain ⟨l0_0, u0_0⟩ := bounds_i64 w0_0
  obtain ⟨_, c0_1, rfl, ⟨a0_1, rfl, w0_1⟩, L0_2⟩ := leafs_cons L0_1
  obtain ⟨l0_1, u0_1⟩ := bounds_i64 w0_1
  obtain rfl := leafs_nil L0_2
  obtain ⟨c1, rfl, L1_0⟩ := open_flat (ks := [some .i64, some .i64]) (by kernel_rfl) (by kernel_rfl) (hval 1 23 v1 rfl rfl) h1
  obtain ⟨_, c1_0, rfl, ⟨a1_0, rfl, w1_0⟩, L1_1⟩ := leafs_cons L1_0
  obtain ⟨l1_0, u1_0⟩ := bounds_i64 w1_0
  obtain ⟨_, c1_1, rfl, ⟨a1_1, rfl, w1_1⟩, L1_2⟩ := leafs_cons L1_1
  obtain ⟨l1_1, u1_1⟩ := bounds_i64 w1_1
  obtain rfl := leafs_nil L1_2
  obtain ⟨c2, rfl, L2_0⟩ := open_flat (ks := [some .i64, some .i64]) (by kernel_rfl) (by kernel_rfl) (hval 2 27 v2 rfl rfl) h2
  obtain ⟨_, c2_0, rfl, ⟨a2_0, rfl, w2_0⟩, L2_1⟩ := leafs_cons L2_0
  obtain ⟨l2_0, u2_0⟩ := bounds_i64 w2_0
  obtain ⟨_, c2_1, rfl, ⟨a2_1, rfl, w2_1⟩, L2_2⟩ := leafs_cons L2_1
  obtain ⟨l2_1, u2_1⟩ := bounds_i64 w2_1
  obtain rfl := leafs_nil L2_2
  clear hA0 hval0
  refine (walk a0_0 a0_1 a1_0 a1_1 a2_0 a2_1 W l0_0 u0_0 l0_1 u0_1 l1_0 u1_0 l1_1 u1_1 l2_0 u2_0 l2_1 u2_1).mono fun e W' ⟨he, bel⟩ => ?_
  subst he
  exact ⟨_, rfl, _, _, _, [], _, [], hW', trodAll_mk1 (shut_bool Try.underlying4 _), below_trodAll Try.laidOut bel (reads_of (by kernel_rfl)) hAll, rfl, bel.frame _, fun h => by cases h⟩

theorem over : Rows.vecLerpEndsRow.holds Try.pinned (OpenSpec.ofChange Rows.vecLerpEndsSpec) :=
  OpenClaim.holds_of_wide 5 Try.f5 rfl rfl rfl rfl rfl rfl rfl ⟨rfl, rfl, rfl, rfl, rfl⟩ rfl rfl rfl rfl rfl (by kernel_rfl) Try.func5 (by kernel_rfl)
    (of_decide_eq_true (by kernel_rfl)) (by unfold Func.isWrapper; first | (rw [if_pos (by decide +kernel)]; kernel_rfl) | (rw [if_neg (by decide +kernel)]; exact ⟨rfl, rfl⟩))
    (fun os started H enc _ => lifted os started H enc)

/-- The statement. -/
theorem proved : Rows.VecLerpEndsSaid := over
#print axioms proved
end Go.Proofs.Ytpmhmaiagjdpeaa.vecLerpEnds
