/- VecOrientation of grisaillelaw11 returns true for all its arguments: every three points; no condition. -/
import Derived.Test.YtpmhmaiagjdpeaaOl
import Derived.Deep.CutRange
import Derived.Test.YtpmhmaiagjdpeaaKk
import Derived.Test.YtpmhmaiagjdpeaaOp
import Derived.Test.YtpmhmaiagjdpeaaRw
namespace Go.Proofs.Ytpmhmaiagjdpeaa.vecOrientation
open Go.RowKit Go.ChangeShapes Go.WideShapes Go.ChangeAt
set_option linter.unusedVariables false
open Go.Proofs.Ytpmhmaiagjdpeaa
attribute [local go_sem ↓] Go.wp_at_zero Go.wp_at_succ
set_option linter.unusedSimpArgs false
theorem bff : (!(false == false)) = false := rfl
theorem btt : (!(true == true)) = false := rfl
attribute [local go_sem ↓] bff btt
theorem tmod_bd (x : Int) : -100000 < x.tmod 100000 ∧ x.tmod 100000 < 100000 := ⟨Int.lt_tmod_of_pos x (by omega), Int.tmod_lt_of_pos x (by omega)⟩
set_option maxHeartbeats 400000 in
theorem small_any (x y : Int) (w : World) :
    Calls Try.prog 18 #[.agg #[.int .i64 x, .int .i64 y]] w fun e w' => e = .returned (.agg #[.int .i64 (x.tmod 100000), .int .i64 (y.tmod 100000)]) ∧ Keeps w w' := by
  have h1 := Int.lt_tmod_of_pos x (show (0 : Int) < 100000 by omega)
  have h2 := Int.tmod_lt_of_pos x (show (0 : Int) < 100000 by omega)
  have h3 := Int.lt_tmod_of_pos y (show (0 : Int) < 100000 by omega)
  have h4 := Int.tmod_lt_of_pos y (show (0 : Int) < 100000 by omega)
  go_enter Try.func18, Try.ntmps18
  go_wp2
  exact bodyPost_ret (v := .agg #[.int .i64 (x.tmod 100000), .int .i64 (y.tmod 100000)]) (by simp [results, Try.results18, go_sem, *]) rfl ⟨rfl, (by (repeat (first | (with_reducible exact Keeps.refl _) | (with_reducible assumption) | (with_reducible refine Keeps.drewN ?_ _) | (with_reducible refine Keeps.drew ?_) | (with_reducible refine Keeps.alloc ?_ _) | (with_reducible refine Keeps.setNew ?_ ?_ _))) <;> (dsimp only; omega))⟩
set_option maxRecDepth 100000 in
set_option maxHeartbeats 1000000 in
theorem walk (ax ay bx b_y px py : Int) (w : World) (lax : -9223372036854775808 ≤ ax) (uax : ax ≤ 9223372036854775807) (lay : -9223372036854775808 ≤ ay) (uay : ay ≤ 9223372036854775807) (lbx : -9223372036854775808 ≤ bx) (ubx : bx ≤ 9223372036854775807) (lby0 : -9223372036854775808 ≤ b_y) (uby0 : b_y ≤ 9223372036854775807) (lpx : -9223372036854775808 ≤ px) (upx : px ≤ 9223372036854775807) (lpy : -9223372036854775808 ≤ py) (upy : py ≤ 9223372036854775807) :
    Calls Try.prog 6 #[.agg #[.int .i64 ax, .int .i64 ay], .agg #[.int .i64 bx, .int .i64 b_y], .agg #[.int .i64 px, .int .i64 py]] w fun e w' => e = .returned (.bool true) ∧ Below w.heap.size w w' := by
  have O0 := Lib.hid (fun w' (hk : Keeps (((w.alloc (.cells #[.int .i64 ax, .int .i64 ay] 23)).alloc (.cells #[.int .i64 bx, .int .i64 b_y] 23)).alloc (.cells #[.int .i64 px, .int .i64 py] 23)) w') => keepk (orientation_any ax ay bx b_y px py w') hk)
  have O1 := Lib.hid (fun w' (hk : Keeps (((w.alloc (.cells #[.int .i64 ax, .int .i64 ay] 23)).alloc (.cells #[.int .i64 bx, .int .i64 b_y] 23)).alloc (.cells #[.int .i64 px, .int .i64 py] 23)) w') => keepk (orientation_any bx b_y ax ay px py w') hk)
  have O2 := Lib.hid (fun w' (hk : Keeps (((w.alloc (.cells #[.int .i64 ax, .int .i64 ay] 23)).alloc (.cells #[.int .i64 bx, .int .i64 b_y] 23)).alloc (.cells #[.int .i64 px, .int .i64 py] 23)) w') => keepk (orientation_any bx b_y px py ax ay w') hk)
  have O3 := Lib.hid (fun w' (hk : Keeps (((w.alloc (.cells #[.int .i64 ax, .int .i64 ay] 23)).alloc (.cells #[.int .i64 bx, .int .i64 b_y] 23)).alloc (.cells #[.int .i64 px, .int .i64 py] 23)) w') => keepk (orientation_any px py ax ay bx b_y w') hk)
  have O4 := Lib.hid (fun w' (hk : Keeps (((w.alloc (.cells #[.int .i64 ax, .int .i64 ay] 23)).alloc (.cells #[.int .i64 bx, .int .i64 b_y] 23)).alloc (.cells #[.int .i64 px, .int .i64 py] 23)) w') => keepk (orientation_any ax ay px py bx b_y w') hk)
  have P0 := Lib.hid (fun w' (hk : Keeps (((w.alloc (.cells #[.int .i64 ax, .int .i64 ay] 23)).alloc (.cells #[.int .i64 bx, .int .i64 b_y] 23)).alloc (.cells #[.int .i64 px, .int .i64 py] 23)) w') => keepk (onseg_any ax ay bx b_y ax ay w') hk)
  have P1 := Lib.hid (fun w' (hk : Keeps (((w.alloc (.cells #[.int .i64 ax, .int .i64 ay] 23)).alloc (.cells #[.int .i64 bx, .int .i64 b_y] 23)).alloc (.cells #[.int .i64 px, .int .i64 py] 23)) w') => keepk (onseg_any ax ay bx b_y bx b_y w') hk)
  have P2 := Lib.hid (fun w' (hk : Keeps (((w.alloc (.cells #[.int .i64 ax, .int .i64 ay] 23)).alloc (.cells #[.int .i64 bx, .int .i64 b_y] 23)).alloc (.cells #[.int .i64 px, .int .i64 py] 23)) w') => keepk (onseg_any ax ay bx b_y px py w') hk)
  have P3 := Lib.hid (fun w' (hk : Keeps (((w.alloc (.cells #[.int .i64 ax, .int .i64 ay] 23)).alloc (.cells #[.int .i64 bx, .int .i64 b_y] 23)).alloc (.cells #[.int .i64 px, .int .i64 py] 23)) w') => keepk (onseg_any bx b_y ax ay px py w') hk)
  rw [ori_ba] at O1
  rw [ori_bpa] at O2
  rw [ori_pab] at O3
  rw [ori_apb] at O4
  rw [on_a] at P0
  rw [on_b] at P1
  rw [← on_swap] at P3
  have hv := Lib.hid (on_ori ax ay bx b_y px py)
  obtain ⟨s0, s1⟩ := ori_bd ax ay bx b_y px py
  generalize oriI ax ay bx b_y px py = s at *
  generalize hv0 : onB ax ay bx b_y px py = v at *
  have t1 : (s == s) = true := beq_self_eq_true s
  have t2 : (s != s) = false := bne_self_eq_false s
  have t3 : (-s != -s) = false := bne_self_eq_false (-s)
  have t4 : (v != v) = false := bne_self_eq_false v
  have HS := Lib.hid (show ∀ w', Keeps (((w.alloc (.cells #[.int .i64 ax, .int .i64 ay] 23)).alloc (.cells #[.int .i64 bx, .int .i64 b_y] 23)).alloc (.cells #[.int .i64 px, .int .i64 py] 23)) w' → w'.cell? ⟨w.heap.size, 0, none⟩ = some (.int .i64 ax) ∧ w'.frozen? ⟨w.heap.size, 0, none⟩ = false ∧ w'.cell? ⟨w.heap.size, 1, none⟩ = some (.int .i64 ay) ∧ w'.frozen? ⟨w.heap.size, 1, none⟩ = false ∧ w'.cell? ⟨w.heap.size + 1, 0, none⟩ = some (.int .i64 bx) ∧ w'.frozen? ⟨w.heap.size + 1, 0, none⟩ = false ∧ w'.cell? ⟨w.heap.size + 1, 1, none⟩ = some (.int .i64 b_y) ∧ w'.frozen? ⟨w.heap.size + 1, 1, none⟩ = false ∧ w'.cell? ⟨w.heap.size + 1 + 1, 0, none⟩ = some (.int .i64 px) ∧ w'.frozen? ⟨w.heap.size + 1 + 1, 0, none⟩ = false ∧ w'.cell? ⟨w.heap.size + 1 + 1, 1, none⟩ = some (.int .i64 py) ∧ w'.frozen? ⟨w.heap.size + 1 + 1, 1, none⟩ = false from fun w' hk => ⟨(hk.cell (p := ⟨w.heap.size, 0, none⟩) (by first | (simp; done) | (simp; omega))).trans (by simp [go_sem]), (hk.frozen (p := ⟨w.heap.size, 0, none⟩) (by first | (simp; done) | (simp; omega))).trans (by simp [go_sem]), (hk.cell (p := ⟨w.heap.size, 1, none⟩) (by first | (simp; done) | (simp; omega))).trans (by simp [go_sem]), (hk.frozen (p := ⟨w.heap.size, 1, none⟩) (by first | (simp; done) | (simp; omega))).trans (by simp [go_sem]), (hk.cell (p := ⟨w.heap.size + 1, 0, none⟩) (by first | (simp; done) | (simp; omega))).trans (by simp [go_sem]), (hk.frozen (p := ⟨w.heap.size + 1, 0, none⟩) (by first | (simp; done) | (simp; omega))).trans (by simp [go_sem]), (hk.cell (p := ⟨w.heap.size + 1, 1, none⟩) (by first | (simp; done) | (simp; omega))).trans (by simp [go_sem]), (hk.frozen (p := ⟨w.heap.size + 1, 1, none⟩) (by first | (simp; done) | (simp; omega))).trans (by simp [go_sem]), (hk.cell (p := ⟨w.heap.size + 1 + 1, 0, none⟩) (by first | (simp; done) | (simp; omega))).trans (by simp [go_sem]), (hk.frozen (p := ⟨w.heap.size + 1 + 1, 0, none⟩) (by first | (simp; done) | (simp; omega))).trans (by simp [go_sem]), (hk.cell (p := ⟨w.heap.size + 1 + 1, 1, none⟩) (by first | (simp; done) | (simp; omega))).trans (by simp [go_sem]), (hk.frozen (p := ⟨w.heap.size + 1 + 1, 1, none⟩) (by first | (simp; done) | (simp; omega))).trans (by simp [go_sem])⟩)
  have HB := Lib.hid (show Keeps w (((w.alloc (.cells #[.int .i64 ax, .int .i64 ay] 23)).alloc (.cells #[.int .i64 bx, .int .i64 b_y] 23)).alloc (.cells #[.int .i64 px, .int .i64 py] 23)) from (by (repeat (first | (with_reducible exact Keeps.refl _) | (with_reducible assumption) | (with_reducible refine Keeps.drewN ?_ _) | (with_reducible refine Keeps.drew ?_) | (with_reducible refine Keeps.alloc ?_ _) | (with_reducible refine Keeps.setNew ?_ ?_ _))) <;> (dsimp only; omega)))
  have hk0 := Keeps.refl (((w.alloc (.cells #[.int .i64 ax, .int .i64 ay] 23)).alloc (.cells #[.int .i64 bx, .int .i64 b_y] 23)).alloc (.cells #[.int .i64 px, .int .i64 py] 23))
  go_enter Try.func6, Try.ntmps6
  go_wp2_with (go_at_call 9; (first | (with_reducible refine (O0.out _ (by first | assumption | exact Keeps.drew (by assumption) | exact Keeps.drewN (by assumption) _)).mono ?_) | (with_reducible refine (O1.out _ (by first | assumption | exact Keeps.drew (by assumption) | exact Keeps.drewN (by assumption) _)).mono ?_) | (with_reducible refine (O2.out _ (by first | assumption | exact Keeps.drew (by assumption) | exact Keeps.drewN (by assumption) _)).mono ?_) | (with_reducible refine (O3.out _ (by first | assumption | exact Keeps.drew (by assumption) | exact Keeps.drewN (by assumption) _)).mono ?_) | (with_reducible refine (O4.out _ (by first | assumption | exact Keeps.drew (by assumption) | exact Keeps.drewN (by assumption) _)).mono ?_)); rintro e w1 ⟨rfl, hk⟩; obtain ⟨y0, y1, y2, y3, y4, y5, y6, y7, y8, y9, y10, y11⟩ := HS.out _ hk)
  go_cut [6, 7, 87] from 11 to 86 (fun s6 s7 s87 w' => s6 = .bool false ∧ s7 = .int .i64 s ∧ s87 = .bool false ∧ Keeps ((((w.alloc (.cells #[.int .i64 ax, .int .i64 ay] 23)).alloc (.cells #[.int .i64 bx, .int .i64 b_y] 23)).alloc (.cells #[.int .i64 px, .int .i64 py] 23))) w')
  case first =>
    have hk4 := hk
    clear hk y0 y1 y2 y3 y4 y5 y6 y7 y8 y9 y10 y11
    have Q0 := Lib.hid (fun k : KW (((w.alloc (.cells #[.int .i64 ax, .int .i64 ay] 23)).alloc (.cells #[.int .i64 bx, .int .i64 b_y] 23)).alloc (.cells #[.int .i64 px, .int .i64 py] 23)) => keepq (onseg_any ax ay bx b_y ax ay k.w))
    have Q1 := Lib.hid (fun k : KW (((w.alloc (.cells #[.int .i64 ax, .int .i64 ay] 23)).alloc (.cells #[.int .i64 bx, .int .i64 b_y] 23)).alloc (.cells #[.int .i64 px, .int .i64 py] 23)) => keepq (onseg_any ax ay bx b_y bx b_y k.w))
    have Q2 := Lib.hid (fun k : KW (((w.alloc (.cells #[.int .i64 ax, .int .i64 ay] 23)).alloc (.cells #[.int .i64 bx, .int .i64 b_y] 23)).alloc (.cells #[.int .i64 px, .int .i64 py] 23)) => keepq (onseg_any ax ay bx b_y px py k.w))
    have Q3 := Lib.hid (fun k : KW (((w.alloc (.cells #[.int .i64 ax, .int .i64 ay] 23)).alloc (.cells #[.int .i64 bx, .int .i64 b_y] 23)).alloc (.cells #[.int .i64 px, .int .i64 py] 23)) => keepq (onseg_any bx b_y ax ay px py k.w))
    rw [on_a] at Q0
    rw [on_b] at Q1
    rw [← on_swap] at Q3
    rw [hv0] at Q2 Q3
    have z0 : ∀ k : KW (((w.alloc (.cells #[.int .i64 ax, .int .i64 ay] 23)).alloc (.cells #[.int .i64 bx, .int .i64 b_y] 23)).alloc (.cells #[.int .i64 px, .int .i64 py] 23)), k.w.cell? ⟨w.heap.size, 0, none⟩ = some (.int .i64 ax) := fun k => (HS.out _ k.keeps).1
    have z1 : ∀ k : KW (((w.alloc (.cells #[.int .i64 ax, .int .i64 ay] 23)).alloc (.cells #[.int .i64 bx, .int .i64 b_y] 23)).alloc (.cells #[.int .i64 px, .int .i64 py] 23)), k.w.cell? ⟨w.heap.size, 1, none⟩ = some (.int .i64 ay) := fun k => (HS.out _ k.keeps).2.2.1
    have z2 : ∀ k : KW (((w.alloc (.cells #[.int .i64 ax, .int .i64 ay] 23)).alloc (.cells #[.int .i64 bx, .int .i64 b_y] 23)).alloc (.cells #[.int .i64 px, .int .i64 py] 23)), k.w.cell? ⟨w.heap.size + 1, 0, none⟩ = some (.int .i64 bx) := fun k => (HS.out _ k.keeps).2.2.2.2.1
    have z3 : ∀ k : KW (((w.alloc (.cells #[.int .i64 ax, .int .i64 ay] 23)).alloc (.cells #[.int .i64 bx, .int .i64 b_y] 23)).alloc (.cells #[.int .i64 px, .int .i64 py] 23)), k.w.cell? ⟨w.heap.size + 1, 1, none⟩ = some (.int .i64 b_y) := fun k => (HS.out _ k.keeps).2.2.2.2.2.2.1
    have z4 : ∀ k : KW (((w.alloc (.cells #[.int .i64 ax, .int .i64 ay] 23)).alloc (.cells #[.int .i64 bx, .int .i64 b_y] 23)).alloc (.cells #[.int .i64 px, .int .i64 py] 23)), k.w.cell? ⟨w.heap.size + 1 + 1, 0, none⟩ = some (.int .i64 px) := fun k => (HS.out _ k.keeps).2.2.2.2.2.2.2.2.1
    have z5 : ∀ k : KW (((w.alloc (.cells #[.int .i64 ax, .int .i64 ay] 23)).alloc (.cells #[.int .i64 bx, .int .i64 b_y] 23)).alloc (.cells #[.int .i64 px, .int .i64 py] 23)), k.w.cell? ⟨w.heap.size + 1 + 1, 1, none⟩ = some (.int .i64 py) := fun k => (HS.out _ k.keeps).2.2.2.2.2.2.2.2.2.2.1
    clear hv0
    cases v
    · refine wp_region_kept ((((w.alloc (.cells #[.int .i64 ax, .int .i64 ay] 23)).alloc (.cells #[.int .i64 bx, .int .i64 b_y] 23)).alloc (.cells #[.int .i64 px, .int .i64 py] 23))) (by kernel_rfl) (by kernel_rfl) (hk4) ?_
      repeat (first | go_big_quiet_skip | (go_big_quiet_want; go_big_quiet_op; first | go_big_quiet_on | go_big_quiet_call ((go_at_call 11; first | (with_reducible exact Q0.out _) | (with_reducible exact Q1.out _) | (with_reducible exact Q2.out _) | (with_reducible exact Q3.out _)))))
      refine wpQuiet_nil ?_
      rintro w' ⟨k9, rfl⟩
      have hk := k9.keeps
      generalize k9.w = w9 at hk ⊢
      clear k9
      go_wp2_with fail
      go_meet
      case rel => exact ⟨rfl, rfl, rfl, by assumption⟩
    · have t5 : (s != 0) = false := by have := hv.out rfl; subst this; rfl
      refine wp_region_kept ((((w.alloc (.cells #[.int .i64 ax, .int .i64 ay] 23)).alloc (.cells #[.int .i64 bx, .int .i64 b_y] 23)).alloc (.cells #[.int .i64 px, .int .i64 py] 23))) (by kernel_rfl) (by kernel_rfl) (hk4) ?_
      repeat (first | go_big_quiet_skip | (go_big_quiet_want; go_big_quiet_op; first | go_big_quiet_on | go_big_quiet_call ((go_at_call 11; first | (with_reducible exact Q0.out _) | (with_reducible exact Q1.out _) | (with_reducible exact Q2.out _) | (with_reducible exact Q3.out _)))))
      refine wpQuiet_nil ?_
      rintro w' ⟨k9, rfl⟩
      have hk := k9.keeps
      generalize k9.w = w9 at hk ⊢
      clear k9
      go_wp2_with fail
      go_meet
      case rel => exact ⟨rfl, rfl, rfl, by assumption⟩
  case rest =>
    obtain ⟨rfl, rfl, rfl, hk⟩ := hcut
    clear O0 O1 O2 O3 O4 P0 P1 P2 P3 hv t1 t2 t3 t4 y0 y1 y2 y3 y4 y5 y6 y7 y8 y9 y10 y11 hk0
    have hk0 := hk
    clear hk
    obtain ⟨y0, y1, y2, y3, y4, y5, y6, y7, y8, y9, y10, y11⟩ := HS.out _ hk0
    go_wp2
    have S0 := tmod_bd ax
    have S1 := tmod_bd ay
    have S2 := tmod_bd bx
    have S3 := tmod_bd b_y
    have S4 := tmod_bd px
    have S5 := tmod_bd py
    refine wp_region_steps (by kernel_rfl) (fun L a w' => ∃ (b0 b1 b2 b3 b4 b5 b6 b7 b8 b9 b10 b11 : Bool), L = #[b0, b1, b2, b3, b4, b5, b6, b7, b8, b9, b10, b11] ∧ ∃ (p0 p1 p2 : Nat), a = { tmps := #[.agg #[.int .i64 ax, .int .i64 ay], .agg #[.int .i64 bx, .int .i64 b_y], .agg #[.int .i64 px, .int .i64 py], .pointer (some ⟨w.heap.size, 0, none⟩), .pointer (some ⟨w.heap.size + 1, 0, none⟩), .pointer (some ⟨w.heap.size + 1 + 1, 0, none⟩), .bool false, .int .i64 s, if b6 then .pointer (some ⟨p0, 0, none⟩) else undef, if b7 then .pointer (some ⟨p1, 0, none⟩) else undef, if b8 then .pointer (some ⟨p2, 0, none⟩) else undef, u11, u12, u13, u14, u15, u16, u17, u18, u19, u20, u21, u22, u23, u24, u25, u26, u27, u28, u29, u30, u31, u32, u33, u34, u35, u36, u37, u38, u39, u40, u41, u42, u43, u44, u45, u46, u47, u48, u49, u50, u51, u52, u53, u54, u55, u56, u57, u58, u59, u60, u61, u62, u63, u64, u65, u66, u67, u68, u69, u70, u71, u72, u73, u74, u75, u76, u77, u78, u79, u80, u81, u82, u83, u84, u85, u86, .bool false, if b0 then .agg #[.int .i64 ax, .int .i64 ay] else undef, if b1 then .agg #[.int .i64 (ax.tmod 100000), .int .i64 (ay.tmod 100000)] else undef, if b2 then .agg #[.int .i64 bx, .int .i64 b_y] else undef, if b3 then .agg #[.int .i64 (bx.tmod 100000), .int .i64 (b_y.tmod 100000)] else undef, if b4 then .agg #[.int .i64 px, .int .i64 py] else undef, if b5 then .agg #[.int .i64 (px.tmod 100000), .int .i64 (py.tmod 100000)] else undef, undef, undef, undef, undef, undef, undef, undef, undef, undef, undef, undef, undef, undef, undef, undef, undef, undef, undef, undef, undef, undef, undef, undef, undef, undef, undef, undef, undef, undef, undef, undef, undef], defers := [] } ∧ Keeps (((w.alloc (.cells #[.int .i64 ax, .int .i64 ay] 23)).alloc (.cells #[.int .i64 bx, .int .i64 b_y] 23)).alloc (.cells #[.int .i64 px, .int .i64 py] 23)) w' ∧ Box2 b6 (w.heap.size + 1 + 1 + 1) p0 (.int .i64 (if b9 then (ax.tmod 100000) else 0)) (.int .i64 (if b9 then (ay.tmod 100000) else 0)) w' ∧ Box2 b7 (w.heap.size + 1 + 1 + 1) p1 (.int .i64 (if b10 then (bx.tmod 100000) else 0)) (.int .i64 (if b10 then (b_y.tmod 100000) else 0)) w' ∧ Box2 b8 (w.heap.size + 1 + 1 + 1) p2 (.int .i64 (if b11 then (px.tmod 100000) else 0)) (.int .i64 (if b11 then (py.tmod 100000) else 0)) w' ∧ (b6 = true → b7 = true → p0 ≠ p1) ∧ (b6 = true → b8 = true → p0 ≠ p2) ∧ (b7 = true → b8 = true → p1 ≠ p2) ∧ (b6 = false → b9 = false) ∧ (b7 = false → b10 = false) ∧ (b8 = false → b11 = false)) 12 (by kernel_rfl) ?_ ?_ ?_
    · exact ⟨false, false, false, false, false, false, false, false, false, false, false, false, rfl, 0, 0, 0, rfl, hk0.drew, Box2.none, Box2.none, Box2.none, (fun h => by cases h), (fun h => by cases h), (fun h => by cases h), (fun _ => rfl), (fun _ => rfl), (fun _ => rfl)⟩
    · refine (InvSteps.cons rfl ?_ (InvSteps.cons rfl ?_ (InvSteps.cons rfl ?_ (InvSteps.cons rfl ?_ (InvSteps.cons rfl ?_ (InvSteps.cons rfl ?_ (InvSteps.cons rfl ?_ (InvSteps.cons rfl ?_ (InvSteps.cons rfl ?_ (InvSteps.cons rfl ?_ (InvSteps.cons rfl ?_ (InvSteps.cons rfl ?_ InvSteps.nil))))))))))))
      all_goals rintro L a w' ⟨b0, b1, b2, b3, b4, b5, b6, b7, b8, b9, b10, b11, rfl, p0, p1, p2, rfl, hk, HA0, HA1, HA2, D0_1, D0_2, D1_2, Z0, Z1, Z2⟩ hl hd K hK
      all_goals (simp [Region.binds] at hl hd; simp only [List.getElem_toArray, List.getElem_cons_zero, List.getElem_cons_succ])
      · subst hl; (repeat (rcases hd with ⟨hq, hd⟩; first | subst hq | clear hq)); (first | subst hd | clear hd | skip)
        obtain ⟨y0, y1, y2, y3, y4, y5, y6, y7, y8, y9, y10, y11⟩ := HS.out _ hk
        go_simp
        exact hK.out _ _ ⟨true, _, _, _, _, _, _, _, _, _, _, _, rfl, p0, p1, p2, rfl, hk, HA0, HA1, HA2, D0_1, D0_2, D1_2, Z0, Z1, Z2⟩
      · subst hl; (repeat (rcases hd with ⟨hq, hd⟩; first | subst hq | clear hq)); (first | subst hd | clear hd | skip)
        go_simp
        go_at_call 18
        refine (small_any _ _ _).mono ?_; rintro e w1 ⟨rfl, hk1⟩
        exact hK.out _ _ ⟨_, true, _, _, _, _, _, _, _, _, _, _, rfl, p0, p1, p2, rfl, hk.trans hk1, HA0.keeps hk1, HA1.keeps hk1, HA2.keeps hk1, D0_1, D0_2, D1_2, Z0, Z1, Z2⟩
      · subst hl; (repeat (rcases hd with ⟨hq, hd⟩; first | subst hq | clear hq)); (first | subst hd | clear hd | skip)
        obtain ⟨y0, y1, y2, y3, y4, y5, y6, y7, y8, y9, y10, y11⟩ := HS.out _ hk
        go_simp
        exact hK.out _ _ ⟨_, _, true, _, _, _, _, _, _, _, _, _, rfl, p0, p1, p2, rfl, hk, HA0, HA1, HA2, D0_1, D0_2, D1_2, Z0, Z1, Z2⟩
      · subst hl; (repeat (rcases hd with ⟨hq, hd⟩; first | subst hq | clear hq)); (first | subst hd | clear hd | skip)
        go_simp
        go_at_call 18
        refine (small_any _ _ _).mono ?_; rintro e w1 ⟨rfl, hk1⟩
        exact hK.out _ _ ⟨_, _, _, true, _, _, _, _, _, _, _, _, rfl, p0, p1, p2, rfl, hk.trans hk1, HA0.keeps hk1, HA1.keeps hk1, HA2.keeps hk1, D0_1, D0_2, D1_2, Z0, Z1, Z2⟩
      · subst hl; (repeat (rcases hd with ⟨hq, hd⟩; first | subst hq | clear hq)); (first | subst hd | clear hd | skip)
        obtain ⟨y0, y1, y2, y3, y4, y5, y6, y7, y8, y9, y10, y11⟩ := HS.out _ hk
        go_simp
        exact hK.out _ _ ⟨_, _, _, _, true, _, _, _, _, _, _, _, rfl, p0, p1, p2, rfl, hk, HA0, HA1, HA2, D0_1, D0_2, D1_2, Z0, Z1, Z2⟩
      · subst hl; (repeat (rcases hd with ⟨hq, hd⟩; first | subst hq | clear hq)); (first | subst hd | clear hd | skip)
        go_simp
        go_at_call 18
        refine (small_any _ _ _).mono ?_; rintro e w1 ⟨rfl, hk1⟩
        exact hK.out _ _ ⟨_, _, _, _, _, true, _, _, _, _, _, _, rfl, p0, p1, p2, rfl, hk.trans hk1, HA0.keeps hk1, HA1.keeps hk1, HA2.keeps hk1, D0_1, D0_2, D1_2, Z0, Z1, Z2⟩
      · subst hl; obtain rfl := Z0 rfl
        have hs := hk.size; simp at hs
        go_simp
        exact hK.out _ _ ⟨_, _, _, _, _, _, true, _, _, _, _, _, rfl, w'.heap.size, p1, p2, rfl, hk.alloc _, Box2.new (by omega), HA1.keeps ((Keeps.refl _).alloc _), HA2.keeps ((Keeps.refl _).alloc _), (fun _ h => (HA1.ne h).symm), (fun _ h => (HA2.ne h).symm), D1_2, (fun h => by cases h), Z1, Z2⟩
      · subst hl; obtain rfl := Z1 rfl
        have hs := hk.size; simp at hs
        go_simp
        exact hK.out _ _ ⟨_, _, _, _, _, _, _, true, _, _, _, _, rfl, p0, w'.heap.size, p2, rfl, hk.alloc _, HA0.keeps ((Keeps.refl _).alloc _), Box2.new (by omega), HA2.keeps ((Keeps.refl _).alloc _), (fun h _ => HA0.ne h), D0_2, (fun _ h => (HA2.ne h).symm), Z0, (fun h => by cases h), Z2⟩
      · subst hl; obtain rfl := Z2 rfl
        have hs := hk.size; simp at hs
        go_simp
        exact hK.out _ _ ⟨_, _, _, _, _, _, _, _, true, _, _, _, rfl, p0, p1, w'.heap.size, rfl, hk.alloc _, HA0.keeps ((Keeps.refl _).alloc _), HA1.keeps ((Keeps.refl _).alloc _), Box2.new (by omega), D0_1, (fun h _ => HA0.ne h), (fun h _ => HA1.ne h), Z0, Z1, (fun h => by cases h)⟩
      · subst hl; (repeat (rcases hd with ⟨hq, hd⟩; first | subst hq | clear hq)); (first | subst hd | clear hd | skip)
        obtain ⟨q1, q2, q3, q4, q5, q6⟩ := HA0 rfl
        have hs := hk.size; simp at hs
        go_simp
        exact hK.out _ _ ⟨_, _, _, _, _, _, _, _, _, true, _, _, rfl, p0, p1, p2, rfl, hk.set2 (by simp; omega) _ _, HA0.at, HA1.far (fun h e => D0_1 rfl h e.symm), HA2.far (fun h e => D0_2 rfl h e.symm), D0_1, D0_2, D1_2, (fun h => by cases h), Z1, Z2⟩
      · subst hl; (repeat (rcases hd with ⟨hq, hd⟩; first | subst hq | clear hq)); (first | subst hd | clear hd | skip)
        obtain ⟨q1, q2, q3, q4, q5, q6⟩ := HA1 rfl
        have hs := hk.size; simp at hs
        go_simp
        exact hK.out _ _ ⟨_, _, _, _, _, _, _, _, _, _, true, _, rfl, p0, p1, p2, rfl, hk.set2 (by simp; omega) _ _, HA0.far (fun h => D0_1 h rfl), HA1.at, HA2.far (fun h e => D1_2 rfl h e.symm), D0_1, D0_2, D1_2, Z0, (fun h => by cases h), Z2⟩
      · subst hl; (repeat (rcases hd with ⟨hq, hd⟩; first | subst hq | clear hq)); (first | subst hd | clear hd | skip)
        obtain ⟨q1, q2, q3, q4, q5, q6⟩ := HA2 rfl
        have hs := hk.size; simp at hs
        go_simp
        exact hK.out _ _ ⟨_, _, _, _, _, _, _, _, _, _, _, true, rfl, p0, p1, p2, rfl, hk.set2 (by simp; omega) _ _, HA0.far (fun h => D0_2 h rfl), HA1.far (fun h => D1_2 h rfl), HA2.at, D0_1, D0_2, D1_2, Z0, Z1, (fun h => by cases h)⟩
    · rintro L a w' ⟨b0, b1, b2, b3, b4, b5, b6, b7, b8, b9, b10, b11, rfl, p0, p1, p2, rfl, hk, HA0, HA1, HA2, D0_1, D0_2, D1_2, Z0, Z1, Z2⟩ hr
      have c := ready_nil hr 0 rfl (by simp [Region.binds]); simp at c; subst c
      have c := ready_nil hr 1 rfl (by simp [Region.binds]); simp at c; subst c
      have c := ready_nil hr 2 rfl (by simp [Region.binds]); simp at c; subst c
      have c := ready_nil hr 3 rfl (by simp [Region.binds]); simp at c; subst c
      have c := ready_nil hr 4 rfl (by simp [Region.binds]); simp at c; subst c
      have c := ready_nil hr 5 rfl (by simp [Region.binds]); simp at c; subst c
      have c := ready_nil hr 6 rfl (by simp [Region.binds]); simp at c; subst c
      have c := ready_nil hr 7 rfl (by simp [Region.binds]); simp at c; subst c
      have c := ready_nil hr 8 rfl (by simp [Region.binds]); simp at c; subst c
      have c := ready_nil hr 9 rfl (by simp [Region.binds]); simp at c; subst c
      have c := ready_nil hr 10 rfl (by simp [Region.binds]); simp at c; subst c
      have c := ready_nil hr 11 rfl (by simp [Region.binds]); simp at c; subst c
      clear hr Z0 Z1 Z2
      obtain ⟨q0_1, q0_2, q0_3, q0_4, q0_5, q0_6⟩ := HA0 rfl
      simp only [if_true] at q0_3 q0_4
      have HB0 := Lib.hid HA0; clear HA0; simp only [if_true] at HB0
      obtain ⟨q1_1, q1_2, q1_3, q1_4, q1_5, q1_6⟩ := HA1 rfl
      simp only [if_true] at q1_3 q1_4
      have HB1 := Lib.hid HA1; clear HA1; simp only [if_true] at HB1
      obtain ⟨q2_1, q2_2, q2_3, q2_4, q2_5, q2_6⟩ := HA2 rfl
      simp only [if_true] at q2_3 q2_4
      have HB2 := Lib.hid HA2; clear HA2; simp only [if_true] at HB2
      have D0_1 := D0_1 rfl rfl
      have D0_2 := D0_2 rfl rfl
      have D1_2 := D1_2 rfl rfl
      simp only [if_true]
      obtain ⟨y0, y1, y2, y3, y4, y5, y6, y7, y8, y9, y10, y11⟩ := HS.out _ hk
      have hj := Keeps.trans HB.out hk
      generalize ax.tmod 100000 = m1 at *
      generalize ay.tmod 100000 = m2 at *
      generalize bx.tmod 100000 = n1 at *
      generalize b_y.tmod 100000 = n2 at *
      generalize px.tmod 100000 = o1 at *
      generalize py.tmod 100000 = o2 at *
      have b0 : ∀ k : KW w', k.w.cell? ⟨p0, 0, none⟩ = some (.int .i64 m1) := fun k => ((HB0.out.keeps k.keeps) rfl).2.2.1
      have b1 : ∀ k : KW w', k.w.cell? ⟨p0, 1, none⟩ = some (.int .i64 m2) := fun k => ((HB0.out.keeps k.keeps) rfl).2.2.2.1
      have b2 : ∀ k : KW w', k.w.cell? ⟨p1, 0, none⟩ = some (.int .i64 n1) := fun k => ((HB1.out.keeps k.keeps) rfl).2.2.1
      have b3 : ∀ k : KW w', k.w.cell? ⟨p1, 1, none⟩ = some (.int .i64 n2) := fun k => ((HB1.out.keeps k.keeps) rfl).2.2.2.1
      have b4 : ∀ k : KW w', k.w.cell? ⟨p2, 0, none⟩ = some (.int .i64 o1) := fun k => ((HB2.out.keeps k.keeps) rfl).2.2.1
      have b5 : ∀ k : KW w', k.w.cell? ⟨p2, 1, none⟩ = some (.int .i64 o2) := fun k => ((HB2.out.keeps k.keeps) rfl).2.2.2.1
      have A1 := Lib.hid (fun k : KW w' => keepq (add_any m1 m2 o1 o2 k.w))
      have A2 := Lib.hid (fun k : KW w' => keepq (add_any n1 n2 o1 o2 k.w))
      have A3 := Lib.hid (fun k : KW w' => keepq (add_any o1 o2 o1 o2 k.w))
      have R1 := Lib.hid (fun k : KW w' => keepq (orientation_any (hc m1 + hc o1) (hc m2 + hc o2) (hc n1 + hc o1) (hc n2 + hc o2) (hc o1 + hc o1) (hc o2 + hc o2) k.w))
      have R2 := Lib.hid (fun k : KW w' => keepq (orientation_any m1 m2 n1 n2 o1 o2 k.w))
      have T1 := Lib.hid (fun k : KW w' => keepq (perp_any m1 m2 k.w))
      have T2 := Lib.hid (fun k : KW w' => keepq (perp_any n1 n2 k.w))
      have T3 := Lib.hid (fun k : KW w' => keepq (perp_any o1 o2 k.w))
      have R3 := Lib.hid (fun k : KW w' => keepq (orientation_any (-hc m2) (hc m1) (-hc n2) (hc n1) (-hc o2) (hc o1) k.w))
      have EX := Lib.hid (fun k : KW w' => keepq (example11 k.w k.w (Keeps.refl _)))
      rw [ori_shift m1 m2 n1 n2 o1 o2 o1 o2 S0.1 S0.2 S1.1 S1.2 S2.1 S2.2 S3.1 S3.2 S4.1 S4.2 S5.1 S5.2 S4.1 S4.2 S5.1 S5.2] at R1
      rw [ori_perp] at R3
      generalize oriI m1 m2 n1 n2 o1 o2 = T at *
      have t1 : (T == T) = true := beq_self_eq_true T
      have hkW := Keeps.refl w'
      have hj' := Lib.hid hj
      clear hk hj HB0 HB1 HB2 D0_1 D0_2 D1_2 y0 y1 y2 y3 y4 y5 y6 y7 y8 y9 y10 y11
      go_wp2_with fail
      refine wp_region_kept (w') (by kernel_rfl) (by kernel_rfl) (hkW) ?_
      repeat (first | go_big_quiet_skip | (go_big_quiet_want; go_big_quiet_op; first | go_big_quiet_on | go_big_quiet_call ((first | (go_at_call 19; first | (with_reducible exact A1.out _) | (with_reducible exact A2.out _) | (with_reducible exact A3.out _)) | (go_at_call 9; first | (with_reducible exact R1.out _) | (with_reducible exact R2.out _) | (with_reducible exact R3.out _)) | (go_at_call 20; first | (with_reducible exact T1.out _) | (with_reducible exact T2.out _) | (with_reducible exact T3.out _)) | (go_at_call 13; first | (with_reducible exact EX.out _))))))
      refine wpQuiet_nil ?_
      rintro w' ⟨k9, rfl⟩
      have hk := k9.keeps
      generalize k9.w = w9 at hk ⊢
      clear k9
      go_wp2_with fail
      go_ret
      exact ⟨rfl, hj'.out.trans hk⟩

set_option maxRecDepth 100000 in
theorem lifted (os : Os) (started : os.Started) (H : Type) (enc : TypeId × Value → H) :
    ReturnsInHanded {} Try.checked os 6 .any (Rows.vecOrientationSpec.pre6 enc Try.prog Try.f6 Rows.vecOrientationRow.domain false) (Rows.vecOrientationSpec.post enc Try.prog Try.f6 false true false false) := by
  refine returnsInHanded_of_change (C := Try.checked) Try.own started (by kernel_rfl) Try.func6
    (ChangeSpec.witness6 (enc := enc) (C := Try.checked) false ⟨#[], #[.agg #[.int .i64 0, .int .i64 0], .agg #[.int .i64 0, .int .i64 0], .agg #[.int .i64 0, .int .i64 0]], []⟩ 8 (by kernel_rfl) (by kernel_rfl) (by kernel_rfl) (by kernel_rfl)) ?_
  intro W base args ds gs before hval0 hW hcnd _
  have hval : ∀ (j : Nat) t v, Try.f6.params[j]? = some t → args[j]? = some v → Value.okWide Try.prog W .any base t v := hval0
  have hW' := hW
  obtain ⟨p, q, hA0, hV, rfl, hfz, hnd⟩ := hW
  have hA : DataW.TrodAll enc Try.prog W 0 (fun _ => true) true Try.f6.params.toList args.toList ds p := hA0
  have hAll := hA
  rw [Try.params6] at hA hval
  obtain ⟨v0, vs0, d0, ds0, p0, q0, hargs, rfl, rfl, h0, r0⟩ := trodAll_cons hA
  obtain ⟨v1, vs1, d1, ds1, p1, q1, rfl, rfl, rfl, h1, r1⟩ := trodAll_cons r0
  obtain ⟨v2, vs2, d2, ds2, p2, q2, rfl, rfl, rfl, h2, r2⟩ := trodAll_cons r1
  obtain ⟨rfl, rfl, rfl⟩ := trodAll_nil r2
  obtain rfl : args = #[v0, v1, v2] := by cases args; simp_all
  obtain ⟨rfl, rfl⟩ := trodVars_none hV
  obtain ⟨c0, rfl, L0_0⟩ := open_flat (ks := [some .i64, some .i64]) (by kernel_rfl) (by kernel_rfl) (hval 0 23 v0 rfl rfl) h0
  obtain ⟨_, c0_0, rfl, ⟨a0_0, rfl, w0_0⟩, L0_1⟩ := leafs_cons L0_0
  obtain ⟨l0_0, u0_0⟩ := bounds_i64 w0_0
  obtain ⟨_, c0_1, rfl, ⟨a0_1, rfl, w0_1⟩, L0_2⟩ := leafs_cons L0_1
  obtain ⟨l0_1, u0_1⟩ := bounds_i64 w0_1
  obtain rfl := leafs_nil L0_2
  obtain ⟨c1, rfl, L1_0⟩ := open_flat (ks := [some .i64, some .i64]) (by kernel_rfl) (by kernel_rfl) (hval 1 23 v1 rfl rfl) h1
  obtain ⟨_, c1_0, rfl, ⟨a1_0, rfl, w1_0⟩, L1_1⟩ := leafs_cons L1_0
  obtain ⟨l1_0, u1_0⟩ := bounds_i64 w1_0
  obtain ⟨_, c1_1, rfl, ⟨a1_1, rfl, w1_1⟩, L1_2⟩ := leafs_cons L1_1
  obtain ⟨l1_1, u1_1⟩ := bounds_i64 w1_1
  obtain rfl := leafs_nil L1_2
  obtain ⟨c2, rfl, L2_0⟩ := open_flat (ks := [some .i64, some .i64]) (by kernel_rfl) (by kernel_rfl) (hval 2 23 v2 rfl rfl) h2
  obtain ⟨_, c2_0, rfl, ⟨a2_0, rfl, w2_0⟩, L2_1⟩ := leafs_cons L2_0
  obtain ⟨l2_0, u2_0⟩ := bounds_i64 w2_0
  obtain ⟨_, c2_1, rfl, ⟨a2_1, rfl, w2_1⟩, L2_2⟩ := leafs_cons L2_1
  obtain ⟨l2_1, u2_1⟩ := bounds_i64 w2_1
  obtain rfl := leafs_nil L2_2
  clear hA0 hval0
  refine (walk a0_0 a0_1 a1_0 a1_1 a2_0 a2_1 W l0_0 u0_0 l0_1 u0_1 l1_0 u1_0 l1_1 u1_1 l2_0 u2_0 l2_1 u2_1).mono fun e W' ⟨he, bel⟩ => ?_
  subst he
  exact ⟨_, rfl, _, _, _, [], _, [], hW', trodAll_mk1 (shut_bool Try.underlying4 _), below_trodAll Try.laidOut bel (reads_of (by kernel_rfl)) hAll, rfl, bel.frame _, fun h => by cases h⟩

theorem over : Rows.vecOrientationRow.holds Try.pinned (OpenSpec.ofChange Rows.vecOrientationSpec) :=
  OpenClaim.holds_of_wide 6 Try.f6 rfl rfl rfl rfl rfl rfl rfl ⟨rfl, rfl, rfl, rfl, rfl⟩ rfl rfl rfl rfl rfl (by kernel_rfl) Try.func6 (by kernel_rfl)
    (of_decide_eq_true (by kernel_rfl)) (by unfold Func.isWrapper; first | (rw [if_pos (by decide +kernel)]; kernel_rfl) | (rw [if_neg (by decide +kernel)]; exact ⟨rfl, rfl⟩))
    (fun os started H enc _ => lifted os started H enc)

/-- The statement. -/
theorem proved : Rows.VecOrientationSaid := over
#print axioms proved
end Go.Proofs.Ytpmhmaiagjdpeaa.vecOrientation
