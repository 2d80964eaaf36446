/- ColorLerpColor of grisaillelaw27 returns true for all its arguments: every two colors and every two ints; no condition. -/
import Derived.Test.YtjfimlcljbdglaaE27
import Derived.Test.YtjfimlcljbdglaaCm
import Derived.Test.YtjfimlcljbdglaaOp
import Derived.Test.YtjfimlcljbdglaaKk
namespace Go.Proofs.Ytjfimlcljbdglaa.colorLerpColor
open Go.RowKit Go.ChangeShapes Go.WideShapes Go.ChangeAt
set_option linter.unusedVariables false
open Go.Proofs.Ytjfimlcljbdglaa
set_option maxRecDepth 100000 in
set_option maxHeartbeats 2000000 in
theorem walk (p q r t x y z v n d : Int) (w : World) (l0 : 0 ≤ p) (u0 : p ≤ 255) (l1 : 0 ≤ q) (u1 : q ≤ 255) (l2 : 0 ≤ r) (u2 : r ≤ 255) (l3 : 0 ≤ t) (u3 : t ≤ 255) (m0 : 0 ≤ x) (n0 : x ≤ 255) (m1 : 0 ≤ y) (n1 : y ≤ 255) (m2 : 0 ≤ z) (n2 : z ≤ 255) (m3 : 0 ≤ v) (n3 : v ≤ 255) (ln : -9223372036854775808 ≤ n) (un : n ≤ 9223372036854775807) (ld : -9223372036854775808 ≤ d) (ud : d ≤ 9223372036854775807) :
    Calls Try.prog 7 #[.agg #[.int .u8 p, .int .u8 q, .int .u8 r, .int .u8 t], .agg #[.int .u8 x, .int .u8 y, .int .u8 z, .int .u8 v], .agg #[.int .i64 n, .int .i64 d]] w fun e w' => e = .returned (.bool true) ∧ Below w.heap.size w w' := by
  have g3 := coGuard
  have g4 := coEql
  have q1 := eq4_refl p q r t
  have q2 := eq4_refl x y z v
  have HS := Lib.hid (show ∀ w', Keeps (((w.alloc (.cells #[.int .u8 p, .int .u8 q, .int .u8 r, .int .u8 t] 23)).alloc (.cells #[.int .u8 x, .int .u8 y, .int .u8 z, .int .u8 v] 23)).alloc (.cells #[.int .i64 n, .int .i64 d] 39)) w' → w'.cell? ⟨w.heap.size, 0, none⟩ = some (.int .u8 p) ∧ w'.frozen? ⟨w.heap.size, 0, none⟩ = false ∧ w'.cell? ⟨w.heap.size, 1, none⟩ = some (.int .u8 q) ∧ w'.frozen? ⟨w.heap.size, 1, none⟩ = false ∧ w'.cell? ⟨w.heap.size, 2, none⟩ = some (.int .u8 r) ∧ w'.frozen? ⟨w.heap.size, 2, none⟩ = false ∧ w'.cell? ⟨w.heap.size, 3, none⟩ = some (.int .u8 t) ∧ w'.frozen? ⟨w.heap.size, 3, none⟩ = false ∧ w'.cell? ⟨w.heap.size + 1, 0, none⟩ = some (.int .u8 x) ∧ w'.frozen? ⟨w.heap.size + 1, 0, none⟩ = false ∧ w'.cell? ⟨w.heap.size + 1, 1, none⟩ = some (.int .u8 y) ∧ w'.frozen? ⟨w.heap.size + 1, 1, none⟩ = false ∧ w'.cell? ⟨w.heap.size + 1, 2, none⟩ = some (.int .u8 z) ∧ w'.frozen? ⟨w.heap.size + 1, 2, none⟩ = false ∧ w'.cell? ⟨w.heap.size + 1, 3, none⟩ = some (.int .u8 v) ∧ w'.frozen? ⟨w.heap.size + 1, 3, none⟩ = false ∧ w'.cell? ⟨w.heap.size + 1 + 1, 0, none⟩ = some (.int .i64 n) ∧ w'.frozen? ⟨w.heap.size + 1 + 1, 0, none⟩ = false ∧ w'.cell? ⟨w.heap.size + 1 + 1, 1, none⟩ = some (.int .i64 d) ∧ w'.frozen? ⟨w.heap.size + 1 + 1, 1, none⟩ = false from fun w' hk => ⟨(hk.cell (p := ⟨w.heap.size, 0, none⟩) (by first | (simp; done) | (simp; omega))).trans (by simp [go_sem]), (hk.frozen (p := ⟨w.heap.size, 0, none⟩) (by first | (simp; done) | (simp; omega))).trans (by simp [go_sem]), (hk.cell (p := ⟨w.heap.size, 1, none⟩) (by first | (simp; done) | (simp; omega))).trans (by simp [go_sem]), (hk.frozen (p := ⟨w.heap.size, 1, none⟩) (by first | (simp; done) | (simp; omega))).trans (by simp [go_sem]), (hk.cell (p := ⟨w.heap.size, 2, none⟩) (by first | (simp; done) | (simp; omega))).trans (by simp [go_sem]), (hk.frozen (p := ⟨w.heap.size, 2, none⟩) (by first | (simp; done) | (simp; omega))).trans (by simp [go_sem]), (hk.cell (p := ⟨w.heap.size, 3, none⟩) (by first | (simp; done) | (simp; omega))).trans (by simp [go_sem]), (hk.frozen (p := ⟨w.heap.size, 3, none⟩) (by first | (simp; done) | (simp; omega))).trans (by simp [go_sem]), (hk.cell (p := ⟨w.heap.size + 1, 0, none⟩) (by first | (simp; done) | (simp; omega))).trans (by simp [go_sem]), (hk.frozen (p := ⟨w.heap.size + 1, 0, none⟩) (by first | (simp; done) | (simp; omega))).trans (by simp [go_sem]), (hk.cell (p := ⟨w.heap.size + 1, 1, none⟩) (by first | (simp; done) | (simp; omega))).trans (by simp [go_sem]), (hk.frozen (p := ⟨w.heap.size + 1, 1, none⟩) (by first | (simp; done) | (simp; omega))).trans (by simp [go_sem]), (hk.cell (p := ⟨w.heap.size + 1, 2, none⟩) (by first | (simp; done) | (simp; omega))).trans (by simp [go_sem]), (hk.frozen (p := ⟨w.heap.size + 1, 2, none⟩) (by first | (simp; done) | (simp; omega))).trans (by simp [go_sem]), (hk.cell (p := ⟨w.heap.size + 1, 3, none⟩) (by first | (simp; done) | (simp; omega))).trans (by simp [go_sem]), (hk.frozen (p := ⟨w.heap.size + 1, 3, none⟩) (by first | (simp; done) | (simp; omega))).trans (by simp [go_sem]), (hk.cell (p := ⟨w.heap.size + 1 + 1, 0, none⟩) (by first | (simp; done) | (simp; omega))).trans (by simp [go_sem]), (hk.frozen (p := ⟨w.heap.size + 1 + 1, 0, none⟩) (by first | (simp; done) | (simp; omega))).trans (by simp [go_sem]), (hk.cell (p := ⟨w.heap.size + 1 + 1, 1, none⟩) (by first | (simp; done) | (simp; omega))).trans (by simp [go_sem]), (hk.frozen (p := ⟨w.heap.size + 1 + 1, 1, none⟩) (by first | (simp; done) | (simp; omega))).trans (by simp [go_sem])⟩)
  have HB := Lib.hid (show Keeps w (((w.alloc (.cells #[.int .u8 p, .int .u8 q, .int .u8 r, .int .u8 t] 23)).alloc (.cells #[.int .u8 x, .int .u8 y, .int .u8 z, .int .u8 v] 23)).alloc (.cells #[.int .i64 n, .int .i64 d] 39)) from (by (repeat (first | (with_reducible exact Keeps.refl _) | (with_reducible assumption) | (with_reducible refine Keeps.drewN ?_ _) | (with_reducible refine Keeps.drew ?_) | (with_reducible refine Keeps.alloc ?_ _) | (with_reducible refine Keeps.setNew ?_ ?_ _))) <;> (dsimp only; omega)))
  have hk0 := Keeps.refl (((w.alloc (.cells #[.int .u8 p, .int .u8 q, .int .u8 r, .int .u8 t] 23)).alloc (.cells #[.int .u8 x, .int .u8 y, .int .u8 z, .int .u8 v] 23)).alloc (.cells #[.int .i64 n, .int .i64 d] 39))
  have z0 : ∀ k : KW (((w.alloc (.cells #[.int .u8 p, .int .u8 q, .int .u8 r, .int .u8 t] 23)).alloc (.cells #[.int .u8 x, .int .u8 y, .int .u8 z, .int .u8 v] 23)).alloc (.cells #[.int .i64 n, .int .i64 d] 39)), k.w.cell? ⟨w.heap.size, 0, none⟩ = some (.int .u8 p) := fun k => (HS.out _ k.keeps).1
  have z1 : ∀ k : KW (((w.alloc (.cells #[.int .u8 p, .int .u8 q, .int .u8 r, .int .u8 t] 23)).alloc (.cells #[.int .u8 x, .int .u8 y, .int .u8 z, .int .u8 v] 23)).alloc (.cells #[.int .i64 n, .int .i64 d] 39)), k.w.cell? ⟨w.heap.size, 1, none⟩ = some (.int .u8 q) := fun k => (HS.out _ k.keeps).2.2.1
  have z2 : ∀ k : KW (((w.alloc (.cells #[.int .u8 p, .int .u8 q, .int .u8 r, .int .u8 t] 23)).alloc (.cells #[.int .u8 x, .int .u8 y, .int .u8 z, .int .u8 v] 23)).alloc (.cells #[.int .i64 n, .int .i64 d] 39)), k.w.cell? ⟨w.heap.size, 2, none⟩ = some (.int .u8 r) := fun k => (HS.out _ k.keeps).2.2.2.2.1
  have z3 : ∀ k : KW (((w.alloc (.cells #[.int .u8 p, .int .u8 q, .int .u8 r, .int .u8 t] 23)).alloc (.cells #[.int .u8 x, .int .u8 y, .int .u8 z, .int .u8 v] 23)).alloc (.cells #[.int .i64 n, .int .i64 d] 39)), k.w.cell? ⟨w.heap.size, 3, none⟩ = some (.int .u8 t) := fun k => (HS.out _ k.keeps).2.2.2.2.2.2.1
  have z4 : ∀ k : KW (((w.alloc (.cells #[.int .u8 p, .int .u8 q, .int .u8 r, .int .u8 t] 23)).alloc (.cells #[.int .u8 x, .int .u8 y, .int .u8 z, .int .u8 v] 23)).alloc (.cells #[.int .i64 n, .int .i64 d] 39)), k.w.cell? ⟨w.heap.size + 1, 0, none⟩ = some (.int .u8 x) := fun k => (HS.out _ k.keeps).2.2.2.2.2.2.2.2.1
  have z5 : ∀ k : KW (((w.alloc (.cells #[.int .u8 p, .int .u8 q, .int .u8 r, .int .u8 t] 23)).alloc (.cells #[.int .u8 x, .int .u8 y, .int .u8 z, .int .u8 v] 23)).alloc (.cells #[.int .i64 n, .int .i64 d] 39)), k.w.cell? ⟨w.heap.size + 1, 1, none⟩ = some (.int .u8 y) := fun k => (HS.out _ k.keeps).2.2.2.2.2.2.2.2.2.2.1
  have z6 : ∀ k : KW (((w.alloc (.cells #[.int .u8 p, .int .u8 q, .int .u8 r, .int .u8 t] 23)).alloc (.cells #[.int .u8 x, .int .u8 y, .int .u8 z, .int .u8 v] 23)).alloc (.cells #[.int .i64 n, .int .i64 d] 39)), k.w.cell? ⟨w.heap.size + 1, 2, none⟩ = some (.int .u8 z) := fun k => (HS.out _ k.keeps).2.2.2.2.2.2.2.2.2.2.2.2.1
  have z7 : ∀ k : KW (((w.alloc (.cells #[.int .u8 p, .int .u8 q, .int .u8 r, .int .u8 t] 23)).alloc (.cells #[.int .u8 x, .int .u8 y, .int .u8 z, .int .u8 v] 23)).alloc (.cells #[.int .i64 n, .int .i64 d] 39)), k.w.cell? ⟨w.heap.size + 1, 3, none⟩ = some (.int .u8 v) := fun k => (HS.out _ k.keeps).2.2.2.2.2.2.2.2.2.2.2.2.2.2.1
  have z8 : ∀ k : KW (((w.alloc (.cells #[.int .u8 p, .int .u8 q, .int .u8 r, .int .u8 t] 23)).alloc (.cells #[.int .u8 x, .int .u8 y, .int .u8 z, .int .u8 v] 23)).alloc (.cells #[.int .i64 n, .int .i64 d] 39)), k.w.cell? ⟨w.heap.size + 1 + 1, 0, none⟩ = some (.int .i64 n) := fun k => (HS.out _ k.keeps).2.2.2.2.2.2.2.2.2.2.2.2.2.2.2.2.1
  have z9 : ∀ k : KW (((w.alloc (.cells #[.int .u8 p, .int .u8 q, .int .u8 r, .int .u8 t] 23)).alloc (.cells #[.int .u8 x, .int .u8 y, .int .u8 z, .int .u8 v] 23)).alloc (.cells #[.int .i64 n, .int .i64 d] 39)), k.w.cell? ⟨w.heap.size + 1 + 1, 1, none⟩ = some (.int .i64 d) := fun k => (HS.out _ k.keeps).2.2.2.2.2.2.2.2.2.2.2.2.2.2.2.2.2.2.1
  by_cases hd : d < 1 ∨ 1099511627776 < d
  · have G1 := fun w => lercol_no p q r t x y z v n d w hd
    have G2 := fun w => rlercol_no p q r t x y z v n d w hd
    have K1 := Lib.hid (fun k : KW (((w.alloc (.cells #[.int .u8 p, .int .u8 q, .int .u8 r, .int .u8 t] 23)).alloc (.cells #[.int .u8 x, .int .u8 y, .int .u8 z, .int .u8 v] 23)).alloc (.cells #[.int .i64 n, .int .i64 d] 39)) => keepq (G1 k.w))
    have K2 := Lib.hid (fun k : KW (((w.alloc (.cells #[.int .u8 p, .int .u8 q, .int .u8 r, .int .u8 t] 23)).alloc (.cells #[.int .u8 x, .int .u8 y, .int .u8 z, .int .u8 v] 23)).alloc (.cells #[.int .i64 n, .int .i64 d] 39)) => keepq (G2 k.w))
    have K9 := Lib.hid (fun k : KW (((w.alloc (.cells #[.int .u8 p, .int .u8 q, .int .u8 r, .int .u8 t] 23)).alloc (.cells #[.int .u8 x, .int .u8 y, .int .u8 z, .int .u8 v] 23)).alloc (.cells #[.int .i64 n, .int .i64 d] 39)) => keepq (example27_any k.w))
    clear G1 G2
    rcases hd with hd | hd
    · go_enter Try.func7, Try.ntmps7
      go_wp2_with fail
      refine wp_region_kept ((((w.alloc (.cells #[.int .u8 p, .int .u8 q, .int .u8 r, .int .u8 t] 23)).alloc (.cells #[.int .u8 x, .int .u8 y, .int .u8 z, .int .u8 v] 23)).alloc (.cells #[.int .i64 n, .int .i64 d] 39))) (by kernel_rfl) (by kernel_rfl) (hk0) ?_
      repeat (first | go_big_quiet_skip | (go_big_quiet_want; go_big_quiet_op; first | go_big_quiet_on | go_big_quiet_call (fail)))
      refine wpQuiet_nil ?_
      rintro w' ⟨k9, rfl⟩
      have hk := k9.keeps
      generalize k9.w = w9 at hk ⊢
      clear k9
      go_wp2_with fail
      refine wp_region_kept ((((w.alloc (.cells #[.int .u8 p, .int .u8 q, .int .u8 r, .int .u8 t] 23)).alloc (.cells #[.int .u8 x, .int .u8 y, .int .u8 z, .int .u8 v] 23)).alloc (.cells #[.int .i64 n, .int .i64 d] 39))) (by kernel_rfl) (by kernel_rfl) (hk) ?_
      repeat (first | go_big_quiet_skip | (go_big_quiet_want; go_big_quiet_op; first | go_big_quiet_on | go_big_quiet_call (fail)))
      refine wpQuiet_nil ?_
      rintro w' ⟨k9, rfl⟩
      have hk := k9.keeps
      generalize k9.w = w9 at hk ⊢
      clear k9
      go_wp2_with fail
      refine wp_region_kept ((((w.alloc (.cells #[.int .u8 p, .int .u8 q, .int .u8 r, .int .u8 t] 23)).alloc (.cells #[.int .u8 x, .int .u8 y, .int .u8 z, .int .u8 v] 23)).alloc (.cells #[.int .i64 n, .int .i64 d] 39))) (by kernel_rfl) (by kernel_rfl) (hk) ?_
      repeat (first | go_big_quiet_skip | (go_big_quiet_want; go_big_quiet_op; first | go_big_quiet_on | go_big_quiet_call ((first | (go_at_call 30; first | (with_reducible exact K1.out _)) | (go_at_call 31; first | (with_reducible exact K2.out _)) | (go_at_call 16; first | (with_reducible exact K9.out _))))))
      refine wpQuiet_nil ?_
      rintro w' ⟨k9, rfl⟩
      have hk := k9.keeps
      generalize k9.w = w9 at hk ⊢
      clear k9
      go_wp2_with fail
      go_ret
      exact ⟨rfl, HB.out.trans hk⟩
    · have t1 : decide (1099511627776 < d) = true := decide_eq_true hd
      have t2 : decide (d < 1) = false := decide_eq_false (by omega)
      go_enter Try.func7, Try.ntmps7
      go_wp2_with fail
      refine wp_region_kept ((((w.alloc (.cells #[.int .u8 p, .int .u8 q, .int .u8 r, .int .u8 t] 23)).alloc (.cells #[.int .u8 x, .int .u8 y, .int .u8 z, .int .u8 v] 23)).alloc (.cells #[.int .i64 n, .int .i64 d] 39))) (by kernel_rfl) (by kernel_rfl) (hk0) ?_
      repeat (first | go_big_quiet_skip | (go_big_quiet_want; go_big_quiet_op; first | go_big_quiet_on | go_big_quiet_call (fail)))
      refine wpQuiet_nil ?_
      rintro w' ⟨k9, rfl⟩
      have hk := k9.keeps
      generalize k9.w = w9 at hk ⊢
      clear k9
      go_wp2_with fail
      refine wp_region_kept ((((w.alloc (.cells #[.int .u8 p, .int .u8 q, .int .u8 r, .int .u8 t] 23)).alloc (.cells #[.int .u8 x, .int .u8 y, .int .u8 z, .int .u8 v] 23)).alloc (.cells #[.int .i64 n, .int .i64 d] 39))) (by kernel_rfl) (by kernel_rfl) (hk) ?_
      repeat (first | go_big_quiet_skip | (go_big_quiet_want; go_big_quiet_op; first | go_big_quiet_on | go_big_quiet_call (fail)))
      refine wpQuiet_nil ?_
      rintro w' ⟨k9, rfl⟩
      have hk := k9.keeps
      generalize k9.w = w9 at hk ⊢
      clear k9
      go_wp2_with fail
      refine wp_region_kept ((((w.alloc (.cells #[.int .u8 p, .int .u8 q, .int .u8 r, .int .u8 t] 23)).alloc (.cells #[.int .u8 x, .int .u8 y, .int .u8 z, .int .u8 v] 23)).alloc (.cells #[.int .i64 n, .int .i64 d] 39))) (by kernel_rfl) (by kernel_rfl) (hk) ?_
      repeat (first | go_big_quiet_skip | (go_big_quiet_want; go_big_quiet_op; first | go_big_quiet_on | go_big_quiet_call ((first | (go_at_call 30; first | (with_reducible exact K1.out _)) | (go_at_call 31; first | (with_reducible exact K2.out _)) | (go_at_call 16; first | (with_reducible exact K9.out _))))))
      refine wpQuiet_nil ?_
      rintro w' ⟨k9, rfl⟩
      have hk := k9.keeps
      generalize k9.w = w9 at hk ⊢
      clear k9
      go_wp2_with fail
      go_ret
      exact ⟨rfl, HB.out.trans hk⟩
  · have b0 : u8b p := ⟨l0, u0⟩
    have b1 : u8b q := ⟨l1, u1⟩
    have b2 : u8b r := ⟨l2, u2⟩
    have b3 : u8b t := ⟨l3, u3⟩
    have c0 : u8b x := ⟨m0, n0⟩
    have c1 : u8b y := ⟨m1, n1⟩
    have c2 : u8b z := ⟨m2, n2⟩
    have c3 : u8b v := ⟨m3, n3⟩
    have d0 : 1 ≤ d := by omega
    have d1 : d ≤ 1099511627776 := by omega
    have t1 : decide (1099511627776 < d) = false := decide_eq_false (by omega)
    have t2 : decide (d < 1) = false := decide_eq_false (by omega)
    have G1 := fun w => lercol_any p q r t x y z v n d w b0 b1 b2 b3 c0 c1 c2 c3 d0 d1
    have G2 := fun w => rlercol_any p q r t x y z v n d w b0 b1 b2 b3 c0 c1 c2 c3 d0 d1
    have G3 := fun w => lercol_any p q r t x y z v 0 d w b0 b1 b2 b3 c0 c1 c2 c3 d0 d1
    have G4 := fun w => lercol_any p q r t x y z v d d w b0 b1 b2 b3 c0 c1 c2 c3 d0 d1
    rw [show clI 0 0 d = 0 by unfold clI; split <;> (try split) <;> omega, lc8_0 p x d d0, lc8_0 q y d d0, lc8_0 r z d d0, lc8_0 t v d d0] at G3
    rw [show clI d 0 d = d by unfold clI; split <;> (try split) <;> omega, lc8_full p x d b0 c0 d0 d1, lc8_full q y d b1 c1 d0 d1, lc8_full r z d b2 c2 d0 d1, lc8_full t v d b3 c3 d0 d1] at G4
    have q3 := eq4_refl (lc8 p x (clI n 0 d) d) (lc8 q y (clI n 0 d) d) (lc8 r z (clI n 0 d) d) (lc8 t v (clI n 0 d) d)
    generalize lc8 p x (clI n 0 d) d = r0 at *
    generalize lc8 q y (clI n 0 d) d = r1 at *
    generalize lc8 r z (clI n 0 d) d = r2 at *
    generalize lc8 t v (clI n 0 d) d = r3 at *
    have K1 := Lib.hid (fun k : KW (((w.alloc (.cells #[.int .u8 p, .int .u8 q, .int .u8 r, .int .u8 t] 23)).alloc (.cells #[.int .u8 x, .int .u8 y, .int .u8 z, .int .u8 v] 23)).alloc (.cells #[.int .i64 n, .int .i64 d] 39)) => keepq (G1 k.w))
    have K2 := Lib.hid (fun k : KW (((w.alloc (.cells #[.int .u8 p, .int .u8 q, .int .u8 r, .int .u8 t] 23)).alloc (.cells #[.int .u8 x, .int .u8 y, .int .u8 z, .int .u8 v] 23)).alloc (.cells #[.int .i64 n, .int .i64 d] 39)) => keepq (G2 k.w))
    have K3 := Lib.hid (fun k : KW (((w.alloc (.cells #[.int .u8 p, .int .u8 q, .int .u8 r, .int .u8 t] 23)).alloc (.cells #[.int .u8 x, .int .u8 y, .int .u8 z, .int .u8 v] 23)).alloc (.cells #[.int .i64 n, .int .i64 d] 39)) => keepq (G3 k.w))
    have K4 := Lib.hid (fun k : KW (((w.alloc (.cells #[.int .u8 p, .int .u8 q, .int .u8 r, .int .u8 t] 23)).alloc (.cells #[.int .u8 x, .int .u8 y, .int .u8 z, .int .u8 v] 23)).alloc (.cells #[.int .i64 n, .int .i64 d] 39)) => keepq (G4 k.w))
    have K9 := Lib.hid (fun k : KW (((w.alloc (.cells #[.int .u8 p, .int .u8 q, .int .u8 r, .int .u8 t] 23)).alloc (.cells #[.int .u8 x, .int .u8 y, .int .u8 z, .int .u8 v] 23)).alloc (.cells #[.int .i64 n, .int .i64 d] 39)) => keepq (example27_any k.w))
    clear G1 G2 G3 G4 b0 b1 b2 b3 c0 c1 c2 c3 hd
    clear l0 u0 l1 u1 l2 u2 l3 u3 m0 n0 m1 n1 m2 n2 m3 n3
    go_enter Try.func7, Try.ntmps7
    go_wp2_with fail
    refine wp_region_kept ((((w.alloc (.cells #[.int .u8 p, .int .u8 q, .int .u8 r, .int .u8 t] 23)).alloc (.cells #[.int .u8 x, .int .u8 y, .int .u8 z, .int .u8 v] 23)).alloc (.cells #[.int .i64 n, .int .i64 d] 39))) (by kernel_rfl) (by kernel_rfl) (hk0) ?_
    repeat (first | go_big_quiet_skip | (go_big_quiet_want; go_big_quiet_op; first | go_big_quiet_on | go_big_quiet_call (fail)))
    refine wpQuiet_nil ?_
    rintro w' ⟨k9, rfl⟩
    have hk := k9.keeps
    generalize k9.w = w9 at hk ⊢
    clear k9
    go_wp2_with fail
    refine wp_region_kept ((((w.alloc (.cells #[.int .u8 p, .int .u8 q, .int .u8 r, .int .u8 t] 23)).alloc (.cells #[.int .u8 x, .int .u8 y, .int .u8 z, .int .u8 v] 23)).alloc (.cells #[.int .i64 n, .int .i64 d] 39))) (by kernel_rfl) (by kernel_rfl) (hk) ?_
    repeat (first | go_big_quiet_skip | (go_big_quiet_want; go_big_quiet_op; first | go_big_quiet_on | go_big_quiet_call ((go_at_call 30; first | (with_reducible exact K3.out _) | (with_reducible exact K4.out _)))))
    refine wpQuiet_nil ?_
    rintro w' ⟨k9, rfl⟩
    have hk := k9.keeps
    generalize k9.w = w9 at hk ⊢
    clear k9
    go_wp2_with fail
    refine wp_region_kept ((((w.alloc (.cells #[.int .u8 p, .int .u8 q, .int .u8 r, .int .u8 t] 23)).alloc (.cells #[.int .u8 x, .int .u8 y, .int .u8 z, .int .u8 v] 23)).alloc (.cells #[.int .i64 n, .int .i64 d] 39))) (by kernel_rfl) (by kernel_rfl) (hk) ?_
    repeat (first | go_big_quiet_skip | (go_big_quiet_want; go_big_quiet_op; first | go_big_quiet_on | go_big_quiet_call ((first | (go_at_call 30; first | (with_reducible exact K1.out _)) | (go_at_call 31; first | (with_reducible exact K2.out _)) | (go_at_call 16; first | (with_reducible exact K9.out _))))))
    refine wpQuiet_nil ?_
    rintro w' ⟨k9, rfl⟩
    have hk := k9.keeps
    generalize k9.w = w9 at hk ⊢
    clear k9
    go_wp2_with fail
    go_ret
    exact ⟨rfl, HB.out.trans hk⟩

set_option maxRecDepth 100000 in
theorem lifted (os : Os) (started : os.Started) (H : Type) (enc : TypeId × Value → H) :
    ReturnsInHanded {} Try.checked os 7 .any (Rows.colorLerpColorSpec.pre6 enc Try.prog Try.f7 Rows.colorLerpColorRow.domain false) (Rows.colorLerpColorSpec.post enc Try.prog Try.f7 false true false false) := by
  refine returnsInHanded_of_change (C := Try.checked) Try.own started (by kernel_rfl) Try.func7
    (ChangeSpec.witness6 (enc := enc) (C := Try.checked) false ⟨#[], #[.agg #[.int .u8 0, .int .u8 0, .int .u8 0, .int .u8 0], .agg #[.int .u8 0, .int .u8 0, .int .u8 0, .int .u8 0], .agg #[.int .i64 0, .int .i64 0]], []⟩ 8 (by kernel_rfl) (by kernel_rfl) (by kernel_rfl) (by kernel_rfl)) ?_
  intro W base args ds gs before hval0 hW hcnd _
  have hval : ∀ (j : Nat) t v, Try.f7.params[j]? = some t → args[j]? = some v → Value.okWide Try.prog W .any base t v := hval0
  have hW' := hW
  obtain ⟨p, q, hA0, hV, rfl, hfz, hnd⟩ := hW
  have hA : DataW.TrodAll enc Try.prog W 0 (fun _ => true) true Try.f7.params.toList args.toList ds p := hA0
  have hAll := hA
  rw [Try.params7] at hA hval
  obtain ⟨v0, vs0, d0, ds0, p0, q0, hargs, rfl, rfl, h0, r0⟩ := trodAll_cons hA
  obtain ⟨v1, vs1, d1, ds1, p1, q1, rfl, rfl, rfl, h1, r1⟩ := trodAll_cons r0
  obtain ⟨v2, vs2, d2, ds2, p2, q2, rfl, rfl, rfl, h2, r2⟩ := trodAll_cons r1
  obtain ⟨rfl, rfl, rfl⟩ := trodAll_nil r2
  obtain rfl : args = #[v0, v1, v2] := by cases args; simp_all
  obtain ⟨rfl, rfl⟩ := trodVars_none hV
  obtain ⟨c0, rfl, L0_0⟩ := open_flat (ks := [some .u8, some .u8, some .u8, some .u8]) (by kernel_rfl) (by kernel_rfl) (hval 0 23 v0 rfl rfl) h0
  obtain ⟨_, c0_0, rfl, ⟨a0_0, rfl, w0_0⟩, L0_1⟩ := leafs_cons L0_0
  obtain ⟨l0_0, u0_0⟩ := bounds_u8 w0_0
  obtain ⟨_, c0_1, rfl, ⟨a0_1, rfl, w0_1⟩, L0_2⟩ := leafs_cons L0_1
  obtain ⟨l0_1, u0_1⟩ := bounds_u8 w0_1
  obtain ⟨_, c0_2, rfl, ⟨a0_2, rfl, w0_2⟩, L0_3⟩ := leafs_cons L0_2
  obtain ⟨l0_2, u0_2⟩ := bounds_u8 w0_2
  obtain ⟨_, c0_3, rfl, ⟨a0_3, rfl, w0_3⟩, L0_4⟩ := leafs_cons L0_3
  obtain ⟨l0_3, u0_3⟩ := bounds_u8 w0_3
  obtain rfl := leafs_nil L0_4
  obtain ⟨c1, rfl, L1_0⟩ := open_flat (ks := [some .u8, some .u8, some .u8, some .u8]) (by kernel_rfl) (by kernel_rfl) (hval 1 23 v1 rfl rfl) h1
  obtain ⟨_, c1_0, rfl, ⟨a1_0, rfl, w1_0⟩, L1_1⟩ := leafs_cons L1_0
  obtain ⟨l1_0, u1_0⟩ := bounds_u8 w1_0
  obtain ⟨_, c1_1, rfl, ⟨a1_1, rfl, w1_1⟩, L1_2⟩ := leafs_cons L1_1
  obtain ⟨l1_1, u1_1⟩ := bounds_u8 w1_1
  obtain ⟨_, c1_2, rfl, ⟨a1_2, rfl, w1_2⟩, L1_3⟩ := leafs_cons L1_2
  obtain ⟨l1_2, u1_2⟩ := bounds_u8 w1_2
  obtain ⟨_, c1_3, rfl, ⟨a1_3, rfl, w1_3⟩, L1_4⟩ := leafs_cons L1_3
  obtain ⟨l1_3, u1_3⟩ := bounds_u8 w1_3
  obtain rfl := leafs_nil L1_4
  obtain ⟨c2, rfl, L2_0⟩ := open_flat (ks := [some .i64, some .i64]) (by kernel_rfl) (by kernel_rfl) (hval 2 39 v2 rfl rfl) h2
  obtain ⟨_, c2_0, rfl, ⟨a2_0, rfl, w2_0⟩, L2_1⟩ := leafs_cons L2_0
  obtain ⟨l2_0, u2_0⟩ := bounds_i64 w2_0
  obtain ⟨_, c2_1, rfl, ⟨a2_1, rfl, w2_1⟩, L2_2⟩ := leafs_cons L2_1
  obtain ⟨l2_1, u2_1⟩ := bounds_i64 w2_1
  obtain rfl := leafs_nil L2_2
  clear hA0 hval0
  refine (walk a0_0 a0_1 a0_2 a0_3 a1_0 a1_1 a1_2 a1_3 a2_0 a2_1 W l0_0 u0_0 l0_1 u0_1 l0_2 u0_2 l0_3 u0_3 l1_0 u1_0 l1_1 u1_1 l1_2 u1_2 l1_3 u1_3 l2_0 u2_0 l2_1 u2_1).mono fun e W' ⟨he, bel⟩ => ?_
  subst he
  exact ⟨_, rfl, _, _, _, [], _, [], hW', trodAll_mk1 (shut_bool Try.underlying4 _), below_trodAll Try.laidOut bel (reads_of (by kernel_rfl)) hAll, rfl, bel.frame _, fun h => by cases h⟩

theorem over : Rows.colorLerpColorRow.holds Try.pinned (OpenSpec.ofChange Rows.colorLerpColorSpec) :=
  OpenClaim.holds_of_wide 7 Try.f7 rfl rfl rfl rfl rfl rfl rfl ⟨rfl, rfl, rfl, rfl, rfl⟩ rfl rfl rfl rfl rfl (by kernel_rfl) Try.func7 (by kernel_rfl)
    (of_decide_eq_true (by kernel_rfl)) (by unfold Func.isWrapper; first | (rw [if_pos (by decide +kernel)]; kernel_rfl) | (rw [if_neg (by decide +kernel)]; exact ⟨rfl, rfl⟩))
    (fun os started H enc _ => lifted os started H enc)

/-- The statement. -/
theorem proved : Rows.ColorLerpColorSaid := over
#print axioms proved
end Go.Proofs.Ytjfimlcljbdglaa.colorLerpColor
