/- Contracts of package vec: Length, OnSegment, Less, Lerp. -/
import Derived.Test.YtihmhpleiefodaaIm
import Derived.Test.YtihmhpleiefodaaPq
import Derived.Deep.RegionHeld3
import Derived.Deep.DrawnRows
import Derived.RegionTactic
import Derived.Deep.RegionWith
namespace Go.Proofs.Ytihmhpleiefodaa
section
open Go.RowKit
attribute [local go_sem ↓] Go.wp_at_zero Go.wp_at_succ

/-- A coordinate held within the valid ones. -/
def hc (n : Int) : Int := clI n (-1048576) 1048576
theorem hc_bd (n : Int) : -1048576 ≤ hc n ∧ hc n ≤ 1048576 := by unfold hc clI; split <;> (try split) <;> omega

/-- A product of two vectors' coordinates fits. -/
theorem mul_bd (a b : Int) (a0 : -4194304 ≤ a) (a1 : a ≤ 4194304) (b0 : -4194304 ≤ b) (b1 : b ≤ 4194304) : ∃ p : Int, a * b = p ∧ -17592186044416 ≤ p ∧ p ≤ 17592186044416 := by
  refine ⟨_, rfl, ?_⟩
  have h := Nat.mul_le_mul (show a.natAbs ≤ 4194304 by omega) (show b.natAbs ≤ 4194304 by omega)
  rw [← Int.natAbs_mul] at h
  omega
/-! Two points are compared field by field. -/
theorem ptHeld : Try.prog.stoodInHeld 50 = false := by kernel_rfl
theorem ptGuard (op : BinOp) (x y : Operand) (xs ys : Array Value) (w : World) : (eqGuard op 50 x y (.agg xs) (.agg ys)).run Try.prog w = .ok () w := run_eqGuard_agg w op _ x y xs ys (by kernel_rfl)
theorem ptEql (x y z t : Int) (w : World) : (binOp .eql 50 (.agg #[.int .i64 x, .int .i64 y]) (.agg #[.int .i64 z, .int .i64 t])).run Try.prog w = .ok (.bool ((x == z) && (y == t))) w := by
  have hp := ptHeld
  have hu := Try.underlying50
  rw [run_eql_struct]
  simp [go_sem, hp, hu]
  by_cases h : x = z <;> by_cases k : y = t <;> simp [h, k]
theorem ptNeq (x y z t : Int) (w : World) : (binOp .neq 50 (.agg #[.int .i64 x, .int .i64 y]) (.agg #[.int .i64 z, .int .i64 t])).run Try.prog w = .ok (.bool !((x == z) && (y == t))) w := by
  have hp := ptHeld
  have hu := Try.underlying50
  rw [run_neq_struct]
  simp [go_sem, hp, hu]
  by_cases h : x = z <;> by_cases k : y = t <;> simp [h, k]

theorem held_any (n : Int) (w : World) :
    Calls Try.prog 69 #[.int .i64 n] w fun e w' => e = .returned (.int .i64 (hc n)) ∧ w = w' := by
  go_enter Try.func69, Try.ntmps69
  go_wp2_with (go_at_call 71; refine (clamp_any _ _ _ _).mono ?_; rintro e w1 ⟨rfl, rfl⟩)
  go_ret
  exact ⟨rfl, rfl⟩

set_option maxHeartbeats 400000 in
theorem hold_any (x y : Int) (w : World) :
    Calls Try.prog 61 #[.agg #[.int .i64 x, .int .i64 y]] w fun e w' => e = .returned (.agg #[.int .i64 (hc x), .int .i64 (hc y)]) ∧ Keeps w w' := by
  go_enter Try.func61, Try.ntmps61
  go_wp2_with fail
  go_region_held3 (fun w' => w'.cell? ⟨w.heap.size, 0, none⟩ = some (.int .i64 x) ∧ w'.cell? ⟨w.heap.size, 1, none⟩ = some (.int .i64 y)) (go_keep)
    (first | (go_at_call 69; refine (held_any _ _).mono ?_; rintro e w1 ⟨rfl, rfl⟩))
  all_goals go_wp2_with fail
  exact bodyPost_ret (v := .agg #[.int .i64 (hc x), .int .i64 (hc y)]) (by simp [results, Try.results61, go_sem, *]) rfl ⟨rfl, (by (repeat (first | (with_reducible exact Keeps.refl _) | (with_reducible assumption) | (with_reducible refine Keeps.drewN ?_ _) | (with_reducible refine Keeps.drew ?_) | (with_reducible refine Keeps.alloc ?_ _) | (with_reducible refine Keeps.setNew ?_ ?_ _))) <;> (dsimp only; omega))⟩

set_option maxHeartbeats 400000 in
theorem sub_any (x y z t : Int) (w : World) :
    Calls Try.prog 46 #[.agg #[.int .i64 x, .int .i64 y], .agg #[.int .i64 z, .int .i64 t]] w fun e w' => e = .returned (.agg #[.int .i64 (hc x - hc z), .int .i64 (hc y - hc t)]) ∧ Keeps w w' := by
  obtain ⟨x0, x1⟩ := hc_bd x
  obtain ⟨y0, y1⟩ := hc_bd y
  obtain ⟨z0, z1⟩ := hc_bd z
  obtain ⟨t0, t1⟩ := hc_bd t
  have HS := Lib.hid (show ∀ w', Keeps (((w.alloc (.cells #[.int .i64 x, .int .i64 y] 50)).alloc (.cells #[.int .i64 z, .int .i64 t] 50)).alloc (.cells #[.int .i64 0, .int .i64 0] 50)) w' → w'.cell? ⟨w.heap.size, 0, none⟩ = some (.int .i64 x) ∧ w'.frozen? ⟨w.heap.size, 0, none⟩ = false ∧ w'.cell? ⟨w.heap.size, 1, none⟩ = some (.int .i64 y) ∧ w'.frozen? ⟨w.heap.size, 1, none⟩ = false ∧ w'.cell? ⟨w.heap.size + 1, 0, none⟩ = some (.int .i64 z) ∧ w'.frozen? ⟨w.heap.size + 1, 0, none⟩ = false ∧ w'.cell? ⟨w.heap.size + 1, 1, none⟩ = some (.int .i64 t) ∧ w'.frozen? ⟨w.heap.size + 1, 1, none⟩ = false ∧ w'.cell? ⟨w.heap.size + 1 + 1, 0, none⟩ = some (.int .i64 0) ∧ w'.frozen? ⟨w.heap.size + 1 + 1, 0, none⟩ = false ∧ w'.cell? ⟨w.heap.size + 1 + 1, 1, none⟩ = some (.int .i64 0) ∧ w'.frozen? ⟨w.heap.size + 1 + 1, 1, none⟩ = false from fun w' hk => ⟨(hk.cell (p := ⟨w.heap.size, 0, none⟩) (by first | (simp; done) | (simp; omega))).trans (by simp [go_sem]), (hk.frozen (p := ⟨w.heap.size, 0, none⟩) (by first | (simp; done) | (simp; omega))).trans (by simp [go_sem]), (hk.cell (p := ⟨w.heap.size, 1, none⟩) (by first | (simp; done) | (simp; omega))).trans (by simp [go_sem]), (hk.frozen (p := ⟨w.heap.size, 1, none⟩) (by first | (simp; done) | (simp; omega))).trans (by simp [go_sem]), (hk.cell (p := ⟨w.heap.size + 1, 0, none⟩) (by first | (simp; done) | (simp; omega))).trans (by simp [go_sem]), (hk.frozen (p := ⟨w.heap.size + 1, 0, none⟩) (by first | (simp; done) | (simp; omega))).trans (by simp [go_sem]), (hk.cell (p := ⟨w.heap.size + 1, 1, none⟩) (by first | (simp; done) | (simp; omega))).trans (by simp [go_sem]), (hk.frozen (p := ⟨w.heap.size + 1, 1, none⟩) (by first | (simp; done) | (simp; omega))).trans (by simp [go_sem]), (hk.cell (p := ⟨w.heap.size + 1 + 1, 0, none⟩) (by first | (simp; done) | (simp; omega))).trans (by simp [go_sem]), (hk.frozen (p := ⟨w.heap.size + 1 + 1, 0, none⟩) (by first | (simp; done) | (simp; omega))).trans (by simp [go_sem]), (hk.cell (p := ⟨w.heap.size + 1 + 1, 1, none⟩) (by first | (simp; done) | (simp; omega))).trans (by simp [go_sem]), (hk.frozen (p := ⟨w.heap.size + 1 + 1, 1, none⟩) (by first | (simp; done) | (simp; omega))).trans (by simp [go_sem])⟩)
  have HB := Lib.hid (show Keeps w (((w.alloc (.cells #[.int .i64 x, .int .i64 y] 50)).alloc (.cells #[.int .i64 z, .int .i64 t] 50)).alloc (.cells #[.int .i64 0, .int .i64 0] 50)) from (by (repeat (first | (with_reducible exact Keeps.refl _) | (with_reducible assumption) | (with_reducible refine Keeps.drewN ?_ _) | (with_reducible refine Keeps.drew ?_) | (with_reducible refine Keeps.alloc ?_ _) | (with_reducible refine Keeps.setNew ?_ ?_ _))) <;> (dsimp only; omega)))
  have hk0 := Keeps.refl (((w.alloc (.cells #[.int .i64 x, .int .i64 y] 50)).alloc (.cells #[.int .i64 z, .int .i64 t] 50)).alloc (.cells #[.int .i64 0, .int .i64 0] 50))
  go_enter Try.func46, Try.ntmps46
  go_wp2_with fail
  go_region_with (go_at_call 61; refine (keep (hold_any _ _ _) (by first | assumption | exact Keeps.drew (by assumption) | exact Keeps.drewN (by assumption) _)).mono ?_; rintro e w1 ⟨rfl, hk⟩; have hj := Keeps.trans HB.out hk; have hk := hk; obtain ⟨y0, y1, y2, y3, y4, y5, y6, y7, y8, y9, y10, y11⟩ := HS.out _ hk)
  all_goals go_wp2_with fail
  all_goals exact bodyPost_ret (v := .agg #[.int .i64 (hc x - hc z), .int .i64 (hc y - hc t)]) (by simp [results, Try.results46, go_sem, *]) rfl ⟨rfl, (by (repeat (first | (with_reducible exact Keeps.refl _) | (with_reducible assumption) | (with_reducible refine Keeps.drewN ?_ _) | (with_reducible refine Keeps.drew ?_) | (with_reducible refine Keeps.alloc ?_ _) | (with_reducible refine Keeps.setNew ?_ ?_ _))) <;> (dsimp only; omega))⟩

set_option maxHeartbeats 400000 in
theorem vdot_any (x y z t : Int) (w : World) (x0 : -4194304 ≤ x) (x1 : x ≤ 4194304) (y0 : -4194304 ≤ y) (y1 : y ≤ 4194304) (z0 : -4194304 ≤ z) (z1 : z ≤ 4194304) (t0 : -4194304 ≤ t) (t1 : t ≤ 4194304) :
    Calls Try.prog 70 #[.agg #[.int .i64 x, .int .i64 y], .agg #[.int .i64 z, .int .i64 t]] w fun e w' => e = .returned (.int .i64 (x * z + y * t)) ∧ Keeps w w' := by
  obtain ⟨p, ep, p0, p1⟩ := mul_bd x z x0 x1 z0 z1
  obtain ⟨q, eq, q0, q1⟩ := mul_bd y t y0 y1 t0 t1
  go_enter Try.func70, Try.ntmps70
  go_wp2_with fail
  go_ret
  exact ⟨ret_i64 (by rw [ep, eq]), (by (repeat (first | (with_reducible exact Keeps.refl _) | (with_reducible assumption) | (with_reducible refine Keeps.drewN ?_ _) | (with_reducible refine Keeps.drew ?_) | (with_reducible refine Keeps.alloc ?_ _) | (with_reducible refine Keeps.setNew ?_ ?_ _))) <;> (dsimp only; omega))⟩
def subc (a b : Int) : Int := hc a - hc b
theorem subc_bd (a b : Int) : -2097152 ≤ subc a b ∧ subc a b ≤ 2097152 := by
  have := hc_bd a
  have := hc_bd b
  unfold subc; omega
def crossI (x y z t : Int) : Int := x * t - y * z
def dotI (x y z t : Int) : Int := x * z + y * t
theorem hc_id {n : Int} (h : -1048576 ≤ n ∧ n ≤ 1048576) : hc n = n := by unfold hc clI; split <;> (try split) <;> omega
def oriI (ax ay bx by' px py : Int) : Int := clI (crossI (subc bx ax) (subc by' ay) (subc px ax) (subc py ay)) (-1) 1
def validB (x y : Int) : Bool := hc x == x && hc y == y

set_option maxHeartbeats 400000 in
theorem subc_any (x y z t : Int) (w : World) :
    Calls Try.prog 46 #[.agg #[.int .i64 x, .int .i64 y], .agg #[.int .i64 z, .int .i64 t]] w fun e w' => e = .returned (.agg #[.int .i64 (subc x z), .int .i64 (subc y t)]) ∧ Keeps w w' := sub_any x y z t w
theorem dotc_any (x y z t : Int) (w : World) (x0 : -4194304 ≤ x) (x1 : x ≤ 4194304) (y0 : -4194304 ≤ y) (y1 : y ≤ 4194304) (z0 : -4194304 ≤ z) (z1 : z ≤ 4194304) (t0 : -4194304 ≤ t) (t1 : t ≤ 4194304) :
    Calls Try.prog 70 #[.agg #[.int .i64 x, .int .i64 y], .agg #[.int .i64 z, .int .i64 t]] w fun e w' => e = .returned (.int .i64 (dotI x y z t)) ∧ Keeps w w' := vdot_any x y z t w x0 x1 y0 y1 z0 z1 t0 t1

set_option maxHeartbeats 400000 in
theorem valid_any (x y : Int) (w : World) :
    Calls Try.prog 43 #[.agg #[.int .i64 x, .int .i64 y]] w fun e w' => e = .returned (.bool (validB x y)) ∧ Keeps w w' := by
  have g1 := ptGuard
  have g2 := ptEql
  have HS := Lib.hid (show ∀ w', Keeps (w.alloc (.cells #[.int .i64 x, .int .i64 y] 50)) w' → w'.cell? ⟨w.heap.size, 0, none⟩ = some (.int .i64 x) ∧ w'.frozen? ⟨w.heap.size, 0, none⟩ = false ∧ w'.cell? ⟨w.heap.size, 1, none⟩ = some (.int .i64 y) ∧ w'.frozen? ⟨w.heap.size, 1, none⟩ = false from fun w' hk => ⟨(hk.cell (p := ⟨w.heap.size, 0, none⟩) (by first | (simp; done) | (simp; omega))).trans (by simp [go_sem]), (hk.frozen (p := ⟨w.heap.size, 0, none⟩) (by first | (simp; done) | (simp; omega))).trans (by simp [go_sem]), (hk.cell (p := ⟨w.heap.size, 1, none⟩) (by first | (simp; done) | (simp; omega))).trans (by simp [go_sem]), (hk.frozen (p := ⟨w.heap.size, 1, none⟩) (by first | (simp; done) | (simp; omega))).trans (by simp [go_sem])⟩)
  have HB := Lib.hid (show Keeps w (w.alloc (.cells #[.int .i64 x, .int .i64 y] 50)) from (by (repeat (first | (with_reducible exact Keeps.refl _) | (with_reducible assumption) | (with_reducible refine Keeps.drewN ?_ _) | (with_reducible refine Keeps.drew ?_) | (with_reducible refine Keeps.alloc ?_ _) | (with_reducible refine Keeps.setNew ?_ ?_ _))) <;> (dsimp only; omega)))
  have hk0 := Keeps.refl (w.alloc (.cells #[.int .i64 x, .int .i64 y] 50))
  go_enter Try.func43, Try.ntmps43
  go_wp2_with fail
  go_region_held3 (fun w' => w'.cell? ⟨w.heap.size, 0, none⟩ = some (.int .i64 x) ∧ w'.frozen? ⟨w.heap.size, 0, none⟩ = false ∧ w'.cell? ⟨w.heap.size, 1, none⟩ = some (.int .i64 y) ∧ w'.frozen? ⟨w.heap.size, 1, none⟩ = false) (first | exact HS.out _ (by assumption) | exact HS.out _ (Keeps.drew (by assumption)) | exact HS.out _ (Keeps.drewN (by assumption) _) | go_keep)
    (first | (go_at_call 61; refine (keep (hold_any _ _ _) (by first | assumption | exact Keeps.drew (by assumption) | exact Keeps.drewN (by assumption) _)).mono ?_; rintro e w1 ⟨rfl, hk⟩))
  all_goals go_wp2_with fail
  go_ret
  exact ⟨rfl, Keeps.trans HB.out (by (repeat (first | (with_reducible exact Keeps.refl _) | (with_reducible assumption) | (with_reducible refine Keeps.drewN ?_ _) | (with_reducible refine Keeps.drew ?_) | (with_reducible refine Keeps.alloc ?_ _) | (with_reducible refine Keeps.setNew ?_ ?_ _))) <;> (dsimp only; omega))⟩

set_option maxHeartbeats 400000 in
theorem vdotx_any (x y z t : Int) (w : World) :
    Calls Try.prog 64 #[.agg #[.int .i64 x, .int .i64 y], .agg #[.int .i64 z, .int .i64 t]] w fun e w' => e = .returned (.int .i64 (dotI (hc x) (hc y) (hc z) (hc t))) ∧ Keeps w w' := by
  obtain ⟨x0, x1⟩ := hc_bd x
  obtain ⟨y0, y1⟩ := hc_bd y
  obtain ⟨z0, z1⟩ := hc_bd z
  obtain ⟨t0, t1⟩ := hc_bd t
  have HS := Lib.hid (show ∀ w', Keeps ((w.alloc (.cells #[.int .i64 x, .int .i64 y] 50)).alloc (.cells #[.int .i64 z, .int .i64 t] 50)) w' → w'.cell? ⟨w.heap.size, 0, none⟩ = some (.int .i64 x) ∧ w'.frozen? ⟨w.heap.size, 0, none⟩ = false ∧ w'.cell? ⟨w.heap.size, 1, none⟩ = some (.int .i64 y) ∧ w'.frozen? ⟨w.heap.size, 1, none⟩ = false ∧ w'.cell? ⟨w.heap.size + 1, 0, none⟩ = some (.int .i64 z) ∧ w'.frozen? ⟨w.heap.size + 1, 0, none⟩ = false ∧ w'.cell? ⟨w.heap.size + 1, 1, none⟩ = some (.int .i64 t) ∧ w'.frozen? ⟨w.heap.size + 1, 1, none⟩ = false from fun w' hk => ⟨(hk.cell (p := ⟨w.heap.size, 0, none⟩) (by first | (simp; done) | (simp; omega))).trans (by simp [go_sem]), (hk.frozen (p := ⟨w.heap.size, 0, none⟩) (by first | (simp; done) | (simp; omega))).trans (by simp [go_sem]), (hk.cell (p := ⟨w.heap.size, 1, none⟩) (by first | (simp; done) | (simp; omega))).trans (by simp [go_sem]), (hk.frozen (p := ⟨w.heap.size, 1, none⟩) (by first | (simp; done) | (simp; omega))).trans (by simp [go_sem]), (hk.cell (p := ⟨w.heap.size + 1, 0, none⟩) (by first | (simp; done) | (simp; omega))).trans (by simp [go_sem]), (hk.frozen (p := ⟨w.heap.size + 1, 0, none⟩) (by first | (simp; done) | (simp; omega))).trans (by simp [go_sem]), (hk.cell (p := ⟨w.heap.size + 1, 1, none⟩) (by first | (simp; done) | (simp; omega))).trans (by simp [go_sem]), (hk.frozen (p := ⟨w.heap.size + 1, 1, none⟩) (by first | (simp; done) | (simp; omega))).trans (by simp [go_sem])⟩)
  have HB := Lib.hid (show Keeps w ((w.alloc (.cells #[.int .i64 x, .int .i64 y] 50)).alloc (.cells #[.int .i64 z, .int .i64 t] 50)) from (by (repeat (first | (with_reducible exact Keeps.refl _) | (with_reducible assumption) | (with_reducible refine Keeps.drewN ?_ _) | (with_reducible refine Keeps.drew ?_) | (with_reducible refine Keeps.alloc ?_ _) | (with_reducible refine Keeps.setNew ?_ ?_ _))) <;> (dsimp only; omega)))
  have hk0 := Keeps.refl ((w.alloc (.cells #[.int .i64 x, .int .i64 y] 50)).alloc (.cells #[.int .i64 z, .int .i64 t] 50))
  go_enter Try.func64, Try.ntmps64
  go_wp2_with fail
  go_region_held3 (fun w' => w'.cell? ⟨w.heap.size, 0, none⟩ = some (.int .i64 x) ∧ w'.frozen? ⟨w.heap.size, 0, none⟩ = false ∧ w'.cell? ⟨w.heap.size, 1, none⟩ = some (.int .i64 y) ∧ w'.frozen? ⟨w.heap.size, 1, none⟩ = false ∧ w'.cell? ⟨w.heap.size + 1, 0, none⟩ = some (.int .i64 z) ∧ w'.frozen? ⟨w.heap.size + 1, 0, none⟩ = false ∧ w'.cell? ⟨w.heap.size + 1, 1, none⟩ = some (.int .i64 t) ∧ w'.frozen? ⟨w.heap.size + 1, 1, none⟩ = false) (first | exact HS.out _ (by assumption) | exact HS.out _ (Keeps.drew (by assumption)) | exact HS.out _ (Keeps.drewN (by assumption) _) | go_keep)
    (first | (go_at_call 61; refine (keep (hold_any _ _ _) (by first | assumption | exact Keeps.drew (by assumption) | exact Keeps.drewN (by assumption) _)).mono ?_; rintro e w1 ⟨rfl, hk⟩)
           | (go_at_call 70; refine (keep (dotc_any _ _ _ _ _ (by omega) (by omega) (by omega) (by omega) (by omega) (by omega) (by omega) (by omega)) (by first | assumption | exact Keeps.drew (by assumption) | exact Keeps.drewN (by assumption) _)).mono ?_; rintro e w1 ⟨rfl, hk⟩))
  all_goals go_wp2_with fail
  go_ret
  exact ⟨rfl, Keeps.trans HB.out (by (repeat (first | (with_reducible exact Keeps.refl _) | (with_reducible assumption) | (with_reducible refine Keeps.drewN ?_ _) | (with_reducible refine Keeps.drew ?_) | (with_reducible refine Keeps.alloc ?_ _) | (with_reducible refine Keeps.setNew ?_ ?_ _))) <;> (dsimp only; omega))⟩

end

section
open Go.RowKit
attribute [local go_sem ↓] Go.wp_at_zero Go.wp_at_succ
set_option linter.unusedSimpArgs false

def lenI (x y : Int) : Nat := isq (65536 * dotI (hc x) (hc y) (hc x) (hc y)).toNat
theorem dotI_self (x y : Int) : ∃ d m : Nat, dotI (hc x) (hc y) (hc x) (hc y) = (d : Int) ∧ (d : Int) ≤ 2199023255552 ∧ 65536 * (d : Int) = (m : Int) ∧ (m : Int) ≤ 144115188075855872 ∧ Hid (lenI x y = isq m) := by
  have hx := hc_bd x
  have hy := hc_bd y
  have h1 := Nat.mul_le_mul (show (hc x).natAbs ≤ 1048576 by omega) (show (hc x).natAbs ≤ 1048576 by omega)
  have h2 := Nat.mul_le_mul (show (hc y).natAbs ≤ 1048576 by omega) (show (hc y).natAbs ≤ 1048576 by omega)
  have e : dotI (hc x) (hc y) (hc x) (hc y) = (((hc x).natAbs * (hc x).natAbs + (hc y).natAbs * (hc y).natAbs : Nat) : Int) := by
    unfold dotI; simp only [Int.natCast_add, Int.natCast_mul, Int.natAbs_mul_self']
  refine ⟨_, 65536 * ((hc x).natAbs * (hc x).natAbs + (hc y).natAbs * (hc y).natAbs), e, ?_, ?_, ?_, ?_⟩
  · omega
  · simp
  · omega
  · unfold Hid lenI; rw [e]; congr 1
theorem isq_le32 (m : Nat) (h : (m : Int) ≤ 144115188075855872) : (isq m : Int) ≤ 4294967295 := by
  have := isq_lt m (by omega)
  omega
set_option maxHeartbeats 400000 in
theorem length_any (x y : Int) (w : World) :
    Calls Try.prog 45 #[.agg #[.int .i64 x, .int .i64 y]] w fun e w' => e = .returned (.int .i64 (lenI x y)) ∧ Keeps w w' := by
  obtain ⟨d, m, e1, d1, e2, m1, HL⟩ := dotI_self x y
  have hs := isq_le32 m m1
  have HD := Lib.hid (fun w => vdotx_any x y x y w)
  rw [e1] at HD
  have HS := Lib.hid (show ∀ w', Keeps (w.alloc (.cells #[.int .i64 x, .int .i64 y] 50)) w' → w'.cell? ⟨w.heap.size, 0, none⟩ = some (.int .i64 x) ∧ w'.frozen? ⟨w.heap.size, 0, none⟩ = false ∧ w'.cell? ⟨w.heap.size, 1, none⟩ = some (.int .i64 y) ∧ w'.frozen? ⟨w.heap.size, 1, none⟩ = false from fun w' hk => ⟨(hk.cell (p := ⟨w.heap.size, 0, none⟩) (by first | (simp; done) | (simp; omega))).trans (by simp [go_sem]), (hk.frozen (p := ⟨w.heap.size, 0, none⟩) (by first | (simp; done) | (simp; omega))).trans (by simp [go_sem]), (hk.cell (p := ⟨w.heap.size, 1, none⟩) (by first | (simp; done) | (simp; omega))).trans (by simp [go_sem]), (hk.frozen (p := ⟨w.heap.size, 1, none⟩) (by first | (simp; done) | (simp; omega))).trans (by simp [go_sem])⟩)
  have HB := Lib.hid (show Keeps w (w.alloc (.cells #[.int .i64 x, .int .i64 y] 50)) from (by (repeat (first | (with_reducible exact Keeps.refl _) | (with_reducible assumption) | (with_reducible refine Keeps.drewN ?_ _) | (with_reducible refine Keeps.drew ?_) | (with_reducible refine Keeps.alloc ?_ _) | (with_reducible refine Keeps.setNew ?_ ?_ _))) <;> (dsimp only; omega)))
  have hk0 := Keeps.refl (w.alloc (.cells #[.int .i64 x, .int .i64 y] 50))
  rw [HL.out]
  clear e1
  go_enter Try.func45, Try.ntmps45
  go_wp2_with (first | (go_at_call 64; refine (keep (HD.out _) (by first | assumption | exact Keeps.drew (by assumption) | exact Keeps.drewN (by assumption) _)).mono ?_; rintro e w1 ⟨rfl, hk⟩; have hj := Keeps.trans HB.out hk; have hk := hk; obtain ⟨y0, y1, y2, y3⟩ := HS.out _ hk) | (go_at_call 63; refine (sqrt_any _ _).mono ?_; rintro e w1 ⟨rfl, rfl⟩))
  go_ret
  exact ⟨rfl, Keeps.trans HB.out (by (repeat (first | (with_reducible exact Keeps.refl _) | (with_reducible assumption) | (with_reducible refine Keeps.drewN ?_ _) | (with_reducible refine Keeps.drew ?_) | (with_reducible refine Keeps.alloc ?_ _) | (with_reducible refine Keeps.setNew ?_ ?_ _))) <;> (dsimp only; omega))⟩

def lessB (x y z t : Int) : Bool := decide (hc y < hc t) || (hc y == hc t && decide (hc x < hc z))
def onB (ax ay bx by' px py : Int) : Bool := oriI ax ay bx by' px py == 0 && decide (dotI (subc ax px) (subc ay py) (subc bx px) (subc by' py) ≤ 0)
end
end Go.Proofs.Ytihmhpleiefodaa
