/- Contracts of linejoin's wide, way, plus, MiterTip and of reference 23's wide, MiterTip. -/
import Derived.Test.YtdodgnpjlicnoaaJa
import Derived.Test.YtdodgnpjlicnoaaQm
import Derived.Test.YtdodgnpjlicnoaaShelf
import Derived.IntWalk
namespace Go.Proofs.Ytdodgnpjlicnoaa
open Go.RowKit
attribute [local go_sem ↓] Go.wp_at_zero Go.wp_at_succ
set_option linter.unusedVariables false
set_option linter.unusedSimpArgs false
theorem lwide_any (n : Int) (w : World) : Calls Try.prog 39 #[.int .i64 n] w fun e w' => e = .returned (.bool (wideB n)) ∧ w = w' := by
  go_enter Try.func39, Try.ntmps39
  go_wp2
  all_goals (go_ret; refine ⟨ret_bool ?_, rfl⟩; unfold wideB inB; simp; omega)
theorem rwide23_any (n : Int) (w : World) : Calls Try.prog 42 #[.int .i64 n] w fun e w' => e = .returned (.bool (wideB n)) ∧ w = w' := by
  go_enter Try.func42, Try.ntmps42
  go_wp2
  all_goals (go_ret; refine ⟨ret_bool ?_, rfl⟩; unfold wideB inB; simp; omega)
set_option maxHeartbeats 400000 in
theorem lplus_any (x y z t : Int) (w : World) (x0 : -2305843009213693952 ≤ x) (x1 : x ≤ 2305843009213693952) (y0 : -2305843009213693952 ≤ y) (y1 : y ≤ 2305843009213693952) (z0 : -2305843009213693952 ≤ z) (z1 : z ≤ 2305843009213693952) (t0 : -2305843009213693952 ≤ t) (t1 : t ≤ 2305843009213693952) :
    Calls Try.prog 46 #[.agg #[.int .i64 x, .int .i64 y], .agg #[.int .i64 z, .int .i64 t]] w fun e w' => e = .returned (.agg #[.int .i64 (x + z), .int .i64 (y + t)]) ∧ Keeps w w' := by
  go_enter Try.func46, Try.ntmps46
  go_wp2_with fail
  exact bodyPost_ret (v := .agg #[.int .i64 (x + z), .int .i64 (y + t)]) (by simp [results, Try.results46, go_sem, *]) rfl ⟨rfl, (by (repeat (first | (with_reducible exact Keeps.refl _) | (with_reducible assumption) | (with_reducible refine Keeps.drewN ?_ _) | (with_reducible refine Keeps.drew ?_) | (with_reducible refine Keeps.alloc ?_ _) | (with_reducible refine Keeps.setNew ?_ ?_ _))) <;> (dsimp only; omega))⟩
set_option maxHeartbeats 400000 in
theorem lway_any (x y z t : Int) (w : World) (x0 : -2305843009213693952 ≤ x) (x1 : x ≤ 2305843009213693952) (y0 : -2305843009213693952 ≤ y) (y1 : y ≤ 2305843009213693952) (z0 : -2305843009213693952 ≤ z) (z1 : z ≤ 2305843009213693952) (t0 : -2305843009213693952 ≤ t) (t1 : t ≤ 2305843009213693952) :
    Calls Try.prog 40 #[.agg #[.int .i64 x, .int .i64 y], .agg #[.int .i64 z, .int .i64 t]] w fun e w' => e = .returned (.agg #[.int .i64 (z - x), .int .i64 (t - y)]) ∧ Keeps w w' := by
  go_enter Try.func40, Try.ntmps40
  go_wp2_with fail
  exact bodyPost_ret (v := .agg #[.int .i64 (z - x), .int .i64 (t - y)]) (by simp [results, Try.results40, go_sem, *]) rfl ⟨rfl, (by (repeat (first | (with_reducible exact Keeps.refl _) | (with_reducible assumption) | (with_reducible refine Keeps.drewN ?_ _) | (with_reducible refine Keeps.drew ?_) | (with_reducible refine Keeps.alloc ?_ _) | (with_reducible refine Keeps.setNew ?_ ?_ _))) <;> (dsimp only; omega))⟩
theorem mdrN_prod (a b c : Int) (hb : 0 < b) : mdrN a b c = dvr (a * b) c := by
  have e1 : mdrNeg a b c = mdrNeg (a * b) 1 c := by
    unfold mdrNeg
    have h1 : decide (b < 0) = false := decide_eq_false (by omega)
    have h2 : decide ((1 : Int) < 0) = false := by decide
    have h3 : decide (a * b < 0) = decide (a < 0) := by
      by_cases h : a < 0
      · rw [decide_eq_true h, decide_eq_true (Int.mul_neg_of_neg_of_pos h hb)]
      · rw [decide_eq_false h, decide_eq_false (by have := Int.mul_nonneg (show 0 ≤ a by omega) (show 0 ≤ b by omega); omega)]
    rw [h1, h2, h3]
  have e2 : a.natAbs * b.natAbs = (a * b).natAbs * (1 : Int).natAbs := by rw [Int.natAbs_mul]; simp
  have e3 : mdrQ a b c = mdrQ (a * b) 1 c := by unfold mdrQ; rw [e1, e2]
  have e4 : mdrB a b c = mdrB (a * b) 1 c := by unfold mdrB; rw [e3]
  unfold dvr mdrN
  rw [e3, e4]
def tipQ (n m : Pt) : Int := (n.1 + m.1) * (n.1 + m.1) + (n.2 + m.2) * (n.2 + m.2)
def tipB (n m : Pt) (v l : Int) : Bool := vP n && vP m && wideB v && decide (256 ≤ l) && decide (l ≤ 65536) && decide (tipQ n m ≠ 0) && decide ((256 * v) * (256 * v) ≤ l * l * tipQ n m)
def tipP (n m : Pt) (v l : Int) : Pt := if tipB n m v l = true then (dvr ((n.1 + m.1) * (v * v)) (2 * tipQ n m), dvr ((n.2 + m.2) * (v * v)) (2 * tipQ n m)) else pt0
theorem tip_no {n m : Pt} {v l : Int} (h : tipB n m v l = false) : vP n = false ∨ vP n = true ∧ vP m = false ∨ vP n = true ∧ vP m = true ∧ wideB v = false ∨ vP n = true ∧ vP m = true ∧ wideB v = true ∧ l < 256 ∨
    vP n = true ∧ vP m = true ∧ wideB v = true ∧ 256 ≤ l ∧ 65536 < l ∨ vP n = true ∧ vP m = true ∧ wideB v = true ∧ 256 ≤ l ∧ l ≤ 65536 ∧ tipQ n m = 0 ∨ vP n = true ∧ vP m = true ∧ wideB v = true ∧ 256 ≤ l ∧ l ≤ 65536 ∧ tipQ n m ≠ 0 ∧ l * l * tipQ n m < (256 * v) * (256 * v) := by
  unfold tipB at h
  revert h
  generalize l * l * tipQ n m = x
  generalize (256 * v) * (256 * v) = y
  cases vP n <;> cases vP m <;> cases wideB v <;> simp <;> omega
theorem tip_yes {n m : Pt} {v l : Int} (h : tipB n m v l = true) : vP n = true ∧ vP m = true ∧ wideB v = true ∧ 256 ≤ l ∧ l ≤ 65536 ∧ tipQ n m ≠ 0 ∧ (256 * v) * (256 * v) ≤ l * l * tipQ n m := by
  unfold tipB at h
  simp only [Bool.and_eq_true, decide_eq_true_eq] at h
  obtain ⟨⟨⟨⟨⟨⟨h1, h2⟩, h3⟩, h4⟩, h5⟩, h6⟩, h7⟩ := h
  exact ⟨h1, h2, h3, h4, h5, h6, h7⟩
/-- the numbers' sizes -/
theorem tip_bd (n m : Pt) (v l : Int) (hn : vP n = true) (hm : vP m = true) (hv : wideB v = true) (l0 : 256 ≤ l) (l1 : l ≤ 65536) :
    ∃ a b aa bb v2 l2 : Int, n.1 + m.1 = a ∧ n.2 + m.2 = b ∧ a * a = aa ∧ b * b = bb ∧ v * v = v2 ∧ l * l = l2 ∧ (-2097152 ≤ a ∧ a ≤ 2097152) ∧ (-2097152 ≤ b ∧ b ≤ 2097152) ∧ (0 ≤ aa ∧ aa ≤ 4398046511104) ∧ (0 ≤ bb ∧ bb ≤ 4398046511104) ∧ (1 ≤ v2 ∧ v2 ≤ 268435456) ∧ (65536 ≤ l2 ∧ l2 ≤ 4294967296) ∧ (1 ≤ v ∧ v ≤ 16384) ∧
      (-562949953421312 ≤ a * v2 ∧ a * v2 ≤ 562949953421312) ∧ (-562949953421312 ≤ b * v2 ∧ b * v2 ≤ 562949953421312) ∧ (-34359738368 ≤ a * v ∧ a * v ≤ 34359738368) ∧ (-34359738368 ≤ b * v ∧ b * v ≤ 34359738368) ∧ tipQ n m = aa + bb := by
  have h1 := (vP_bd hn).2.2
  have h2 := (vP_bd hm).2.2
  have h3 := (inB_iff _ _ _).1 hv
  have q : ∀ x y : Int, ∀ k j : Nat, x.natAbs ≤ k → y.natAbs ≤ j → (x * y).natAbs ≤ k * j := fun x y k j hx hy => by rw [Int.natAbs_mul]; exact Nat.mul_le_mul hx hy
  have p : ∀ x : Int, 0 ≤ x * x := fun x => by rcases Int.le_total 0 x with h | h; exact Int.mul_nonneg h h; exact Int.mul_nonneg_of_nonpos_of_nonpos h h
  refine ⟨n.1 + m.1, n.2 + m.2, _, _, v * v, l * l, rfl, rfl, rfl, rfl, rfl, rfl, ⟨by omega, by omega⟩, ⟨by omega, by omega⟩, ⟨p _, ?_⟩, ⟨p _, ?_⟩, ?_, ?_, ⟨by omega, by omega⟩, ?_, ?_, ?_, ?_, rfl⟩
  · have := q (n.1 + m.1) (n.1 + m.1) 2097152 2097152 (by omega) (by omega); have := p (n.1 + m.1); omega
  · have := q (n.2 + m.2) (n.2 + m.2) 2097152 2097152 (by omega) (by omega); have := p (n.2 + m.2); omega
  · have := q v v 16384 16384 (by omega) (by omega); have := Int.mul_pos (show 0 < v by omega) (show 0 < v by omega); omega
  · have := q l l 65536 65536 (by omega) (by omega); have := p l; have := Int.mul_le_mul l0 l0 (by omega) (by omega); omega
  · have := q (n.1 + m.1) (v * v) 2097152 268435456 (by omega) (by have := q v v 16384 16384 (by omega) (by omega); omega); omega
  · have := q (n.2 + m.2) (v * v) 2097152 268435456 (by omega) (by have := q v v 16384 16384 (by omega) (by omega); omega); omega
  · have := q (n.1 + m.1) v 2097152 16384 (by omega) (by omega); omega
  · have := q (n.2 + m.2) v 2097152 16384 (by omega) (by omega); omega
set_option maxRecDepth 100000 in
set_option maxHeartbeats 1000000 in
theorem tip1_any (x v q : Int) (g1 g2 : Nat) (w : World) (h1 : w.cell? ⟨g1, 0, none⟩ = some (.int .i64 v)) (h2 : w.cell? ⟨g2, 0, none⟩ = some (.int .i64 q))
    (b1 : -9223372036854775808 ≤ x * v ∧ x * v ≤ 9223372036854775807) (b2 : -9223372036854775808 ≤ x * v * v ∧ x * v * v ≤ 9223372036854775807) (b3 : 0 ≤ q ∧ q ≤ 1152921504606846976) :
    Calls Try.prog 48 #[.int .i64 x, .pointer (some ⟨g1, 0, none⟩), .pointer (some ⟨g2, 0, none⟩)] w fun e w' => e = .returned (.int .i64 (dvr (x * (v * v)) (2 * q))) ∧ Keeps w w' := by
  have KD := Lib.hid (fun w => dvr_any (x * v * v) (2 * q) w b2.1 b2.2 (by omega) (by omega))
  rw [Int.mul_assoc x v v] at KD b2
  have e1 : IntKind.i64.wrap (x * v) = x * v := i64_in _ (by omega)
  have e2 : IntKind.i64.wrap (x * v * v) = x * (v * v) := (i64_in _ (by rw [Int.mul_assoc]; omega)).trans (Int.mul_assoc _ _ _)
  have e3 : IntKind.i64.wrap (2 * q) = 2 * q := i64_in _ (by omega)
  have hk0 := Keeps.refl w
  generalize dvr (x * (v * v)) (2 * q) = r at *
  clear b1 b2 b3
  go_enter Try.func48, Try.ntmps48
  go_wp2_with (first | (go_at_call 49; (with_reducible refine (keepk (KD.out _) hk0).mono ?_); rintro e w1 ⟨rfl, hk⟩) | fail "ARM")
  go_ret
  exact ⟨rfl, hk⟩
end Go.Proofs.Ytdodgnpjlicnoaa
