/- Contracts of OffsetVector, of strokegeom and of reference 22. -/
import Derived.Test.YtdodgnpjlicnoaaGreatQh
import Derived.Test.YtdodgnpjlicnoaaGreatOd
namespace Go.Proofs.YtdodgnpjlicnoaaGreat
open Go.RowKit
attribute [local go_sem ↓] Go.wp_at_zero Go.wp_at_succ
set_option linter.unusedVariables false
set_option linter.unusedSimpArgs false
def inB (n lo hi : Int) : Bool := decide (lo ≤ n) && decide (n ≤ hi)
def wideB (n : Int) : Bool := inB n 1 16384
theorem inB_iff (n lo hi : Int) : inB n lo hi = true ↔ lo ≤ n ∧ n ≤ hi := by unfold inB; simp
theorem inB_no (n lo hi : Int) : inB n lo hi = false ↔ n < lo ∨ hi < n := by
  have := inB_iff n lo hi
  cases h : inB n lo hi <;> simp [h] at this ⊢ <;> omega
def ofsL (p : Pt) : Nat := isq (65536 * (p.1 * p.1 + p.2 * p.2)).toNat
def ofsOk (p : Pt) (w : Int) : Bool := wideB w && inB p.1 (-2097152) 2097152 && inB p.2 (-2097152) 2097152
def ofs (p : Pt) (w : Int) : Pt := if ofsOk p w = true then (dvr (-p.2 * w * 128) (ofsL p), dvr (p.1 * w * 128) (ofsL p)) else pt0
theorem wide_any (n : Int) (w : World) : Calls Tryz.prog 24 #[.int .i64 n] w fun e w' => e = .returned (.bool (wideB n)) ∧ w = w' := by
  go_enter Tryz.func24, Tryz.ntmps24
  go_wp2
  all_goals (go_ret; refine ⟨ret_bool ?_, rfl⟩; unfold wideB inB; simp; omega)
theorem within_any (n lo hi : Int) (w : World) : Calls Tryz.prog 38 #[.int .i64 n, .int .i64 lo, .int .i64 hi] w fun e w' => e = .returned (.bool (inB n lo hi)) ∧ w = w' := by
  go_enter Tryz.func38, Tryz.ntmps38
  go_wp2
  all_goals (go_ret; refine ⟨ret_bool ?_, rfl⟩; unfold inB; simp; omega)
theorem rwidth_any (n : Int) (w : World) : Calls Tryz.prog 37 #[.int .i64 n] w fun e w' => e = .returned (.bool (wideB n)) ∧ w = w' := by
  have K := Lib.hid (fun w => within_any n 1 16384 w)
  rw [show inB n 1 16384 = wideB n from rfl] at K
  generalize wideB n = v at *
  go_enter Tryz.func37, Tryz.ntmps37
  go_wp2_with (go_at_call 38; (with_reducible refine (K.out _).mono ?_); rintro e w1 ⟨rfl, rfl⟩)
  go_ret
  exact ⟨rfl, rfl⟩
theorem far_any (n : Int) (w : World) : Calls Tryz.prog 87 #[.int .i64 n] w fun e w' => e = .returned (.bool (!inB n (-2097152) 2097152)) ∧ w = w' := by
  go_enter Tryz.func87, Tryz.ntmps87
  go_wp2
  all_goals (go_ret; refine ⟨ret_bool ?_, rfl⟩; rw [Bool.eq_iff_iff, Bool.not_eq_true', inB_no]; try simp only [Bool.or_eq_true, decide_eq_true_eq, Bool.false_eq_true, false_iff, true_iff]; try omega)
theorem sq_bd (a : Int) (h0 : -2097152 ≤ a) (h1 : a ≤ 2097152) : ∃ p : Int, a * a = p ∧ 0 ≤ p ∧ p ≤ 4398046511104 := by
  refine ⟨_, rfl, ?_, ?_⟩
  · rcases Int.le_total 0 a with h | h
    · exact Int.mul_nonneg h h
    · exact Int.mul_nonneg_of_nonpos_of_nonpos h h
  · have h := Nat.mul_le_mul (show a.natAbs ≤ 2097152 by omega) (show a.natAbs ≤ 2097152 by omega)
    rw [← Int.natAbs_mul] at h
    omega
theorem ofs_ar (x y v : Int) (h : ofsOk (x, y) v = true) : ∃ (a b u u2 t t2 : Int) (m s : Nat), x * x = a ∧ y * y = b ∧ 0 ≤ a ∧ 0 ≤ b ∧ a ≤ 4398046511104 ∧ b ≤ 4398046511104 ∧ -y * v = u ∧ u * 128 = u2 ∧ x * v = t ∧ t * 128 = t2 ∧
    -17592186044416 ≤ u ∧ u ≤ 17592186044416 ∧ -17592186044416 ≤ t ∧ t ≤ 17592186044416 ∧ 65536 * (a + b) = (m : Int) ∧ isq m = s ∧ (s : Int) ≤ 4294967295 ∧ Hid (ofs (x, y) v = (dvr u2 (s : Int), dvr t2 (s : Int))) ∧ (-2097152 ≤ x ∧ x ≤ 2097152) ∧ (-2097152 ≤ y ∧ y ≤ 2097152) ∧ (1 ≤ v ∧ v ≤ 16384) := by
  have h' := h
  unfold ofsOk wideB at h'
  simp only [Bool.and_eq_true, inB_iff] at h'
  obtain ⟨⟨h1, h2⟩, h3⟩ := h'
  obtain ⟨a, ea, a0, a1⟩ := sq_bd x h2.1 h2.2
  obtain ⟨b, eb, b0, b1⟩ := sq_bd y h3.1 h3.2
  obtain ⟨u, eu, u0, u1⟩ := mul_bd (-y) v (by omega) (by omega) (by omega) (by omega)
  obtain ⟨t, et, t0, t1⟩ := mul_bd x v (by omega) (by omega) (by omega) (by omega)
  have hm : (((65536 * (a + b)).toNat : Nat) : Int) = 65536 * (a + b) := by omega
  have hlt := isq_lt (65536 * (a + b)).toNat (by omega)
  refine ⟨a, b, u, _, t, _, (65536 * (a + b)).toNat, _, ea, eb, a0, b0, a1, b1, eu, rfl, et, rfl, u0, u1, t0, t1, hm.symm, rfl, by omega, Lib.hid ?_, h2, h3, h1⟩
  unfold ofs ofsL
  rw [if_pos h]
  simp only [ea, eb, eu, et]
theorem ofs_no (p : Pt) (v : Int) (h : ofsOk p v = false) : ofs p v = pt0 := by unfold ofs; rw [if_neg (by rw [h]; simp)]
theorem ofs_00 (v : Int) : ofs (0, 0) v = pt0 := by
  unfold ofs
  split
  · have e : ofsL (0, 0) = 0 := by
      unfold ofsL
      rw [show (65536 * (((0, 0) : Pt).1 * ((0, 0) : Pt).1 + ((0, 0) : Pt).2 * ((0, 0) : Pt).2)).toNat = 0 from rfl]
      exact isq_unique 0 0 (by omega) (by omega) (by omega)
    rw [e]
    simp only [Int.neg_zero, Int.zero_mul]
    rw [show ((0 : Nat) : Int) = 0 from rfl, dvr_zero]; rfl
  · rfl
set_option maxRecDepth 100000 in
set_option maxHeartbeats 4000000 in
theorem ofs_any (x y v : Int) (w : World) :
    Calls Tryz.prog 67 #[.agg #[.int .i64 x, .int .i64 y], .int .i64 v] w fun e w' => e = .returned (.agg #[.int .i64 (ofs (x, y) v).1, .int .i64 (ofs (x, y) v).2]) ∧ Keeps w w' := by
  have g3 := ptGuard
  have g4 := ptEql
  have KW := Lib.hid (fun w => wide_any v w)
  have KX := Lib.hid (fun w => far_any x w)
  have KY := Lib.hid (fun w => far_any y w)
  have HS := Lib.hid (show ∀ w', Keeps ((w.alloc (.cells #[.int .i64 x, .int .i64 y] 37)).alloc (.cells #[.int .i64 0, .int .i64 0] 37)) w' → w'.cell? ⟨w.heap.size, 0, none⟩ = some (.int .i64 x) ∧ w'.frozen? ⟨w.heap.size, 0, none⟩ = false ∧ w'.cell? ⟨w.heap.size, 1, none⟩ = some (.int .i64 y) ∧ w'.frozen? ⟨w.heap.size, 1, none⟩ = false ∧ w'.cell? ⟨w.heap.size + 1, 0, none⟩ = some (.int .i64 0) ∧ w'.frozen? ⟨w.heap.size + 1, 0, none⟩ = false ∧ w'.cell? ⟨w.heap.size + 1, 1, none⟩ = some (.int .i64 0) ∧ w'.frozen? ⟨w.heap.size + 1, 1, none⟩ = false from fun w' hk => ⟨(hk.cell (p := ⟨w.heap.size, 0, none⟩) (by first | (simp; done) | (simp; omega))).trans (by simp [go_sem]), (hk.frozen (p := ⟨w.heap.size, 0, none⟩) (by first | (simp; done) | (simp; omega))).trans (by simp [go_sem]), (hk.cell (p := ⟨w.heap.size, 1, none⟩) (by first | (simp; done) | (simp; omega))).trans (by simp [go_sem]), (hk.frozen (p := ⟨w.heap.size, 1, none⟩) (by first | (simp; done) | (simp; omega))).trans (by simp [go_sem]), (hk.cell (p := ⟨w.heap.size + 1, 0, none⟩) (by first | (simp; done) | (simp; omega))).trans (by simp [go_sem]), (hk.frozen (p := ⟨w.heap.size + 1, 0, none⟩) (by first | (simp; done) | (simp; omega))).trans (by simp [go_sem]), (hk.cell (p := ⟨w.heap.size + 1, 1, none⟩) (by first | (simp; done) | (simp; omega))).trans (by simp [go_sem]), (hk.frozen (p := ⟨w.heap.size + 1, 1, none⟩) (by first | (simp; done) | (simp; omega))).trans (by simp [go_sem])⟩)
  have HB := Lib.hid (show Keeps w ((w.alloc (.cells #[.int .i64 x, .int .i64 y] 37)).alloc (.cells #[.int .i64 0, .int .i64 0] 37)) from (by (repeat (first | (with_reducible exact Keeps.refl _) | (with_reducible assumption) | (with_reducible refine Keeps.drewN ?_ _) | (with_reducible refine Keeps.drew ?_) | (with_reducible refine Keeps.alloc ?_ _) | (with_reducible refine Keeps.setNew ?_ ?_ _))) <;> (dsimp only; omega)))
  have hk0 := Keeps.refl ((w.alloc (.cells #[.int .i64 x, .int .i64 y] 37)).alloc (.cells #[.int .i64 0, .int .i64 0] 37))
  cases hok : ofsOk (x, y) v with
  | false =>
    rw [ofs_no _ _ hok]
    have h3 : wideB v = false ∨ wideB v = true ∧ inB x (-2097152) 2097152 = false ∨ wideB v = true ∧ inB x (-2097152) 2097152 = true ∧ inB y (-2097152) 2097152 = false := by
      unfold ofsOk at hok
      revert hok
      cases wideB v <;> cases inB x (-2097152) 2097152 <;> cases inB y (-2097152) 2097152 <;> simp
    clear hok
    rcases h3 with h3 | ⟨h3, h4⟩ | ⟨h3, h4, h5⟩
    · rw [h3] at KW
      clear h3
      go_enter Tryz.func67, Tryz.ntmps67
      go_wp2_with (first | (go_at_call 24; (with_reducible refine (KW.out _).mono ?_); rintro e w1 ⟨rfl, rfl⟩))
      exact bodyPost_ret (v := .agg #[.int .i64 0, .int .i64 0]) (by simp [results, Tryz.results67, go_sem, *]) rfl ⟨rfl, HB.out⟩
    · rw [h3] at KW
      rw [h4] at KX
      clear h3 h4
      go_enter Tryz.func67, Tryz.ntmps67
      go_wp2_with (first | (go_at_call 24; (with_reducible refine (KW.out _).mono ?_); rintro e w1 ⟨rfl, rfl⟩) | (go_at_call 87; (with_reducible refine (KX.out _).mono ?_); rintro e w1 ⟨rfl, rfl⟩))
      exact bodyPost_ret (v := .agg #[.int .i64 0, .int .i64 0]) (by simp [results, Tryz.results67, go_sem, *]) rfl ⟨rfl, HB.out⟩
    · rw [h3] at KW
      rw [h4] at KX
      rw [h5] at KY
      clear h3 h4 h5
      go_enter Tryz.func67, Tryz.ntmps67
      go_wp2_with (first | (go_at_call 24; (with_reducible refine (KW.out _).mono ?_); rintro e w1 ⟨rfl, rfl⟩) | (go_at_call 87; (first | (with_reducible refine (KX.out _).mono ?_) | (with_reducible refine (KY.out _).mono ?_)); rintro e w1 ⟨rfl, rfl⟩))
      exact bodyPost_ret (v := .agg #[.int .i64 0, .int .i64 0]) (by simp [results, Tryz.results67, go_sem, *]) rfl ⟨rfl, HB.out⟩
  | true =>
    have h' := hok
    unfold ofsOk at h'
    simp only [Bool.and_eq_true] at h'
    obtain ⟨⟨h1, h2⟩, h3⟩ := h'
    try dsimp only at h2 h3
    rw [h1] at KW
    rw [h2] at KX
    rw [h3] at KY
    clear h1 h2 h3
    cases hz : ((x == 0) && (y == 0)) with
    | true =>
      have hz2 := hz
      simp at hz2
      obtain ⟨rfl, rfl⟩ := hz2
      rw [ofs_00]
      clear hok hz
      go_enter Tryz.func67, Tryz.ntmps67
      go_wp2_with (first | (go_at_call 24; (with_reducible refine (KW.out _).mono ?_); rintro e w1 ⟨rfl, rfl⟩) | (go_at_call 87; (first | (with_reducible refine (KX.out _).mono ?_) | (with_reducible refine (KY.out _).mono ?_)); rintro e w1 ⟨rfl, rfl⟩))
      exact bodyPost_ret (v := .agg #[.int .i64 0, .int .i64 0]) (by simp [results, Tryz.results67, go_sem, *]) rfl ⟨rfl, HB.out⟩
    | false =>
      obtain ⟨a, b, u, u2, t, t2, m, s, ea, eb, a0, b0, a1, b1, eu, eu2, et, et2, u0, u1, t0, t1, em, es, s1, hO, ⟨x0, x1⟩, ⟨y0', y1'⟩, hv⟩ := ofs_ar x y v hok
      rw [hO.out]
      have r1 : IntKind.i64.wrap (-y) = -y := IntWalk.i64_in _ (by omega)
      have r2 : IntKind.i64.wrap u = u := IntWalk.i64_in _ (by omega)
      have r3 : IntKind.i64.wrap u2 = u2 := IntWalk.i64_in _ (by omega)
      have r4 : IntKind.i64.wrap t = t := IntWalk.i64_in _ (by omega)
      have r5 : IntKind.i64.wrap t2 = t2 := IntWalk.i64_in _ (by omega)
      have KS := Lib.hid (fun w => sqrt_any m w)
      rw [es] at KS
      have KU := Lib.hid (fun w => dvr_any u2 (s : Int) w (by omega) (by omega) (by omega) (by omega))
      have KT := Lib.hid (fun w => dvr_any t2 (s : Int) w (by omega) (by omega) (by omega) (by omega))
      generalize dvr u2 (s : Int) = U at *
      generalize dvr t2 (s : Int) = T at *
      clear es hO hok hv
      go_enter Tryz.func67, Tryz.ntmps67
      go_wp2_with (first | (go_at_call 24; (with_reducible refine (KW.out _).mono ?_); rintro e w1 ⟨rfl, rfl⟩) | (go_at_call 87; (first | (with_reducible refine (KX.out _).mono ?_) | (with_reducible refine (KY.out _).mono ?_)); rintro e w1 ⟨rfl, rfl⟩) | (go_at_call 88; (with_reducible refine (KS.out _).mono ?_); rintro e w1 ⟨rfl, rfl⟩))
      go_region_held3 (fun w' => w'.cell? ⟨w.heap.size, 0, none⟩ = some (.int .i64 x) ∧ w'.cell? ⟨w.heap.size, 1, none⟩ = some (.int .i64 y)) (first | go_keep | (have := HS.out _ hk; exact ⟨this.1, this.2.2.1⟩))
        (first | (go_at_call 65; (first | (with_reducible refine (keep (KU.out _) (by first | assumption | exact Keeps.drew (by assumption) | exact Keeps.drewN (by assumption) _)).mono ?_) | (with_reducible refine (keep (KT.out _) (by first | assumption | exact Keeps.drew (by assumption) | exact Keeps.drewN (by assumption) _)).mono ?_)); rintro e w1 ⟨rfl, hk⟩; have hj := Keeps.trans HB.out hk; have hk := hk; obtain ⟨y0, y1, y2, y3, y4, y5, y6, y7⟩ := HS.out _ hk))
      all_goals go_wp2_with fail
      all_goals exact bodyPost_ret (v := .agg #[.int .i64 U, .int .i64 T]) (by simp [results, Tryz.results67, go_sem, *]) rfl ⟨rfl, (by (repeat (first | (with_reducible exact Keeps.refl _) | (with_reducible assumption) | (with_reducible refine Keeps.drewN ?_ _) | (with_reducible refine Keeps.drew ?_) | (with_reducible refine Keeps.alloc ?_ _) | (with_reducible refine Keeps.setNew ?_ ?_ _))) <;> (dsimp only; omega))⟩
set_option maxRecDepth 100000 in
set_option maxHeartbeats 4000000 in
theorem rofs_any (x y v : Int) (w : World) :
    Calls Tryz.prog 75 #[.agg #[.int .i64 x, .int .i64 y], .int .i64 v] w fun e w' => e = .returned (.agg #[.int .i64 (ofs (x, y) v).1, .int .i64 (ofs (x, y) v).2]) ∧ Keeps w w' := by
  have KW := Lib.hid (fun w => rwidth_any v w)
  have KX := Lib.hid (fun w => within_any x (-2097152) 2097152 w)
  have KY := Lib.hid (fun w => within_any y (-2097152) 2097152 w)
  have HS := Lib.hid (show ∀ w', Keeps ((w.alloc (.cells #[.int .i64 x, .int .i64 y] 37)).alloc (.cells #[.int .i64 0, .int .i64 0] 37)) w' → w'.cell? ⟨w.heap.size, 0, none⟩ = some (.int .i64 x) ∧ w'.frozen? ⟨w.heap.size, 0, none⟩ = false ∧ w'.cell? ⟨w.heap.size, 1, none⟩ = some (.int .i64 y) ∧ w'.frozen? ⟨w.heap.size, 1, none⟩ = false ∧ w'.cell? ⟨w.heap.size + 1, 0, none⟩ = some (.int .i64 0) ∧ w'.frozen? ⟨w.heap.size + 1, 0, none⟩ = false ∧ w'.cell? ⟨w.heap.size + 1, 1, none⟩ = some (.int .i64 0) ∧ w'.frozen? ⟨w.heap.size + 1, 1, none⟩ = false from fun w' hk => ⟨(hk.cell (p := ⟨w.heap.size, 0, none⟩) (by first | (simp; done) | (simp; omega))).trans (by simp [go_sem]), (hk.frozen (p := ⟨w.heap.size, 0, none⟩) (by first | (simp; done) | (simp; omega))).trans (by simp [go_sem]), (hk.cell (p := ⟨w.heap.size, 1, none⟩) (by first | (simp; done) | (simp; omega))).trans (by simp [go_sem]), (hk.frozen (p := ⟨w.heap.size, 1, none⟩) (by first | (simp; done) | (simp; omega))).trans (by simp [go_sem]), (hk.cell (p := ⟨w.heap.size + 1, 0, none⟩) (by first | (simp; done) | (simp; omega))).trans (by simp [go_sem]), (hk.frozen (p := ⟨w.heap.size + 1, 0, none⟩) (by first | (simp; done) | (simp; omega))).trans (by simp [go_sem]), (hk.cell (p := ⟨w.heap.size + 1, 1, none⟩) (by first | (simp; done) | (simp; omega))).trans (by simp [go_sem]), (hk.frozen (p := ⟨w.heap.size + 1, 1, none⟩) (by first | (simp; done) | (simp; omega))).trans (by simp [go_sem])⟩)
  have HB := Lib.hid (show Keeps w ((w.alloc (.cells #[.int .i64 x, .int .i64 y] 37)).alloc (.cells #[.int .i64 0, .int .i64 0] 37)) from (by (repeat (first | (with_reducible exact Keeps.refl _) | (with_reducible assumption) | (with_reducible refine Keeps.drewN ?_ _) | (with_reducible refine Keeps.drew ?_) | (with_reducible refine Keeps.alloc ?_ _) | (with_reducible refine Keeps.setNew ?_ ?_ _))) <;> (dsimp only; omega)))
  have hk0 := Keeps.refl ((w.alloc (.cells #[.int .i64 x, .int .i64 y] 37)).alloc (.cells #[.int .i64 0, .int .i64 0] 37))
  cases hok : ofsOk (x, y) v with
  | false =>
    rw [ofs_no _ _ hok]
    have h3 : wideB v = false ∨ wideB v = true ∧ inB x (-2097152) 2097152 = false ∨ wideB v = true ∧ inB x (-2097152) 2097152 = true ∧ inB y (-2097152) 2097152 = false := by
      unfold ofsOk at hok
      revert hok
      cases wideB v <;> cases inB x (-2097152) 2097152 <;> cases inB y (-2097152) 2097152 <;> simp
    clear hok
    rcases h3 with h3 | ⟨h3, h4⟩ | ⟨h3, h4, h5⟩
    · rw [h3] at KW
      clear h3
      go_enter Tryz.func75, Tryz.ntmps75
      go_wp2_with (first | (go_at_call 37; (with_reducible refine (KW.out _).mono ?_); rintro e w1 ⟨rfl, rfl⟩))
      exact bodyPost_ret (v := .agg #[.int .i64 0, .int .i64 0]) (by simp [results, Tryz.results75, go_sem, *]) rfl ⟨rfl, HB.out⟩
    · rw [h3] at KW
      rw [h4] at KX
      clear h3 h4
      go_enter Tryz.func75, Tryz.ntmps75
      go_wp2_with (first | (go_at_call 37; (with_reducible refine (KW.out _).mono ?_); rintro e w1 ⟨rfl, rfl⟩) | (go_at_call 38; (with_reducible refine (KX.out _).mono ?_); rintro e w1 ⟨rfl, rfl⟩))
      exact bodyPost_ret (v := .agg #[.int .i64 0, .int .i64 0]) (by simp [results, Tryz.results75, go_sem, *]) rfl ⟨rfl, HB.out⟩
    · rw [h3] at KW
      rw [h4] at KX
      rw [h5] at KY
      clear h3 h4 h5
      go_enter Tryz.func75, Tryz.ntmps75
      go_wp2_with (first | (go_at_call 37; (with_reducible refine (KW.out _).mono ?_); rintro e w1 ⟨rfl, rfl⟩) | (go_at_call 38; (first | (with_reducible refine (KX.out _).mono ?_) | (with_reducible refine (KY.out _).mono ?_)); rintro e w1 ⟨rfl, rfl⟩))
      exact bodyPost_ret (v := .agg #[.int .i64 0, .int .i64 0]) (by simp [results, Tryz.results75, go_sem, *]) rfl ⟨rfl, HB.out⟩
  | true =>
    have h' := hok
    unfold ofsOk at h'
    simp only [Bool.and_eq_true] at h'
    obtain ⟨⟨h1, h2⟩, h3⟩ := h'
    try dsimp only at h2 h3
    rw [h1] at KW
    rw [h2] at KX
    rw [h3] at KY
    clear h1 h2 h3
    obtain ⟨a, b, u, u2, t, t2, m, s, ea, eb, a0, b0, a1, b1, eu, eu2, et, et2, u0, u1, t0, t1, em, es, s1, hO, ⟨x0, x1⟩, ⟨y0', y1'⟩, hv⟩ := ofs_ar x y v hok
    rw [hO.out]
    have r1 : IntKind.i64.wrap (-y) = -y := IntWalk.i64_in _ (by omega)
    have r2 : IntKind.i64.wrap u = u := IntWalk.i64_in _ (by omega)
    have r3 : IntKind.i64.wrap u2 = u2 := IntWalk.i64_in _ (by omega)
    have r4 : IntKind.i64.wrap t = t := IntWalk.i64_in _ (by omega)
    have r5 : IntKind.i64.wrap t2 = t2 := IntWalk.i64_in _ (by omega)
    have KS := Lib.hid (fun w => rsqrt_any m w)
    rw [es] at KS
    have KU := Lib.hid (fun w => rdvr_any u2 (s : Int) w (by omega) (by omega) (by omega) (by omega))
    have KT := Lib.hid (fun w => rdvr_any t2 (s : Int) w (by omega) (by omega) (by omega) (by omega))
    generalize dvr u2 (s : Int) = U at *
    generalize dvr t2 (s : Int) = T at *
    clear es hO hok hv
    go_enter Tryz.func75, Tryz.ntmps75
    go_wp2_with (first | (go_at_call 37; (with_reducible refine (KW.out _).mono ?_); rintro e w1 ⟨rfl, rfl⟩) | (go_at_call 38; (first | (with_reducible refine (KX.out _).mono ?_) | (with_reducible refine (KY.out _).mono ?_)); rintro e w1 ⟨rfl, rfl⟩) | (go_at_call 93; (with_reducible refine (KS.out _).mono ?_); rintro e w1 ⟨rfl, rfl⟩))
    go_region_held3 (fun w' => w'.cell? ⟨w.heap.size, 0, none⟩ = some (.int .i64 x) ∧ w'.cell? ⟨w.heap.size, 1, none⟩ = some (.int .i64 y)) (first | go_keep | (have := HS.out _ hk; exact ⟨this.1, this.2.2.1⟩))
      (first | (go_at_call 82; (first | (with_reducible refine (keepk (KU.out _) (by first | assumption | exact Keeps.drew (by assumption) | exact Keeps.drewN (by assumption) _)).mono ?_) | (with_reducible refine (keepk (KT.out _) (by first | assumption | exact Keeps.drew (by assumption) | exact Keeps.drewN (by assumption) _)).mono ?_)); rintro e w1 ⟨rfl, hk⟩; have hj := Keeps.trans HB.out hk; have hk := hk; obtain ⟨y0, y1, y2, y3, y4, y5, y6, y7⟩ := HS.out _ hk))
    all_goals go_wp2_with fail
    all_goals exact bodyPost_ret (v := .agg #[.int .i64 U, .int .i64 T]) (by simp [results, Tryz.results75, go_sem, *]) rfl ⟨rfl, (by (repeat (first | (with_reducible exact Keeps.refl _) | (with_reducible assumption) | (with_reducible refine Keeps.drewN ?_ _) | (with_reducible refine Keeps.drew ?_) | (with_reducible refine Keeps.alloc ?_ _) | (with_reducible refine Keeps.setNew ?_ ?_ _))) <;> (dsimp only; omega))⟩
end Go.Proofs.YtdodgnpjlicnoaaGreat
