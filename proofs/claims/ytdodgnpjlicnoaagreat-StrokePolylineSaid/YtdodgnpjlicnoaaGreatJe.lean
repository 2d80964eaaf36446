/- Contract of grisaille/linejoin.OuterNormals. -/
import Derived.Test.YtdodgnpjlicnoaaGreatJd
import Derived.Test.YtdodgnpjlicnoaaGreatRi
import Derived.RegionTactic
namespace Go.Proofs.YtdodgnpjlicnoaaGreat
open Go.RowKit
attribute [local go_sem ↓] Go.wp_at_zero Go.wp_at_succ
set_option linter.unusedVariables false
set_option linter.unusedSimpArgs false
def outC (u v b : Pt) : Int := crossI (v.1 - u.1) (v.2 - u.2) (b.1 - v.1) (b.2 - v.2)
def outB (u v b : Pt) (wd : Int) : Bool := vP u && vP v && vP b && wideB wd && decide (outC u v b ≠ 0)
def negP (p : Pt) : Pt := (-p.1, -p.2)
def outN (u v b : Pt) (wd : Int) : Pt := if outB u v b wd = true then (if 0 < outC u v b then negP (ofs (subP v u) wd) else ofs (subP v u) wd) else pt0
def outM (u v b : Pt) (wd : Int) : Pt := if outB u v b wd = true then (if 0 < outC u v b then negP (ofs (subP b v) wd) else ofs (subP b v) wd) else pt0
theorem out_no {u v b : Pt} {wd : Int} (h : outB u v b wd = false) : vP u = false ∨ vP u = true ∧ vP v = false ∨ vP u = true ∧ vP v = true ∧ vP b = false ∨ vP u = true ∧ vP v = true ∧ vP b = true ∧ wideB wd = false ∨
    vP u = true ∧ vP v = true ∧ vP b = true ∧ wideB wd = true ∧ outC u v b = 0 := by
  unfold outB at h
  revert h
  cases vP u <;> cases vP v <;> cases vP b <;> cases wideB wd <;> simp
theorem out_yes {u v b : Pt} {wd : Int} (h : outB u v b wd = true) : vP u = true ∧ vP v = true ∧ vP b = true ∧ wideB wd = true ∧ (outC u v b < 0 ∨ 0 < outC u v b) := by
  unfold outB at h
  simp only [Bool.and_eq_true, decide_eq_true_eq] at h
  obtain ⟨⟨⟨⟨h1, h2⟩, h3⟩, h4⟩, h5⟩ := h
  exact ⟨h1, h2, h3, h4, by omega⟩
theorem out_bd (u v b : Pt) (h1 : vP u = true) (h2 : vP v = true) (h3 : vP b = true) : ∃ xa xb ya yb r s : Int, v.1 - u.1 = xa ∧ v.2 - u.2 = xb ∧ b.1 - v.1 = ya ∧ b.2 - v.2 = yb ∧ xa * yb = r ∧ xb * ya = s ∧ (-2097152 ≤ xa ∧ xa ≤ 2097152) ∧ (-2097152 ≤ xb ∧ xb ≤ 2097152) ∧ (-2097152 ≤ ya ∧ ya ≤ 2097152) ∧ (-2097152 ≤ yb ∧ yb ≤ 2097152) ∧ (-4398046511104 ≤ r ∧ r ≤ 4398046511104) ∧ (-4398046511104 ≤ s ∧ s ≤ 4398046511104) ∧ outC u v b = r - s := by
  have g1 := (vP_bd h1).2.2
  have g2 := (vP_bd h2).2.2
  have g3 := (vP_bd h3).2.2
  have q : ∀ x y : Int, (-2097152 ≤ x ∧ x ≤ 2097152) → (-2097152 ≤ y ∧ y ≤ 2097152) → -4398046511104 ≤ x * y ∧ x * y ≤ 4398046511104 := fun x y hx hy => by
    have := Nat.mul_le_mul (show x.natAbs ≤ 2097152 by omega) (show y.natAbs ≤ 2097152 by omega)
    rw [← Int.natAbs_mul] at this; omega
  exact ⟨_, _, _, _, _, _, rfl, rfl, rfl, rfl, rfl, rfl, ⟨by omega, by omega⟩, ⟨by omega, by omega⟩, ⟨by omega, by omega⟩, ⟨by omega, by omega⟩, q _ _ ⟨by omega, by omega⟩ ⟨by omega, by omega⟩, q _ _ ⟨by omega, by omega⟩ ⟨by omega, by omega⟩, rfl⟩
set_option maxRecDepth 100000 in
set_option maxHeartbeats 8000000 in
theorem lout_any (u v b : Pt) (wd : Int) (w : World) :
    Calls Tryz.prog 55 #[.agg #[.int .i64 u.1, .int .i64 u.2], .agg #[.int .i64 v.1, .int .i64 v.2], .agg #[.int .i64 b.1, .int .i64 b.2], .int .i64 wd] w fun e w' => e = .returned (.tuple #[.agg #[.int .i64 (outN u v b wd).1, .int .i64 (outN u v b wd).2], .agg #[.int .i64 (outM u v b wd).1, .int .i64 (outM u v b wd).2], .bool (outB u v b wd)]) ∧ Keeps w w' := by
  have KA := Lib.hid (fun w => valid_any u.1 u.2 w)
  have KV := Lib.hid (fun w => valid_any v.1 v.2 w)
  have KB := Lib.hid (fun w => valid_any b.1 b.2 w)
  have KW := Lib.hid (fun w => lwide_any wd w)
  rw [show validB u.1 u.2 = vP u from rfl] at KA
  rw [show validB v.1 v.2 = vP v from rfl] at KV
  rw [show validB b.1 b.2 = vP b from rfl] at KB
  have HS := Lib.hid (show ∀ w', Keeps (((((w.alloc (.cells #[.int .i64 u.1, .int .i64 u.2] 37)).alloc (.cells #[.int .i64 v.1, .int .i64 v.2] 37)).alloc (.cells #[.int .i64 b.1, .int .i64 b.2] 37)).alloc (.cells #[.int .i64 0, .int .i64 0] 37)).alloc (.cells #[.int .i64 0, .int .i64 0] 37)) w' → w'.cell? ⟨w.heap.size, 0, none⟩ = some (.int .i64 u.1) ∧ w'.frozen? ⟨w.heap.size, 0, none⟩ = false ∧ w'.cell? ⟨w.heap.size, 1, none⟩ = some (.int .i64 u.2) ∧ w'.frozen? ⟨w.heap.size, 1, none⟩ = false ∧ w'.cell? ⟨w.heap.size + 1, 0, none⟩ = some (.int .i64 v.1) ∧ w'.frozen? ⟨w.heap.size + 1, 0, none⟩ = false ∧ w'.cell? ⟨w.heap.size + 1, 1, none⟩ = some (.int .i64 v.2) ∧ w'.frozen? ⟨w.heap.size + 1, 1, none⟩ = false ∧ w'.cell? ⟨w.heap.size + 1 + 1, 0, none⟩ = some (.int .i64 b.1) ∧ w'.frozen? ⟨w.heap.size + 1 + 1, 0, none⟩ = false ∧ w'.cell? ⟨w.heap.size + 1 + 1, 1, none⟩ = some (.int .i64 b.2) ∧ w'.frozen? ⟨w.heap.size + 1 + 1, 1, none⟩ = false ∧ w'.cell? ⟨w.heap.size + 1 + 1 + 1, 0, none⟩ = some (.int .i64 0) ∧ w'.frozen? ⟨w.heap.size + 1 + 1 + 1, 0, none⟩ = false ∧ w'.cell? ⟨w.heap.size + 1 + 1 + 1, 1, none⟩ = some (.int .i64 0) ∧ w'.frozen? ⟨w.heap.size + 1 + 1 + 1, 1, none⟩ = false ∧ w'.cell? ⟨w.heap.size + 1 + 1 + 1 + 1, 0, none⟩ = some (.int .i64 0) ∧ w'.frozen? ⟨w.heap.size + 1 + 1 + 1 + 1, 0, none⟩ = false ∧ w'.cell? ⟨w.heap.size + 1 + 1 + 1 + 1, 1, none⟩ = some (.int .i64 0) ∧ w'.frozen? ⟨w.heap.size + 1 + 1 + 1 + 1, 1, none⟩ = false from fun w' hk => ⟨(hk.cell (p := ⟨w.heap.size, 0, none⟩) (by first | (simp; done) | (simp; omega))).trans (by simp [go_sem]), (hk.frozen (p := ⟨w.heap.size, 0, none⟩) (by first | (simp; done) | (simp; omega))).trans (by simp [go_sem]), (hk.cell (p := ⟨w.heap.size, 1, none⟩) (by first | (simp; done) | (simp; omega))).trans (by simp [go_sem]), (hk.frozen (p := ⟨w.heap.size, 1, none⟩) (by first | (simp; done) | (simp; omega))).trans (by simp [go_sem]), (hk.cell (p := ⟨w.heap.size + 1, 0, none⟩) (by first | (simp; done) | (simp; omega))).trans (by simp [go_sem]), (hk.frozen (p := ⟨w.heap.size + 1, 0, none⟩) (by first | (simp; done) | (simp; omega))).trans (by simp [go_sem]), (hk.cell (p := ⟨w.heap.size + 1, 1, none⟩) (by first | (simp; done) | (simp; omega))).trans (by simp [go_sem]), (hk.frozen (p := ⟨w.heap.size + 1, 1, none⟩) (by first | (simp; done) | (simp; omega))).trans (by simp [go_sem]), (hk.cell (p := ⟨w.heap.size + 1 + 1, 0, none⟩) (by first | (simp; done) | (simp; omega))).trans (by simp [go_sem]), (hk.frozen (p := ⟨w.heap.size + 1 + 1, 0, none⟩) (by first | (simp; done) | (simp; omega))).trans (by simp [go_sem]), (hk.cell (p := ⟨w.heap.size + 1 + 1, 1, none⟩) (by first | (simp; done) | (simp; omega))).trans (by simp [go_sem]), (hk.frozen (p := ⟨w.heap.size + 1 + 1, 1, none⟩) (by first | (simp; done) | (simp; omega))).trans (by simp [go_sem]), (hk.cell (p := ⟨w.heap.size + 1 + 1 + 1, 0, none⟩) (by first | (simp; done) | (simp; omega))).trans (by simp [go_sem]), (hk.frozen (p := ⟨w.heap.size + 1 + 1 + 1, 0, none⟩) (by first | (simp; done) | (simp; omega))).trans (by simp [go_sem]), (hk.cell (p := ⟨w.heap.size + 1 + 1 + 1, 1, none⟩) (by first | (simp; done) | (simp; omega))).trans (by simp [go_sem]), (hk.frozen (p := ⟨w.heap.size + 1 + 1 + 1, 1, none⟩) (by first | (simp; done) | (simp; omega))).trans (by simp [go_sem]), (hk.cell (p := ⟨w.heap.size + 1 + 1 + 1 + 1, 0, none⟩) (by first | (simp; done) | (simp; omega))).trans (by simp [go_sem]), (hk.frozen (p := ⟨w.heap.size + 1 + 1 + 1 + 1, 0, none⟩) (by first | (simp; done) | (simp; omega))).trans (by simp [go_sem]), (hk.cell (p := ⟨w.heap.size + 1 + 1 + 1 + 1, 1, none⟩) (by first | (simp; done) | (simp; omega))).trans (by simp [go_sem]), (hk.frozen (p := ⟨w.heap.size + 1 + 1 + 1 + 1, 1, none⟩) (by first | (simp; done) | (simp; omega))).trans (by simp [go_sem])⟩)
  have HB := Lib.hid (show Keeps w (((((w.alloc (.cells #[.int .i64 u.1, .int .i64 u.2] 37)).alloc (.cells #[.int .i64 v.1, .int .i64 v.2] 37)).alloc (.cells #[.int .i64 b.1, .int .i64 b.2] 37)).alloc (.cells #[.int .i64 0, .int .i64 0] 37)).alloc (.cells #[.int .i64 0, .int .i64 0] 37)) from (by (repeat (first | (with_reducible exact Keeps.refl _) | (with_reducible assumption) | (with_reducible refine Keeps.drewN ?_ _) | (with_reducible refine Keeps.drew ?_) | (with_reducible refine Keeps.alloc ?_ _) | (with_reducible refine Keeps.setNew ?_ ?_ _))) <;> (dsimp only; omega)))
  have hk0 := Keeps.refl (((((w.alloc (.cells #[.int .i64 u.1, .int .i64 u.2] 37)).alloc (.cells #[.int .i64 v.1, .int .i64 v.2] 37)).alloc (.cells #[.int .i64 b.1, .int .i64 b.2] 37)).alloc (.cells #[.int .i64 0, .int .i64 0] 37)).alloc (.cells #[.int .i64 0, .int .i64 0] 37))
  unfold outN outM
  cases hb : outB u v b wd with
  | false =>
    simp only [if_neg (show ¬ (false = true) by decide)]
    rcases out_no hb with h1 | ⟨h1, h2⟩ | ⟨h1, h2, h3⟩ | ⟨h1, h2, h3, h4⟩ | ⟨h1, h2, h3, h4, h5⟩
    · rw [h1] at KA
      clear hb h1
      go_enter Tryz.func55, Tryz.ntmps55
      go_wp2_with (first | (go_at_call 28; (first | (with_reducible refine (keepk (KA.out _) (by first | assumption | exact Keeps.drew (by assumption) | exact Keeps.drewN (by assumption) _)).mono ?_) | (with_reducible refine (keepk (KV.out _) (by first | assumption | exact Keeps.drew (by assumption) | exact Keeps.drewN (by assumption) _)).mono ?_) | (with_reducible refine (keepk (KB.out _) (by first | assumption | exact Keeps.drew (by assumption) | exact Keeps.drewN (by assumption) _)).mono ?_) | fail "V"); rintro e w1 ⟨rfl, hk⟩; have hj := Keeps.trans HB.out hk; have hk := hk; obtain ⟨y0, y1, y2, y3, y4, y5, y6, y7, y8, y9, y10, y11, y12, y13, y14, y15, y16, y17, y18, y19⟩ := HS.out _ hk) | (go_at_call 70; (with_reducible refine (KW.out _).mono ?_); rintro e w1 ⟨rfl, rfl⟩) | fail "ARM")
      exact bodyPost_ret (v := .tuple #[.agg #[.int .i64 0, .int .i64 0], .agg #[.int .i64 0, .int .i64 0], .bool false]) (by simp [results, Tryz.results55, go_sem, *]) rfl ⟨rfl, (by (repeat (first | (with_reducible exact Keeps.refl _) | (with_reducible assumption) | (with_reducible refine Keeps.drewN ?_ _) | (with_reducible refine Keeps.drew ?_) | (with_reducible refine Keeps.alloc ?_ _) | (with_reducible refine Keeps.setNew ?_ ?_ _))) <;> (dsimp only; omega))⟩
    · rw [h1] at KA
      rw [h2] at KV
      clear hb h1 h2
      go_enter Tryz.func55, Tryz.ntmps55
      go_wp2_with (first | (go_at_call 28; (first | (with_reducible refine (keepk (KA.out _) (by first | assumption | exact Keeps.drew (by assumption) | exact Keeps.drewN (by assumption) _)).mono ?_) | (with_reducible refine (keepk (KV.out _) (by first | assumption | exact Keeps.drew (by assumption) | exact Keeps.drewN (by assumption) _)).mono ?_) | (with_reducible refine (keepk (KB.out _) (by first | assumption | exact Keeps.drew (by assumption) | exact Keeps.drewN (by assumption) _)).mono ?_) | fail "V"); rintro e w1 ⟨rfl, hk⟩; have hj := Keeps.trans HB.out hk; have hk := hk; obtain ⟨y0, y1, y2, y3, y4, y5, y6, y7, y8, y9, y10, y11, y12, y13, y14, y15, y16, y17, y18, y19⟩ := HS.out _ hk) | (go_at_call 70; (with_reducible refine (KW.out _).mono ?_); rintro e w1 ⟨rfl, rfl⟩) | fail "ARM")
      exact bodyPost_ret (v := .tuple #[.agg #[.int .i64 0, .int .i64 0], .agg #[.int .i64 0, .int .i64 0], .bool false]) (by simp [results, Tryz.results55, go_sem, *]) rfl ⟨rfl, (by (repeat (first | (with_reducible exact Keeps.refl _) | (with_reducible assumption) | (with_reducible refine Keeps.drewN ?_ _) | (with_reducible refine Keeps.drew ?_) | (with_reducible refine Keeps.alloc ?_ _) | (with_reducible refine Keeps.setNew ?_ ?_ _))) <;> (dsimp only; omega))⟩
    · rw [h1] at KA
      rw [h2] at KV
      rw [h3] at KB
      clear hb h1 h2 h3
      go_enter Tryz.func55, Tryz.ntmps55
      go_wp2_with (first | (go_at_call 28; (first | (with_reducible refine (keepk (KA.out _) (by first | assumption | exact Keeps.drew (by assumption) | exact Keeps.drewN (by assumption) _)).mono ?_) | (with_reducible refine (keepk (KV.out _) (by first | assumption | exact Keeps.drew (by assumption) | exact Keeps.drewN (by assumption) _)).mono ?_) | (with_reducible refine (keepk (KB.out _) (by first | assumption | exact Keeps.drew (by assumption) | exact Keeps.drewN (by assumption) _)).mono ?_) | fail "V"); rintro e w1 ⟨rfl, hk⟩; have hj := Keeps.trans HB.out hk; have hk := hk; obtain ⟨y0, y1, y2, y3, y4, y5, y6, y7, y8, y9, y10, y11, y12, y13, y14, y15, y16, y17, y18, y19⟩ := HS.out _ hk) | (go_at_call 70; (with_reducible refine (KW.out _).mono ?_); rintro e w1 ⟨rfl, rfl⟩) | fail "ARM")
      exact bodyPost_ret (v := .tuple #[.agg #[.int .i64 0, .int .i64 0], .agg #[.int .i64 0, .int .i64 0], .bool false]) (by simp [results, Tryz.results55, go_sem, *]) rfl ⟨rfl, (by (repeat (first | (with_reducible exact Keeps.refl _) | (with_reducible assumption) | (with_reducible refine Keeps.drewN ?_ _) | (with_reducible refine Keeps.drew ?_) | (with_reducible refine Keeps.alloc ?_ _) | (with_reducible refine Keeps.setNew ?_ ?_ _))) <;> (dsimp only; omega))⟩
    · rw [h1] at KA
      rw [h2] at KV
      rw [h3] at KB
      rw [h4] at KW
      clear hb h1 h2 h3 h4
      go_enter Tryz.func55, Tryz.ntmps55
      go_wp2_with (first | (go_at_call 28; (first | (with_reducible refine (keepk (KA.out _) (by first | assumption | exact Keeps.drew (by assumption) | exact Keeps.drewN (by assumption) _)).mono ?_) | (with_reducible refine (keepk (KV.out _) (by first | assumption | exact Keeps.drew (by assumption) | exact Keeps.drewN (by assumption) _)).mono ?_) | (with_reducible refine (keepk (KB.out _) (by first | assumption | exact Keeps.drew (by assumption) | exact Keeps.drewN (by assumption) _)).mono ?_) | fail "V"); rintro e w1 ⟨rfl, hk⟩; have hj := Keeps.trans HB.out hk; have hk := hk; obtain ⟨y0, y1, y2, y3, y4, y5, y6, y7, y8, y9, y10, y11, y12, y13, y14, y15, y16, y17, y18, y19⟩ := HS.out _ hk) | (go_at_call 70; (with_reducible refine (KW.out _).mono ?_); rintro e w1 ⟨rfl, rfl⟩) | fail "ARM")
      exact bodyPost_ret (v := .tuple #[.agg #[.int .i64 0, .int .i64 0], .agg #[.int .i64 0, .int .i64 0], .bool false]) (by simp [results, Tryz.results55, go_sem, *]) rfl ⟨rfl, (by (repeat (first | (with_reducible exact Keeps.refl _) | (with_reducible assumption) | (with_reducible refine Keeps.drewN ?_ _) | (with_reducible refine Keeps.drew ?_) | (with_reducible refine Keeps.alloc ?_ _) | (with_reducible refine Keeps.setNew ?_ ?_ _))) <;> (dsimp only; omega))⟩
    · obtain ⟨xa, xb, ya, yb, r, s, ex1, ex2, ey1, ey2, er, es, bx1, bx2, by1, by2, br, bs, eC⟩ := out_bd u v b h1 h2 h3
      have ga := (vP_bd h1).2.2
      have gv := (vP_bd h2).2.2
      have gb := (vP_bd h3).2.2
      have K1 := fun w => lway_any u.1 u.2 v.1 v.2 w (by omega) (by omega) (by omega) (by omega) (by omega) (by omega) (by omega) (by omega)
      have K2 := fun w => lway_any v.1 v.2 b.1 b.2 w (by omega) (by omega) (by omega) (by omega) (by omega) (by omega) (by omega) (by omega)
      clear ga gv gb
      rw [ex1, ex2] at K1
      rw [ey1, ey2] at K2
      have K1 := Lib.hid K1
      have K2 := Lib.hid K2
      have K3 := Lib.hid (fun w => ofs_any xa xb wd w)
      have K4 := Lib.hid (fun w => ofs_any ya yb wd w)
      have eX : subP v u = (xa, xb) := by unfold subP; rw [ex1, ex2]
      have eY : subP b v = (ya, yb) := by unfold subP; rw [ey1, ey2]
      have bn := ofs_bd' (xa, xb) wd
      have bm := ofs_bd' (ya, yb) wd
      rw [eC] at h5
      have HC := True.intro
      generalize ofs (xa, xb) wd = n at *
      generalize ofs (ya, yb) wd = m at *
      rw [h1] at KA
      rw [h2] at KV
      rw [h3] at KB
      rw [h4] at KW
      have w1 : IntKind.i64.wrap r = r := i64_in _ (by omega)
      have w2 : IntKind.i64.wrap s = s := i64_in _ (by omega)
      have w3 : IntKind.i64.wrap (r - s) = r - s := i64_in _ (by omega)
      have n1 : IntKind.i64.wrap (-n.1) = -n.1 := i64_in _ (by omega)
      have n2 : IntKind.i64.wrap (-n.2) = -n.2 := i64_in _ (by omega)
      have n3 : IntKind.i64.wrap (-m.1) = -m.1 := i64_in _ (by omega)
      have n4 : IntKind.i64.wrap (-m.2) = -m.2 := i64_in _ (by omega)
      have q1 : (r - s == 0) = true := by rw [beq_iff_eq]; omega
      clear h5
      clear hb h1 h2 h3 h4 ex1 ex2 ey1 ey2 eX eY eC HC
      go_enter Tryz.func55, Tryz.ntmps55
      go_wp2_with (first | (go_at_call 28; (first | (with_reducible refine (keepk (KA.out _) (by first | assumption | exact Keeps.drew (by assumption) | exact Keeps.drewN (by assumption) _)).mono ?_) | (with_reducible refine (keepk (KV.out _) (by first | assumption | exact Keeps.drew (by assumption) | exact Keeps.drewN (by assumption) _)).mono ?_) | (with_reducible refine (keepk (KB.out _) (by first | assumption | exact Keeps.drew (by assumption) | exact Keeps.drewN (by assumption) _)).mono ?_) | fail "V"); rintro e w1 ⟨rfl, hk⟩; have hj := Keeps.trans HB.out hk; have hk := hk; obtain ⟨y0, y1, y2, y3, y4, y5, y6, y7, y8, y9, y10, y11, y12, y13, y14, y15, y16, y17, y18, y19⟩ := HS.out _ hk) | (go_at_call 70; (with_reducible refine (KW.out _).mono ?_); rintro e w1 ⟨rfl, rfl⟩) | fail "ARM")
      refine name_world (fun W3 hW3 => ?_)
      have hk3 : Keeps (((((w.alloc (.cells #[.int .i64 u.1, .int .i64 u.2] 37)).alloc (.cells #[.int .i64 v.1, .int .i64 v.2] 37)).alloc (.cells #[.int .i64 b.1, .int .i64 b.2] 37)).alloc (.cells #[.int .i64 0, .int .i64 0] 37)).alloc (.cells #[.int .i64 0, .int .i64 0] 37)) W3 := by rw [hW3]; assumption
      clear hW3 hj y0 y1 y2 y3 y4 y5 y6 y7 y8 y9 y10 y11 y12 y13 y14 y15 y16 y17 y18 y19
      have HS3 := Lib.hid (show ∀ w', Keeps W3 w' → w'.cell? ⟨w.heap.size, 0, none⟩ = some (.int .i64 u.1) ∧ w'.frozen? ⟨w.heap.size, 0, none⟩ = false ∧ w'.cell? ⟨w.heap.size, 1, none⟩ = some (.int .i64 u.2) ∧ w'.frozen? ⟨w.heap.size, 1, none⟩ = false ∧ w'.cell? ⟨w.heap.size + 1, 0, none⟩ = some (.int .i64 v.1) ∧ w'.frozen? ⟨w.heap.size + 1, 0, none⟩ = false ∧ w'.cell? ⟨w.heap.size + 1, 1, none⟩ = some (.int .i64 v.2) ∧ w'.frozen? ⟨w.heap.size + 1, 1, none⟩ = false ∧ w'.cell? ⟨w.heap.size + 1 + 1, 0, none⟩ = some (.int .i64 b.1) ∧ w'.frozen? ⟨w.heap.size + 1 + 1, 0, none⟩ = false ∧ w'.cell? ⟨w.heap.size + 1 + 1, 1, none⟩ = some (.int .i64 b.2) ∧ w'.frozen? ⟨w.heap.size + 1 + 1, 1, none⟩ = false ∧ w'.cell? ⟨w.heap.size + 1 + 1 + 1, 0, none⟩ = some (.int .i64 0) ∧ w'.frozen? ⟨w.heap.size + 1 + 1 + 1, 0, none⟩ = false ∧ w'.cell? ⟨w.heap.size + 1 + 1 + 1, 1, none⟩ = some (.int .i64 0) ∧ w'.frozen? ⟨w.heap.size + 1 + 1 + 1, 1, none⟩ = false ∧ w'.cell? ⟨w.heap.size + 1 + 1 + 1 + 1, 0, none⟩ = some (.int .i64 0) ∧ w'.frozen? ⟨w.heap.size + 1 + 1 + 1 + 1, 0, none⟩ = false ∧ w'.cell? ⟨w.heap.size + 1 + 1 + 1 + 1, 1, none⟩ = some (.int .i64 0) ∧ w'.frozen? ⟨w.heap.size + 1 + 1 + 1 + 1, 1, none⟩ = false from fun w' hq => HS.out w' (hk3.trans hq))
      have HBW := Lib.hid (HB.out.trans hk3)
      have hsz3 : w.heap.size + 5 ≤ W3.heap.size := by have h := hk3.size; simp at h; omega
      clear hk hk0 hk3 HS HB KA KV KB KW
      have hk0 := Keeps.refl W3
      refine wp_region_steps (by kernel_rfl) (fun L a wa => ∃ (b0 b1 b2 b3 b4 b5 b6 b7 b8 b9 : Bool), L = #[b0, b1, b2, b3, b4, b5, b6, b7, b8, b9] ∧ ∃ (pa0 pa1 : Nat), a = { tmps := #[.agg #[.int .i64 u.1, .int .i64 u.2], .agg #[.int .i64 v.1, .int .i64 v.2], .agg #[.int .i64 b.1, .int .i64 b.2], .int .i64 wd, .pointer (some ⟨w.heap.size, 0, none⟩), .pointer (some ⟨w.heap.size + 1, 0, none⟩), .pointer (some ⟨w.heap.size + 1 + 1, 0, none⟩), undef, .pointer (some ⟨w.heap.size + 1 + 1 + 1, 0, none⟩), .pointer (some ⟨w.heap.size + 1 + 1 + 1 + 1, 0, none⟩), .bool false, if b6 then .pointer (some ⟨pa0, 0, none⟩) else undef, if b7 then .pointer (some ⟨pa1, 0, none⟩) else undef, undef, undef, undef, undef, .agg #[.int .i64 u.1, .int .i64 u.2], .bool true, .bool false, .bool false, .agg #[.int .i64 v.1, .int .i64 v.2], .bool true, .bool false, .bool false, .bool false, .agg #[.int .i64 b.1, .int .i64 b.2], .bool true, .bool false, .bool false, .bool false, .int .i64 wd, .bool true, .bool false, .bool false, undef, undef, if b0 then .agg #[.int .i64 u.1, .int .i64 u.2] else undef, if b1 then .agg #[.int .i64 v.1, .int .i64 v.2] else undef, if b2 then .agg #[.int .i64 xa, .int .i64 xb] else undef, if b3 then .agg #[.int .i64 v.1, .int .i64 v.2] else undef, if b4 then .agg #[.int .i64 b.1, .int .i64 b.2] else undef, if b5 then .agg #[.int .i64 ya, .int .i64 yb] else undef, undef, undef, undef, undef, undef, undef, undef, undef, undef, undef, undef, undef, undef, undef, undef, undef, undef, undef, undef, undef, undef, undef, undef, undef, undef, undef, undef, undef, undef, undef, undef, undef, undef, undef], defers := [] } ∧ Keeps (W3) wa ∧ Box2 b6 (W3.heap.size) (pa0) (.int .i64 (if b8 then xa else 0)) (.int .i64 (if b8 then xb else 0)) wa ∧ Box2 b7 (W3.heap.size) (pa1) (.int .i64 (if b9 then ya else 0)) (.int .i64 (if b9 then yb else 0)) wa ∧ (b6 = true → b7 = true → pa0 ≠ pa1) ∧ (b6 = false → b8 = false) ∧ (b7 = false → b9 = false)) 10 (by kernel_rfl) ?_ ?_ ?_
      · exact ⟨false, false, false, false, false, false, false, false, false, false, rfl, 0, 0, rfl, hk0.drew, Box2.none, Box2.none, (fun h => by cases h), (fun _ => rfl), (fun _ => rfl)⟩
      · refine (InvSteps.cons rfl ?_ (InvSteps.cons rfl ?_ (InvSteps.cons rfl ?_ (InvSteps.cons rfl ?_ (InvSteps.cons rfl ?_ (InvSteps.cons rfl ?_ (InvSteps.cons rfl ?_ (InvSteps.cons rfl ?_ (InvSteps.cons rfl ?_ (InvSteps.cons rfl ?_ InvSteps.nil))))))))))
        all_goals rintro L a wa ⟨b0, b1, b2, b3, b4, b5, b6, b7, b8, b9, rfl, pa0, pa1, rfl, hk, HA0, HA1, Da0_1, Z0, Z1⟩ hl hd K hK
        all_goals (simp [Region.binds] at hl hd; simp only [List.getElem_toArray, List.getElem_cons_zero, List.getElem_cons_succ])
        · subst hl; (repeat (rcases hd with ⟨hq, hd⟩; first | subst hq | clear hq)); (first | subst hd | clear hd | skip)
          obtain ⟨y0, y1, y2, y3, y4, y5, y6, y7, y8, y9, y10, y11, y12, y13, y14, y15, y16, y17, y18, y19⟩ := HS3.out _ hk
          go_simp
          exact hK.out _ _ ⟨true, _, _, _, _, _, _, _, _, _, rfl, pa0, pa1, rfl, hk, HA0, HA1, Da0_1, Z0, Z1⟩
        · subst hl; (repeat (rcases hd with ⟨hq, hd⟩; first | subst hq | clear hq)); (first | subst hd | clear hd | skip)
          obtain ⟨y0, y1, y2, y3, y4, y5, y6, y7, y8, y9, y10, y11, y12, y13, y14, y15, y16, y17, y18, y19⟩ := HS3.out _ hk
          go_simp
          exact hK.out _ _ ⟨_, true, _, _, _, _, _, _, _, _, rfl, pa0, pa1, rfl, hk, HA0, HA1, Da0_1, Z0, Z1⟩
        · subst hl; (repeat (rcases hd with ⟨hq, hd⟩; first | subst hq | clear hq)); (first | subst hd | clear hd | skip)
          go_simp
          go_at_call 71; (with_reducible refine (K1.out _).mono ?_); rintro e w1 ⟨rfl, hk1⟩
          exact hK.out _ _ ⟨_, _, true, _, _, _, _, _, _, _, rfl, pa0, pa1, rfl, hk.trans hk1, HA0.keeps hk1, HA1.keeps hk1, Da0_1, Z0, Z1⟩
        · subst hl; (repeat (rcases hd with ⟨hq, hd⟩; first | subst hq | clear hq)); (first | subst hd | clear hd | skip)
          obtain ⟨y0, y1, y2, y3, y4, y5, y6, y7, y8, y9, y10, y11, y12, y13, y14, y15, y16, y17, y18, y19⟩ := HS3.out _ hk
          go_simp
          exact hK.out _ _ ⟨_, _, _, true, _, _, _, _, _, _, rfl, pa0, pa1, rfl, hk, HA0, HA1, Da0_1, Z0, Z1⟩
        · subst hl; (repeat (rcases hd with ⟨hq, hd⟩; first | subst hq | clear hq)); (first | subst hd | clear hd | skip)
          obtain ⟨y0, y1, y2, y3, y4, y5, y6, y7, y8, y9, y10, y11, y12, y13, y14, y15, y16, y17, y18, y19⟩ := HS3.out _ hk
          go_simp
          exact hK.out _ _ ⟨_, _, _, _, true, _, _, _, _, _, rfl, pa0, pa1, rfl, hk, HA0, HA1, Da0_1, Z0, Z1⟩
        · subst hl; (repeat (rcases hd with ⟨hq, hd⟩; first | subst hq | clear hq)); (first | subst hd | clear hd | skip)
          go_simp
          go_at_call 71; (with_reducible refine (K2.out _).mono ?_); rintro e w1 ⟨rfl, hk1⟩
          exact hK.out _ _ ⟨_, _, _, _, _, true, _, _, _, _, rfl, pa0, pa1, rfl, hk.trans hk1, HA0.keeps hk1, HA1.keeps hk1, Da0_1, Z0, Z1⟩
        · subst hl; obtain rfl := Z0 rfl
          have hs := hk.size
          go_simp
          exact hK.out _ _ ⟨_, _, _, _, _, _, true, _, _, _, rfl, wa.heap.size, pa1, rfl, hk.alloc _, Box2.new (by omega), HA1.keeps ((Keeps.refl _).alloc _), (fun _ h => (HA1.ne h).symm), (fun h => by cases h), Z1⟩
        · subst hl; obtain rfl := Z1 rfl
          have hs := hk.size
          go_simp
          exact hK.out _ _ ⟨_, _, _, _, _, _, _, true, _, _, rfl, pa0, wa.heap.size, rfl, hk.alloc _, HA0.keeps ((Keeps.refl _).alloc _), Box2.new (by omega), (fun h _ => HA0.ne h), Z0, (fun h => by cases h)⟩
        · subst hl; (repeat (rcases hd with ⟨hq, hd⟩; first | subst hq | clear hq)); (first | subst hd | clear hd | skip)
          obtain ⟨q1, q2, q3, q4, q5, q6⟩ := HA0 rfl
          have hs := hk.size
          go_simp
          exact hK.out _ _ ⟨_, _, _, _, _, _, _, _, true, _, rfl, pa0, pa1, rfl, hk.set2 (by omega) _ _, HA0.at, HA1.far (fun h e => Da0_1 rfl h e.symm), Da0_1, (fun h => by cases h), Z1⟩
        · subst hl; (repeat (rcases hd with ⟨hq, hd⟩; first | subst hq | clear hq)); (first | subst hd | clear hd | skip)
          obtain ⟨q1, q2, q3, q4, q5, q6⟩ := HA1 rfl
          have hs := hk.size
          go_simp
          exact hK.out _ _ ⟨_, _, _, _, _, _, _, _, _, true, rfl, pa0, pa1, rfl, hk.set2 (by omega) _ _, HA0.far (fun h => Da0_1 h rfl), HA1.at, Da0_1, Z0, (fun h => by cases h)⟩
      · rintro L a wa ⟨b0, b1, b2, b3, b4, b5, b6, b7, b8, b9, rfl, pa0, pa1, rfl, hk, HA0, HA1, Da0_1, Z0, Z1⟩ hr
        have c := ready_nil hr 0 rfl (by simp [Region.binds]); simp at c; subst c
        have c := ready_nil hr 1 rfl (by simp [Region.binds]); simp at c; subst c
        have c := ready_nil hr 2 rfl (by simp [Region.binds]); simp at c; subst c
        have c := ready_nil hr 3 rfl (by simp [Region.binds]); simp at c; subst c
        have c := ready_nil hr 4 rfl (by simp [Region.binds]); simp at c; subst c
        have c := ready_nil hr 5 rfl (by simp [Region.binds]); simp at c; subst c
        have c := ready_nil hr 6 rfl (by simp [Region.binds]); simp at c; subst c
        have c := ready_nil hr 7 rfl (by simp [Region.binds]); simp at c; subst c
        have c := ready_nil hr 8 rfl (by simp [Region.binds]); simp at c; subst c
        have c := ready_nil hr 9 rfl (by simp [Region.binds]); simp at c; subst c
        clear hr Z0 Z1
        obtain ⟨qa0_1, qa0_2, qa0_3, qa0_4, qa0_5, qa0_6⟩ := HA0 rfl
        try simp only [if_true] at qa0_3 qa0_4
        have HXa0 := Lib.hid HA0; clear HA0; try simp only [if_true] at HXa0
        obtain ⟨qa1_1, qa1_2, qa1_3, qa1_4, qa1_5, qa1_6⟩ := HA1 rfl
        try simp only [if_true] at qa1_3 qa1_4
        have HXa1 := Lib.hid HA1; clear HA1; try simp only [if_true] at HXa1
        have Da0_1 := Da0_1 rfl rfl
        simp only [if_true]
        obtain ⟨y0, y1, y2, y3, y4, y5, y6, y7, y8, y9, y10, y11, y12, y13, y14, y15, y16, y17, y18, y19⟩ := HS3.out _ hk
        have hj := Keeps.trans HBW.out hk
        have HS4 := Lib.hid (show ∀ w2, Keeps wa w2 → w2.cell? ⟨pa0, 0, none⟩ = some (.int .i64 xa) ∧ w2.cell? ⟨pa0, 1, none⟩ = some (.int .i64 xb) ∧ w2.cell? ⟨pa1, 0, none⟩ = some (.int .i64 ya) ∧ w2.cell? ⟨pa1, 1, none⟩ = some (.int .i64 yb) from fun w2 h => ⟨(h.cell (p := ⟨pa0, 0, none⟩) qa0_2).trans qa0_3, (h.cell (p := ⟨pa0, 1, none⟩) qa0_2).trans qa0_4, (h.cell (p := ⟨pa1, 0, none⟩) qa1_2).trans qa1_3, (h.cell (p := ⟨pa1, 1, none⟩) qa1_2).trans qa1_4⟩)
        have HBV := Lib.hid hj
        have HS5 := Lib.hid (fun w2 (h : Keeps wa w2) => HS3.out w2 (hk.trans h))
        have hsza : w.heap.size + 5 ≤ wa.heap.size := by have h := hk.size; omega
        have lo0 : w.heap.size + 5 ≤ pa0 := by omega
        have lo1 : w.heap.size + 5 ≤ pa1 := by omega
        clear hk0 hk hj HXa0 HXa1 qa0_1 qa0_2 qa0_3 qa0_4 qa0_5 qa0_6 qa1_1 qa1_2 qa1_3 qa1_4 qa1_5 qa1_6 y0 y1 y2 y3 y4 y5 y6 y7 y8 y9 y10 y11 y12 y13 y14 y15 y16 y17 y18 y19 HS3 HBW
        have hk0 := Keeps.refl wa
        go_wp2_with fail
        refine wp_region_steps (by kernel_rfl) (fun L a wb => ∃ (b0 b1 b2 b3 b4 b5 b6 b7 b8 b9 : Bool), L = #[b0, b1, b2, b3, b4, b5, b6, b7, b8, b9] ∧ ∃ (pb0 pb1 : Nat), a = { tmps := #[.agg #[.int .i64 u.1, .int .i64 u.2], .agg #[.int .i64 v.1, .int .i64 v.2], .agg #[.int .i64 b.1, .int .i64 b.2], .int .i64 wd, .pointer (some ⟨w.heap.size, 0, none⟩), .pointer (some ⟨w.heap.size + 1, 0, none⟩), .pointer (some ⟨w.heap.size + 1 + 1, 0, none⟩), undef, .pointer (some ⟨w.heap.size + 1 + 1 + 1, 0, none⟩), .pointer (some ⟨w.heap.size + 1 + 1 + 1 + 1, 0, none⟩), .bool false, .pointer (some ⟨pa0, 0, none⟩), .pointer (some ⟨pa1, 0, none⟩), if b6 then .pointer (some ⟨pb0, 0, none⟩) else undef, if b7 then .pointer (some ⟨pb1, 0, none⟩) else undef, undef, undef, .agg #[.int .i64 u.1, .int .i64 u.2], .bool true, .bool false, .bool false, .agg #[.int .i64 v.1, .int .i64 v.2], .bool true, .bool false, .bool false, .bool false, .agg #[.int .i64 b.1, .int .i64 b.2], .bool true, .bool false, .bool false, .bool false, .int .i64 wd, .bool true, .bool false, .bool false, undef, undef, .agg #[.int .i64 u.1, .int .i64 u.2], .agg #[.int .i64 v.1, .int .i64 v.2], .agg #[.int .i64 xa, .int .i64 xb], .agg #[.int .i64 v.1, .int .i64 v.2], .agg #[.int .i64 b.1, .int .i64 b.2], .agg #[.int .i64 ya, .int .i64 yb], if b0 then .agg #[.int .i64 xa, .int .i64 xb] else undef, if b1 then .int .i64 wd else undef, if b2 then .agg #[.int .i64 n.1, .int .i64 n.2] else undef, if b3 then .agg #[.int .i64 ya, .int .i64 yb] else undef, if b4 then .int .i64 wd else undef, if b5 then .agg #[.int .i64 m.1, .int .i64 m.2] else undef, undef, undef, undef, undef, undef, undef, undef, undef, undef, undef, undef, undef, undef, undef, undef, undef, undef, undef, undef, undef, undef, undef, undef, undef, undef, undef, undef, undef], defers := [] } ∧ Keeps (wa) wb ∧ Box2 b6 (wa.heap.size) (pb0) (.int .i64 (if b8 then n.1 else 0)) (.int .i64 (if b8 then n.2 else 0)) wb ∧ Box2 b7 (wa.heap.size) (pb1) (.int .i64 (if b9 then m.1 else 0)) (.int .i64 (if b9 then m.2 else 0)) wb ∧ (b6 = true → b7 = true → pb0 ≠ pb1) ∧ (b6 = false → b8 = false) ∧ (b7 = false → b9 = false)) 10 (by kernel_rfl) ?_ ?_ ?_
        · exact ⟨false, false, false, false, false, false, false, false, false, false, rfl, 0, 0, rfl, hk0.drew, Box2.none, Box2.none, (fun h => by cases h), (fun _ => rfl), (fun _ => rfl)⟩
        · refine (InvSteps.cons rfl ?_ (InvSteps.cons rfl ?_ (InvSteps.cons rfl ?_ (InvSteps.cons rfl ?_ (InvSteps.cons rfl ?_ (InvSteps.cons rfl ?_ (InvSteps.cons rfl ?_ (InvSteps.cons rfl ?_ (InvSteps.cons rfl ?_ (InvSteps.cons rfl ?_ InvSteps.nil))))))))))
          all_goals rintro L a wb ⟨b0, b1, b2, b3, b4, b5, b6, b7, b8, b9, rfl, pb0, pb1, rfl, hk, HA0, HA1, Db0_1, Z0, Z1⟩ hl hd K hK
          all_goals (simp [Region.binds] at hl hd; simp only [List.getElem_toArray, List.getElem_cons_zero, List.getElem_cons_succ])
          · subst hl; (repeat (rcases hd with ⟨hq, hd⟩; first | subst hq | clear hq)); (first | subst hd | clear hd | skip)
            obtain ⟨y0, y1, y2, y3⟩ := HS4.out _ hk
            go_simp
            exact hK.out _ _ ⟨true, _, _, _, _, _, _, _, _, _, rfl, pb0, pb1, rfl, hk, HA0, HA1, Db0_1, Z0, Z1⟩
          · subst hl; (repeat (rcases hd with ⟨hq, hd⟩; first | subst hq | clear hq)); (first | subst hd | clear hd | skip)
            go_simp
            exact hK.out _ _ ⟨_, true, _, _, _, _, _, _, _, _, rfl, pb0, pb1, rfl, hk, HA0, HA1, Db0_1, Z0, Z1⟩
          · subst hl; (repeat (rcases hd with ⟨hq, hd⟩; first | subst hq | clear hq)); (first | subst hd | clear hd | skip)
            go_simp
            go_at_call 67; (with_reducible refine (K3.out _).mono ?_); rintro e w1 ⟨rfl, hk1⟩
            exact hK.out _ _ ⟨_, _, true, _, _, _, _, _, _, _, rfl, pb0, pb1, rfl, hk.trans hk1, HA0.keeps hk1, HA1.keeps hk1, Db0_1, Z0, Z1⟩
          · subst hl; (repeat (rcases hd with ⟨hq, hd⟩; first | subst hq | clear hq)); (first | subst hd | clear hd | skip)
            obtain ⟨y0, y1, y2, y3⟩ := HS4.out _ hk
            go_simp
            exact hK.out _ _ ⟨_, _, _, true, _, _, _, _, _, _, rfl, pb0, pb1, rfl, hk, HA0, HA1, Db0_1, Z0, Z1⟩
          · subst hl; (repeat (rcases hd with ⟨hq, hd⟩; first | subst hq | clear hq)); (first | subst hd | clear hd | skip)
            go_simp
            exact hK.out _ _ ⟨_, _, _, _, true, _, _, _, _, _, rfl, pb0, pb1, rfl, hk, HA0, HA1, Db0_1, Z0, Z1⟩
          · subst hl; (repeat (rcases hd with ⟨hq, hd⟩; first | subst hq | clear hq)); (first | subst hd | clear hd | skip)
            go_simp
            go_at_call 67; (with_reducible refine (K4.out _).mono ?_); rintro e w1 ⟨rfl, hk1⟩
            exact hK.out _ _ ⟨_, _, _, _, _, true, _, _, _, _, rfl, pb0, pb1, rfl, hk.trans hk1, HA0.keeps hk1, HA1.keeps hk1, Db0_1, Z0, Z1⟩
          · subst hl; obtain rfl := Z0 rfl
            have hs := hk.size
            go_simp
            exact hK.out _ _ ⟨_, _, _, _, _, _, true, _, _, _, rfl, wb.heap.size, pb1, rfl, hk.alloc _, Box2.new (by omega), HA1.keeps ((Keeps.refl _).alloc _), (fun _ h => (HA1.ne h).symm), (fun h => by cases h), Z1⟩
          · subst hl; obtain rfl := Z1 rfl
            have hs := hk.size
            go_simp
            exact hK.out _ _ ⟨_, _, _, _, _, _, _, true, _, _, rfl, pb0, wb.heap.size, rfl, hk.alloc _, HA0.keeps ((Keeps.refl _).alloc _), Box2.new (by omega), (fun h _ => HA0.ne h), Z0, (fun h => by cases h)⟩
          · subst hl; (repeat (rcases hd with ⟨hq, hd⟩; first | subst hq | clear hq)); (first | subst hd | clear hd | skip)
            obtain ⟨q1, q2, q3, q4, q5, q6⟩ := HA0 rfl
            have hs := hk.size
            go_simp
            exact hK.out _ _ ⟨_, _, _, _, _, _, _, _, true, _, rfl, pb0, pb1, rfl, hk.set2 (by omega) _ _, HA0.at, HA1.far (fun h e => Db0_1 rfl h e.symm), Db0_1, (fun h => by cases h), Z1⟩
          · subst hl; (repeat (rcases hd with ⟨hq, hd⟩; first | subst hq | clear hq)); (first | subst hd | clear hd | skip)
            obtain ⟨q1, q2, q3, q4, q5, q6⟩ := HA1 rfl
            have hs := hk.size
            go_simp
            exact hK.out _ _ ⟨_, _, _, _, _, _, _, _, _, true, rfl, pb0, pb1, rfl, hk.set2 (by omega) _ _, HA0.far (fun h => Db0_1 h rfl), HA1.at, Db0_1, Z0, (fun h => by cases h)⟩
        · rintro L a wb ⟨b0, b1, b2, b3, b4, b5, b6, b7, b8, b9, rfl, pb0, pb1, rfl, hk, HA0, HA1, Db0_1, Z0, Z1⟩ hr
          have c := ready_nil hr 0 rfl (by simp [Region.binds]); simp at c; subst c
          have c := ready_nil hr 1 rfl (by simp [Region.binds]); simp at c; subst c
          have c := ready_nil hr 2 rfl (by simp [Region.binds]); simp at c; subst c
          have c := ready_nil hr 3 rfl (by simp [Region.binds]); simp at c; subst c
          have c := ready_nil hr 4 rfl (by simp [Region.binds]); simp at c; subst c
          have c := ready_nil hr 5 rfl (by simp [Region.binds]); simp at c; subst c
          have c := ready_nil hr 6 rfl (by simp [Region.binds]); simp at c; subst c
          have c := ready_nil hr 7 rfl (by simp [Region.binds]); simp at c; subst c
          have c := ready_nil hr 8 rfl (by simp [Region.binds]); simp at c; subst c
          have c := ready_nil hr 9 rfl (by simp [Region.binds]); simp at c; subst c
          clear hr Z0 Z1
          obtain ⟨qb0_1, qb0_2, qb0_3, qb0_4, qb0_5, qb0_6⟩ := HA0 rfl
          try simp only [if_true] at qb0_3 qb0_4
          have HXb0 := Lib.hid HA0; clear HA0; try simp only [if_true] at HXb0
          obtain ⟨qb1_1, qb1_2, qb1_3, qb1_4, qb1_5, qb1_6⟩ := HA1 rfl
          try simp only [if_true] at qb1_3 qb1_4
          have HXb1 := Lib.hid HA1; clear HA1; try simp only [if_true] at HXb1
          have Db0_1 := Db0_1 rfl rfl
          simp only [if_true]
          obtain ⟨y0, y1, y2, y3⟩ := HS4.out _ hk
          have hj := Keeps.trans HBV.out hk
          obtain ⟨z0, z1, z2, z3, z4, z5, z6, z7, z8, z9, z10, z11, z12, z13, z14, z15, z16, z17, z18, z19⟩ := HS5.out _ hk
          have hszb : w.heap.size + 5 ≤ wb.heap.size := by have h := hk.size; omega
          have hHS := Lib.hid (show ∀ w2, Keeps wb w2 → w2.cell? ⟨pb0, 0, none⟩ = some (.int .i64 n.1) ∧ w2.cell? ⟨pb0, 1, none⟩ = some (.int .i64 n.2) ∧ w2.cell? ⟨pb1, 0, none⟩ = some (.int .i64 m.1) ∧ w2.cell? ⟨pb1, 1, none⟩ = some (.int .i64 m.2) from fun w2 h => ⟨(h.cell (p := ⟨pb0, 0, none⟩) qb0_2).trans qb0_3, (h.cell (p := ⟨pb0, 1, none⟩) qb0_2).trans qb0_4, (h.cell (p := ⟨pb1, 0, none⟩) qb1_2).trans qb1_3, (h.cell (p := ⟨pb1, 1, none⟩) qb1_2).trans qb1_4⟩)
          have lb0 : w.heap.size + 5 ≤ pb0 := by omega
          have lb1 : w.heap.size + 5 ≤ pb1 := by omega
        
          go_wp2_with fail
          exact bodyPost_ret (v := .tuple #[.agg #[.int .i64 0, .int .i64 0], .agg #[.int .i64 0, .int .i64 0], .bool false]) (by simp [results, Tryz.results55, go_sem, *]) rfl ⟨rfl, (((hj.far2 (g := w.heap.size + 1 + 1 + 1) (by omega) _ _)).far2 (g := w.heap.size + 1 + 1 + 1 + 1) (by omega) _ _)⟩
  | true =>
    simp only [if_true]
    obtain ⟨h1, h2, h3, h4, h5⟩ := out_yes hb
    rcases h5 with h5 | h5
    · rw [if_neg (by omega), if_neg (by omega)]
      obtain ⟨xa, xb, ya, yb, r, s, ex1, ex2, ey1, ey2, er, es, bx1, bx2, by1, by2, br, bs, eC⟩ := out_bd u v b h1 h2 h3
      have ga := (vP_bd h1).2.2
      have gv := (vP_bd h2).2.2
      have gb := (vP_bd h3).2.2
      have K1 := fun w => lway_any u.1 u.2 v.1 v.2 w (by omega) (by omega) (by omega) (by omega) (by omega) (by omega) (by omega) (by omega)
      have K2 := fun w => lway_any v.1 v.2 b.1 b.2 w (by omega) (by omega) (by omega) (by omega) (by omega) (by omega) (by omega) (by omega)
      clear ga gv gb
      rw [ex1, ex2] at K1
      rw [ey1, ey2] at K2
      have K1 := Lib.hid K1
      have K2 := Lib.hid K2
      have K3 := Lib.hid (fun w => ofs_any xa xb wd w)
      have K4 := Lib.hid (fun w => ofs_any ya yb wd w)
      have eX : subP v u = (xa, xb) := by unfold subP; rw [ex1, ex2]
      have eY : subP b v = (ya, yb) := by unfold subP; rw [ey1, ey2]
      have bn := ofs_bd' (xa, xb) wd
      have bm := ofs_bd' (ya, yb) wd
      rw [eC] at h5
      rw [eX, eY]
      have HC := True.intro
      generalize ofs (xa, xb) wd = n at *
      generalize ofs (ya, yb) wd = m at *
      rw [h1] at KA
      rw [h2] at KV
      rw [h3] at KB
      rw [h4] at KW
      have w1 : IntKind.i64.wrap r = r := i64_in _ (by omega)
      have w2 : IntKind.i64.wrap s = s := i64_in _ (by omega)
      have w3 : IntKind.i64.wrap (r - s) = r - s := i64_in _ (by omega)
      have n1 : IntKind.i64.wrap (-n.1) = -n.1 := i64_in _ (by omega)
      have n2 : IntKind.i64.wrap (-n.2) = -n.2 := i64_in _ (by omega)
      have n3 : IntKind.i64.wrap (-m.1) = -m.1 := i64_in _ (by omega)
      have n4 : IntKind.i64.wrap (-m.2) = -m.2 := i64_in _ (by omega)
      have q1 : (r - s == 0) = false := by rw [beq_eq_false_iff_ne]; omega
      have q2 : decide (0 < r - s) = false := decide_eq_false (by omega)
      have q3 : decide (s < r) = false := decide_eq_false (by omega)
      clear h5
      clear hb h1 h2 h3 h4 ex1 ex2 ey1 ey2 eX eY eC HC
      go_enter Tryz.func55, Tryz.ntmps55
      go_wp2_with (first | (go_at_call 28; (first | (with_reducible refine (keepk (KA.out _) (by first | assumption | exact Keeps.drew (by assumption) | exact Keeps.drewN (by assumption) _)).mono ?_) | (with_reducible refine (keepk (KV.out _) (by first | assumption | exact Keeps.drew (by assumption) | exact Keeps.drewN (by assumption) _)).mono ?_) | (with_reducible refine (keepk (KB.out _) (by first | assumption | exact Keeps.drew (by assumption) | exact Keeps.drewN (by assumption) _)).mono ?_) | fail "V"); rintro e w1 ⟨rfl, hk⟩; have hj := Keeps.trans HB.out hk; have hk := hk; obtain ⟨y0, y1, y2, y3, y4, y5, y6, y7, y8, y9, y10, y11, y12, y13, y14, y15, y16, y17, y18, y19⟩ := HS.out _ hk) | (go_at_call 70; (with_reducible refine (KW.out _).mono ?_); rintro e w1 ⟨rfl, rfl⟩) | fail "ARM")
      refine name_world (fun W3 hW3 => ?_)
      have hk3 : Keeps (((((w.alloc (.cells #[.int .i64 u.1, .int .i64 u.2] 37)).alloc (.cells #[.int .i64 v.1, .int .i64 v.2] 37)).alloc (.cells #[.int .i64 b.1, .int .i64 b.2] 37)).alloc (.cells #[.int .i64 0, .int .i64 0] 37)).alloc (.cells #[.int .i64 0, .int .i64 0] 37)) W3 := by rw [hW3]; assumption
      clear hW3 hj y0 y1 y2 y3 y4 y5 y6 y7 y8 y9 y10 y11 y12 y13 y14 y15 y16 y17 y18 y19
      have HS3 := Lib.hid (show ∀ w', Keeps W3 w' → w'.cell? ⟨w.heap.size, 0, none⟩ = some (.int .i64 u.1) ∧ w'.frozen? ⟨w.heap.size, 0, none⟩ = false ∧ w'.cell? ⟨w.heap.size, 1, none⟩ = some (.int .i64 u.2) ∧ w'.frozen? ⟨w.heap.size, 1, none⟩ = false ∧ w'.cell? ⟨w.heap.size + 1, 0, none⟩ = some (.int .i64 v.1) ∧ w'.frozen? ⟨w.heap.size + 1, 0, none⟩ = false ∧ w'.cell? ⟨w.heap.size + 1, 1, none⟩ = some (.int .i64 v.2) ∧ w'.frozen? ⟨w.heap.size + 1, 1, none⟩ = false ∧ w'.cell? ⟨w.heap.size + 1 + 1, 0, none⟩ = some (.int .i64 b.1) ∧ w'.frozen? ⟨w.heap.size + 1 + 1, 0, none⟩ = false ∧ w'.cell? ⟨w.heap.size + 1 + 1, 1, none⟩ = some (.int .i64 b.2) ∧ w'.frozen? ⟨w.heap.size + 1 + 1, 1, none⟩ = false ∧ w'.cell? ⟨w.heap.size + 1 + 1 + 1, 0, none⟩ = some (.int .i64 0) ∧ w'.frozen? ⟨w.heap.size + 1 + 1 + 1, 0, none⟩ = false ∧ w'.cell? ⟨w.heap.size + 1 + 1 + 1, 1, none⟩ = some (.int .i64 0) ∧ w'.frozen? ⟨w.heap.size + 1 + 1 + 1, 1, none⟩ = false ∧ w'.cell? ⟨w.heap.size + 1 + 1 + 1 + 1, 0, none⟩ = some (.int .i64 0) ∧ w'.frozen? ⟨w.heap.size + 1 + 1 + 1 + 1, 0, none⟩ = false ∧ w'.cell? ⟨w.heap.size + 1 + 1 + 1 + 1, 1, none⟩ = some (.int .i64 0) ∧ w'.frozen? ⟨w.heap.size + 1 + 1 + 1 + 1, 1, none⟩ = false from fun w' hq => HS.out w' (hk3.trans hq))
      have HBW := Lib.hid (HB.out.trans hk3)
      have hsz3 : w.heap.size + 5 ≤ W3.heap.size := by have h := hk3.size; simp at h; omega
      clear hk hk0 hk3 HS HB KA KV KB KW
      have hk0 := Keeps.refl W3
      refine wp_region_steps (by kernel_rfl) (fun L a wa => ∃ (b0 b1 b2 b3 b4 b5 b6 b7 b8 b9 : Bool), L = #[b0, b1, b2, b3, b4, b5, b6, b7, b8, b9] ∧ ∃ (pa0 pa1 : Nat), a = { tmps := #[.agg #[.int .i64 u.1, .int .i64 u.2], .agg #[.int .i64 v.1, .int .i64 v.2], .agg #[.int .i64 b.1, .int .i64 b.2], .int .i64 wd, .pointer (some ⟨w.heap.size, 0, none⟩), .pointer (some ⟨w.heap.size + 1, 0, none⟩), .pointer (some ⟨w.heap.size + 1 + 1, 0, none⟩), undef, .pointer (some ⟨w.heap.size + 1 + 1 + 1, 0, none⟩), .pointer (some ⟨w.heap.size + 1 + 1 + 1 + 1, 0, none⟩), .bool false, if b6 then .pointer (some ⟨pa0, 0, none⟩) else undef, if b7 then .pointer (some ⟨pa1, 0, none⟩) else undef, undef, undef, undef, undef, .agg #[.int .i64 u.1, .int .i64 u.2], .bool true, .bool false, .bool false, .agg #[.int .i64 v.1, .int .i64 v.2], .bool true, .bool false, .bool false, .bool false, .agg #[.int .i64 b.1, .int .i64 b.2], .bool true, .bool false, .bool false, .bool false, .int .i64 wd, .bool true, .bool false, .bool false, undef, undef, if b0 then .agg #[.int .i64 u.1, .int .i64 u.2] else undef, if b1 then .agg #[.int .i64 v.1, .int .i64 v.2] else undef, if b2 then .agg #[.int .i64 xa, .int .i64 xb] else undef, if b3 then .agg #[.int .i64 v.1, .int .i64 v.2] else undef, if b4 then .agg #[.int .i64 b.1, .int .i64 b.2] else undef, if b5 then .agg #[.int .i64 ya, .int .i64 yb] else undef, undef, undef, undef, undef, undef, undef, undef, undef, undef, undef, undef, undef, undef, undef, undef, undef, undef, undef, undef, undef, undef, undef, undef, undef, undef, undef, undef, undef, undef, undef, undef, undef, undef, undef], defers := [] } ∧ Keeps (W3) wa ∧ Box2 b6 (W3.heap.size) (pa0) (.int .i64 (if b8 then xa else 0)) (.int .i64 (if b8 then xb else 0)) wa ∧ Box2 b7 (W3.heap.size) (pa1) (.int .i64 (if b9 then ya else 0)) (.int .i64 (if b9 then yb else 0)) wa ∧ (b6 = true → b7 = true → pa0 ≠ pa1) ∧ (b6 = false → b8 = false) ∧ (b7 = false → b9 = false)) 10 (by kernel_rfl) ?_ ?_ ?_
      · exact ⟨false, false, false, false, false, false, false, false, false, false, rfl, 0, 0, rfl, hk0.drew, Box2.none, Box2.none, (fun h => by cases h), (fun _ => rfl), (fun _ => rfl)⟩
      · refine (InvSteps.cons rfl ?_ (InvSteps.cons rfl ?_ (InvSteps.cons rfl ?_ (InvSteps.cons rfl ?_ (InvSteps.cons rfl ?_ (InvSteps.cons rfl ?_ (InvSteps.cons rfl ?_ (InvSteps.cons rfl ?_ (InvSteps.cons rfl ?_ (InvSteps.cons rfl ?_ InvSteps.nil))))))))))
        all_goals rintro L a wa ⟨b0, b1, b2, b3, b4, b5, b6, b7, b8, b9, rfl, pa0, pa1, rfl, hk, HA0, HA1, Da0_1, Z0, Z1⟩ hl hd K hK
        all_goals (simp [Region.binds] at hl hd; simp only [List.getElem_toArray, List.getElem_cons_zero, List.getElem_cons_succ])
        · subst hl; (repeat (rcases hd with ⟨hq, hd⟩; first | subst hq | clear hq)); (first | subst hd | clear hd | skip)
          obtain ⟨y0, y1, y2, y3, y4, y5, y6, y7, y8, y9, y10, y11, y12, y13, y14, y15, y16, y17, y18, y19⟩ := HS3.out _ hk
          go_simp
          exact hK.out _ _ ⟨true, _, _, _, _, _, _, _, _, _, rfl, pa0, pa1, rfl, hk, HA0, HA1, Da0_1, Z0, Z1⟩
        · subst hl; (repeat (rcases hd with ⟨hq, hd⟩; first | subst hq | clear hq)); (first | subst hd | clear hd | skip)
          obtain ⟨y0, y1, y2, y3, y4, y5, y6, y7, y8, y9, y10, y11, y12, y13, y14, y15, y16, y17, y18, y19⟩ := HS3.out _ hk
          go_simp
          exact hK.out _ _ ⟨_, true, _, _, _, _, _, _, _, _, rfl, pa0, pa1, rfl, hk, HA0, HA1, Da0_1, Z0, Z1⟩
        · subst hl; (repeat (rcases hd with ⟨hq, hd⟩; first | subst hq | clear hq)); (first | subst hd | clear hd | skip)
          go_simp
          go_at_call 71; (with_reducible refine (K1.out _).mono ?_); rintro e w1 ⟨rfl, hk1⟩
          exact hK.out _ _ ⟨_, _, true, _, _, _, _, _, _, _, rfl, pa0, pa1, rfl, hk.trans hk1, HA0.keeps hk1, HA1.keeps hk1, Da0_1, Z0, Z1⟩
        · subst hl; (repeat (rcases hd with ⟨hq, hd⟩; first | subst hq | clear hq)); (first | subst hd | clear hd | skip)
          obtain ⟨y0, y1, y2, y3, y4, y5, y6, y7, y8, y9, y10, y11, y12, y13, y14, y15, y16, y17, y18, y19⟩ := HS3.out _ hk
          go_simp
          exact hK.out _ _ ⟨_, _, _, true, _, _, _, _, _, _, rfl, pa0, pa1, rfl, hk, HA0, HA1, Da0_1, Z0, Z1⟩
        · subst hl; (repeat (rcases hd with ⟨hq, hd⟩; first | subst hq | clear hq)); (first | subst hd | clear hd | skip)
          obtain ⟨y0, y1, y2, y3, y4, y5, y6, y7, y8, y9, y10, y11, y12, y13, y14, y15, y16, y17, y18, y19⟩ := HS3.out _ hk
          go_simp
          exact hK.out _ _ ⟨_, _, _, _, true, _, _, _, _, _, rfl, pa0, pa1, rfl, hk, HA0, HA1, Da0_1, Z0, Z1⟩
        · subst hl; (repeat (rcases hd with ⟨hq, hd⟩; first | subst hq | clear hq)); (first | subst hd | clear hd | skip)
          go_simp
          go_at_call 71; (with_reducible refine (K2.out _).mono ?_); rintro e w1 ⟨rfl, hk1⟩
          exact hK.out _ _ ⟨_, _, _, _, _, true, _, _, _, _, rfl, pa0, pa1, rfl, hk.trans hk1, HA0.keeps hk1, HA1.keeps hk1, Da0_1, Z0, Z1⟩
        · subst hl; obtain rfl := Z0 rfl
          have hs := hk.size
          go_simp
          exact hK.out _ _ ⟨_, _, _, _, _, _, true, _, _, _, rfl, wa.heap.size, pa1, rfl, hk.alloc _, Box2.new (by omega), HA1.keeps ((Keeps.refl _).alloc _), (fun _ h => (HA1.ne h).symm), (fun h => by cases h), Z1⟩
        · subst hl; obtain rfl := Z1 rfl
          have hs := hk.size
          go_simp
          exact hK.out _ _ ⟨_, _, _, _, _, _, _, true, _, _, rfl, pa0, wa.heap.size, rfl, hk.alloc _, HA0.keeps ((Keeps.refl _).alloc _), Box2.new (by omega), (fun h _ => HA0.ne h), Z0, (fun h => by cases h)⟩
        · subst hl; (repeat (rcases hd with ⟨hq, hd⟩; first | subst hq | clear hq)); (first | subst hd | clear hd | skip)
          obtain ⟨q1, q2, q3, q4, q5, q6⟩ := HA0 rfl
          have hs := hk.size
          go_simp
          exact hK.out _ _ ⟨_, _, _, _, _, _, _, _, true, _, rfl, pa0, pa1, rfl, hk.set2 (by omega) _ _, HA0.at, HA1.far (fun h e => Da0_1 rfl h e.symm), Da0_1, (fun h => by cases h), Z1⟩
        · subst hl; (repeat (rcases hd with ⟨hq, hd⟩; first | subst hq | clear hq)); (first | subst hd | clear hd | skip)
          obtain ⟨q1, q2, q3, q4, q5, q6⟩ := HA1 rfl
          have hs := hk.size
          go_simp
          exact hK.out _ _ ⟨_, _, _, _, _, _, _, _, _, true, rfl, pa0, pa1, rfl, hk.set2 (by omega) _ _, HA0.far (fun h => Da0_1 h rfl), HA1.at, Da0_1, Z0, (fun h => by cases h)⟩
      · rintro L a wa ⟨b0, b1, b2, b3, b4, b5, b6, b7, b8, b9, rfl, pa0, pa1, rfl, hk, HA0, HA1, Da0_1, Z0, Z1⟩ hr
        have c := ready_nil hr 0 rfl (by simp [Region.binds]); simp at c; subst c
        have c := ready_nil hr 1 rfl (by simp [Region.binds]); simp at c; subst c
        have c := ready_nil hr 2 rfl (by simp [Region.binds]); simp at c; subst c
        have c := ready_nil hr 3 rfl (by simp [Region.binds]); simp at c; subst c
        have c := ready_nil hr 4 rfl (by simp [Region.binds]); simp at c; subst c
        have c := ready_nil hr 5 rfl (by simp [Region.binds]); simp at c; subst c
        have c := ready_nil hr 6 rfl (by simp [Region.binds]); simp at c; subst c
        have c := ready_nil hr 7 rfl (by simp [Region.binds]); simp at c; subst c
        have c := ready_nil hr 8 rfl (by simp [Region.binds]); simp at c; subst c
        have c := ready_nil hr 9 rfl (by simp [Region.binds]); simp at c; subst c
        clear hr Z0 Z1
        obtain ⟨qa0_1, qa0_2, qa0_3, qa0_4, qa0_5, qa0_6⟩ := HA0 rfl
        try simp only [if_true] at qa0_3 qa0_4
        have HXa0 := Lib.hid HA0; clear HA0; try simp only [if_true] at HXa0
        obtain ⟨qa1_1, qa1_2, qa1_3, qa1_4, qa1_5, qa1_6⟩ := HA1 rfl
        try simp only [if_true] at qa1_3 qa1_4
        have HXa1 := Lib.hid HA1; clear HA1; try simp only [if_true] at HXa1
        have Da0_1 := Da0_1 rfl rfl
        simp only [if_true]
        obtain ⟨y0, y1, y2, y3, y4, y5, y6, y7, y8, y9, y10, y11, y12, y13, y14, y15, y16, y17, y18, y19⟩ := HS3.out _ hk
        have hj := Keeps.trans HBW.out hk
        have HS4 := Lib.hid (show ∀ w2, Keeps wa w2 → w2.cell? ⟨pa0, 0, none⟩ = some (.int .i64 xa) ∧ w2.cell? ⟨pa0, 1, none⟩ = some (.int .i64 xb) ∧ w2.cell? ⟨pa1, 0, none⟩ = some (.int .i64 ya) ∧ w2.cell? ⟨pa1, 1, none⟩ = some (.int .i64 yb) from fun w2 h => ⟨(h.cell (p := ⟨pa0, 0, none⟩) qa0_2).trans qa0_3, (h.cell (p := ⟨pa0, 1, none⟩) qa0_2).trans qa0_4, (h.cell (p := ⟨pa1, 0, none⟩) qa1_2).trans qa1_3, (h.cell (p := ⟨pa1, 1, none⟩) qa1_2).trans qa1_4⟩)
        have HBV := Lib.hid hj
        have HS5 := Lib.hid (fun w2 (h : Keeps wa w2) => HS3.out w2 (hk.trans h))
        have hsza : w.heap.size + 5 ≤ wa.heap.size := by have h := hk.size; omega
        have lo0 : w.heap.size + 5 ≤ pa0 := by omega
        have lo1 : w.heap.size + 5 ≤ pa1 := by omega
        clear hk0 hk hj HXa0 HXa1 qa0_1 qa0_2 qa0_3 qa0_4 qa0_5 qa0_6 qa1_1 qa1_2 qa1_3 qa1_4 qa1_5 qa1_6 y0 y1 y2 y3 y4 y5 y6 y7 y8 y9 y10 y11 y12 y13 y14 y15 y16 y17 y18 y19 HS3 HBW
        have hk0 := Keeps.refl wa
        go_wp2_with fail
        refine wp_region_steps (by kernel_rfl) (fun L a wb => ∃ (b0 b1 b2 b3 b4 b5 b6 b7 b8 b9 : Bool), L = #[b0, b1, b2, b3, b4, b5, b6, b7, b8, b9] ∧ ∃ (pb0 pb1 : Nat), a = { tmps := #[.agg #[.int .i64 u.1, .int .i64 u.2], .agg #[.int .i64 v.1, .int .i64 v.2], .agg #[.int .i64 b.1, .int .i64 b.2], .int .i64 wd, .pointer (some ⟨w.heap.size, 0, none⟩), .pointer (some ⟨w.heap.size + 1, 0, none⟩), .pointer (some ⟨w.heap.size + 1 + 1, 0, none⟩), undef, .pointer (some ⟨w.heap.size + 1 + 1 + 1, 0, none⟩), .pointer (some ⟨w.heap.size + 1 + 1 + 1 + 1, 0, none⟩), .bool false, .pointer (some ⟨pa0, 0, none⟩), .pointer (some ⟨pa1, 0, none⟩), if b6 then .pointer (some ⟨pb0, 0, none⟩) else undef, if b7 then .pointer (some ⟨pb1, 0, none⟩) else undef, undef, undef, .agg #[.int .i64 u.1, .int .i64 u.2], .bool true, .bool false, .bool false, .agg #[.int .i64 v.1, .int .i64 v.2], .bool true, .bool false, .bool false, .bool false, .agg #[.int .i64 b.1, .int .i64 b.2], .bool true, .bool false, .bool false, .bool false, .int .i64 wd, .bool true, .bool false, .bool false, undef, undef, .agg #[.int .i64 u.1, .int .i64 u.2], .agg #[.int .i64 v.1, .int .i64 v.2], .agg #[.int .i64 xa, .int .i64 xb], .agg #[.int .i64 v.1, .int .i64 v.2], .agg #[.int .i64 b.1, .int .i64 b.2], .agg #[.int .i64 ya, .int .i64 yb], if b0 then .agg #[.int .i64 xa, .int .i64 xb] else undef, if b1 then .int .i64 wd else undef, if b2 then .agg #[.int .i64 n.1, .int .i64 n.2] else undef, if b3 then .agg #[.int .i64 ya, .int .i64 yb] else undef, if b4 then .int .i64 wd else undef, if b5 then .agg #[.int .i64 m.1, .int .i64 m.2] else undef, undef, undef, undef, undef, undef, undef, undef, undef, undef, undef, undef, undef, undef, undef, undef, undef, undef, undef, undef, undef, undef, undef, undef, undef, undef, undef, undef, undef], defers := [] } ∧ Keeps (wa) wb ∧ Box2 b6 (wa.heap.size) (pb0) (.int .i64 (if b8 then n.1 else 0)) (.int .i64 (if b8 then n.2 else 0)) wb ∧ Box2 b7 (wa.heap.size) (pb1) (.int .i64 (if b9 then m.1 else 0)) (.int .i64 (if b9 then m.2 else 0)) wb ∧ (b6 = true → b7 = true → pb0 ≠ pb1) ∧ (b6 = false → b8 = false) ∧ (b7 = false → b9 = false)) 10 (by kernel_rfl) ?_ ?_ ?_
        · exact ⟨false, false, false, false, false, false, false, false, false, false, rfl, 0, 0, rfl, hk0.drew, Box2.none, Box2.none, (fun h => by cases h), (fun _ => rfl), (fun _ => rfl)⟩
        · refine (InvSteps.cons rfl ?_ (InvSteps.cons rfl ?_ (InvSteps.cons rfl ?_ (InvSteps.cons rfl ?_ (InvSteps.cons rfl ?_ (InvSteps.cons rfl ?_ (InvSteps.cons rfl ?_ (InvSteps.cons rfl ?_ (InvSteps.cons rfl ?_ (InvSteps.cons rfl ?_ InvSteps.nil))))))))))
          all_goals rintro L a wb ⟨b0, b1, b2, b3, b4, b5, b6, b7, b8, b9, rfl, pb0, pb1, rfl, hk, HA0, HA1, Db0_1, Z0, Z1⟩ hl hd K hK
          all_goals (simp [Region.binds] at hl hd; simp only [List.getElem_toArray, List.getElem_cons_zero, List.getElem_cons_succ])
          · subst hl; (repeat (rcases hd with ⟨hq, hd⟩; first | subst hq | clear hq)); (first | subst hd | clear hd | skip)
            obtain ⟨y0, y1, y2, y3⟩ := HS4.out _ hk
            go_simp
            exact hK.out _ _ ⟨true, _, _, _, _, _, _, _, _, _, rfl, pb0, pb1, rfl, hk, HA0, HA1, Db0_1, Z0, Z1⟩
          · subst hl; (repeat (rcases hd with ⟨hq, hd⟩; first | subst hq | clear hq)); (first | subst hd | clear hd | skip)
            go_simp
            exact hK.out _ _ ⟨_, true, _, _, _, _, _, _, _, _, rfl, pb0, pb1, rfl, hk, HA0, HA1, Db0_1, Z0, Z1⟩
          · subst hl; (repeat (rcases hd with ⟨hq, hd⟩; first | subst hq | clear hq)); (first | subst hd | clear hd | skip)
            go_simp
            go_at_call 67; (with_reducible refine (K3.out _).mono ?_); rintro e w1 ⟨rfl, hk1⟩
            exact hK.out _ _ ⟨_, _, true, _, _, _, _, _, _, _, rfl, pb0, pb1, rfl, hk.trans hk1, HA0.keeps hk1, HA1.keeps hk1, Db0_1, Z0, Z1⟩
          · subst hl; (repeat (rcases hd with ⟨hq, hd⟩; first | subst hq | clear hq)); (first | subst hd | clear hd | skip)
            obtain ⟨y0, y1, y2, y3⟩ := HS4.out _ hk
            go_simp
            exact hK.out _ _ ⟨_, _, _, true, _, _, _, _, _, _, rfl, pb0, pb1, rfl, hk, HA0, HA1, Db0_1, Z0, Z1⟩
          · subst hl; (repeat (rcases hd with ⟨hq, hd⟩; first | subst hq | clear hq)); (first | subst hd | clear hd | skip)
            go_simp
            exact hK.out _ _ ⟨_, _, _, _, true, _, _, _, _, _, rfl, pb0, pb1, rfl, hk, HA0, HA1, Db0_1, Z0, Z1⟩
          · subst hl; (repeat (rcases hd with ⟨hq, hd⟩; first | subst hq | clear hq)); (first | subst hd | clear hd | skip)
            go_simp
            go_at_call 67; (with_reducible refine (K4.out _).mono ?_); rintro e w1 ⟨rfl, hk1⟩
            exact hK.out _ _ ⟨_, _, _, _, _, true, _, _, _, _, rfl, pb0, pb1, rfl, hk.trans hk1, HA0.keeps hk1, HA1.keeps hk1, Db0_1, Z0, Z1⟩
          · subst hl; obtain rfl := Z0 rfl
            have hs := hk.size
            go_simp
            exact hK.out _ _ ⟨_, _, _, _, _, _, true, _, _, _, rfl, wb.heap.size, pb1, rfl, hk.alloc _, Box2.new (by omega), HA1.keeps ((Keeps.refl _).alloc _), (fun _ h => (HA1.ne h).symm), (fun h => by cases h), Z1⟩
          · subst hl; obtain rfl := Z1 rfl
            have hs := hk.size
            go_simp
            exact hK.out _ _ ⟨_, _, _, _, _, _, _, true, _, _, rfl, pb0, wb.heap.size, rfl, hk.alloc _, HA0.keeps ((Keeps.refl _).alloc _), Box2.new (by omega), (fun h _ => HA0.ne h), Z0, (fun h => by cases h)⟩
          · subst hl; (repeat (rcases hd with ⟨hq, hd⟩; first | subst hq | clear hq)); (first | subst hd | clear hd | skip)
            obtain ⟨q1, q2, q3, q4, q5, q6⟩ := HA0 rfl
            have hs := hk.size
            go_simp
            exact hK.out _ _ ⟨_, _, _, _, _, _, _, _, true, _, rfl, pb0, pb1, rfl, hk.set2 (by omega) _ _, HA0.at, HA1.far (fun h e => Db0_1 rfl h e.symm), Db0_1, (fun h => by cases h), Z1⟩
          · subst hl; (repeat (rcases hd with ⟨hq, hd⟩; first | subst hq | clear hq)); (first | subst hd | clear hd | skip)
            obtain ⟨q1, q2, q3, q4, q5, q6⟩ := HA1 rfl
            have hs := hk.size
            go_simp
            exact hK.out _ _ ⟨_, _, _, _, _, _, _, _, _, true, rfl, pb0, pb1, rfl, hk.set2 (by omega) _ _, HA0.far (fun h => Db0_1 h rfl), HA1.at, Db0_1, Z0, (fun h => by cases h)⟩
        · rintro L a wb ⟨b0, b1, b2, b3, b4, b5, b6, b7, b8, b9, rfl, pb0, pb1, rfl, hk, HA0, HA1, Db0_1, Z0, Z1⟩ hr
          have c := ready_nil hr 0 rfl (by simp [Region.binds]); simp at c; subst c
          have c := ready_nil hr 1 rfl (by simp [Region.binds]); simp at c; subst c
          have c := ready_nil hr 2 rfl (by simp [Region.binds]); simp at c; subst c
          have c := ready_nil hr 3 rfl (by simp [Region.binds]); simp at c; subst c
          have c := ready_nil hr 4 rfl (by simp [Region.binds]); simp at c; subst c
          have c := ready_nil hr 5 rfl (by simp [Region.binds]); simp at c; subst c
          have c := ready_nil hr 6 rfl (by simp [Region.binds]); simp at c; subst c
          have c := ready_nil hr 7 rfl (by simp [Region.binds]); simp at c; subst c
          have c := ready_nil hr 8 rfl (by simp [Region.binds]); simp at c; subst c
          have c := ready_nil hr 9 rfl (by simp [Region.binds]); simp at c; subst c
          clear hr Z0 Z1
          obtain ⟨qb0_1, qb0_2, qb0_3, qb0_4, qb0_5, qb0_6⟩ := HA0 rfl
          try simp only [if_true] at qb0_3 qb0_4
          have HXb0 := Lib.hid HA0; clear HA0; try simp only [if_true] at HXb0
          obtain ⟨qb1_1, qb1_2, qb1_3, qb1_4, qb1_5, qb1_6⟩ := HA1 rfl
          try simp only [if_true] at qb1_3 qb1_4
          have HXb1 := Lib.hid HA1; clear HA1; try simp only [if_true] at HXb1
          have Db0_1 := Db0_1 rfl rfl
          simp only [if_true]
          obtain ⟨y0, y1, y2, y3⟩ := HS4.out _ hk
          have hj := Keeps.trans HBV.out hk
          obtain ⟨z0, z1, z2, z3, z4, z5, z6, z7, z8, z9, z10, z11, z12, z13, z14, z15, z16, z17, z18, z19⟩ := HS5.out _ hk
          have hszb : w.heap.size + 5 ≤ wb.heap.size := by have h := hk.size; omega
          have hHS := Lib.hid (show ∀ w2, Keeps wb w2 → w2.cell? ⟨pb0, 0, none⟩ = some (.int .i64 n.1) ∧ w2.cell? ⟨pb0, 1, none⟩ = some (.int .i64 n.2) ∧ w2.cell? ⟨pb1, 0, none⟩ = some (.int .i64 m.1) ∧ w2.cell? ⟨pb1, 1, none⟩ = some (.int .i64 m.2) from fun w2 h => ⟨(h.cell (p := ⟨pb0, 0, none⟩) qb0_2).trans qb0_3, (h.cell (p := ⟨pb0, 1, none⟩) qb0_2).trans qb0_4, (h.cell (p := ⟨pb1, 0, none⟩) qb1_2).trans qb1_3, (h.cell (p := ⟨pb1, 1, none⟩) qb1_2).trans qb1_4⟩)
          have lb0 : w.heap.size + 5 ≤ pb0 := by omega
          have lb1 : w.heap.size + 5 ≤ pb1 := by omega
        
          go_wp2_with fail
          obtain ⟨m0, m1, m2, m3⟩ := hHS.out _ (Keeps.refl _)
          clear hHS HS5 HS4 HBV HXb0 HXb1 qb0_1 qb0_2 qb0_3 qb0_4 qb0_5 qb0_6 qb1_1 qb1_2 qb1_3 qb1_4 qb1_5 qb1_6 K1 K2 K3 K4 hk0 hk
          have f3 := fun (w' : World) (i : Nat) (u : Value) (j : Nat) => setFar w' (w.heap.size + 1 + 1 + 1) i pb1 j u (by omega)
          go_region_with (fail)
          all_goals
            go_wp2_with fail
            exact bodyPost_ret (v := .tuple #[.agg #[.int .i64 n.1, .int .i64 n.2], .agg #[.int .i64 m.1, .int .i64 m.2], .bool true]) (by simp [results, Tryz.results55, go_sem, *]) rfl ⟨rfl, (by (repeat (first | (with_reducible exact Keeps.refl _) | (with_reducible assumption) | (with_reducible refine Keeps.drewN ?_ _) | (with_reducible refine Keeps.drew ?_) | (with_reducible refine Keeps.alloc ?_ _) | (with_reducible refine Keeps.setNew ?_ ?_ _))) <;> ((try dsimp only); omega))⟩
    · rw [if_pos h5, if_pos h5]
      unfold negP
      obtain ⟨xa, xb, ya, yb, r, s, ex1, ex2, ey1, ey2, er, es, bx1, bx2, by1, by2, br, bs, eC⟩ := out_bd u v b h1 h2 h3
      have ga := (vP_bd h1).2.2
      have gv := (vP_bd h2).2.2
      have gb := (vP_bd h3).2.2
      have K1 := fun w => lway_any u.1 u.2 v.1 v.2 w (by omega) (by omega) (by omega) (by omega) (by omega) (by omega) (by omega) (by omega)
      have K2 := fun w => lway_any v.1 v.2 b.1 b.2 w (by omega) (by omega) (by omega) (by omega) (by omega) (by omega) (by omega) (by omega)
      clear ga gv gb
      rw [ex1, ex2] at K1
      rw [ey1, ey2] at K2
      have K1 := Lib.hid K1
      have K2 := Lib.hid K2
      have K3 := Lib.hid (fun w => ofs_any xa xb wd w)
      have K4 := Lib.hid (fun w => ofs_any ya yb wd w)
      have eX : subP v u = (xa, xb) := by unfold subP; rw [ex1, ex2]
      have eY : subP b v = (ya, yb) := by unfold subP; rw [ey1, ey2]
      have bn := ofs_bd' (xa, xb) wd
      have bm := ofs_bd' (ya, yb) wd
      rw [eC] at h5
      rw [eX, eY]
      have HC := True.intro
      generalize ofs (xa, xb) wd = n at *
      generalize ofs (ya, yb) wd = m at *
      rw [h1] at KA
      rw [h2] at KV
      rw [h3] at KB
      rw [h4] at KW
      have w1 : IntKind.i64.wrap r = r := i64_in _ (by omega)
      have w2 : IntKind.i64.wrap s = s := i64_in _ (by omega)
      have w3 : IntKind.i64.wrap (r - s) = r - s := i64_in _ (by omega)
      have n1 : IntKind.i64.wrap (-n.1) = -n.1 := i64_in _ (by omega)
      have n2 : IntKind.i64.wrap (-n.2) = -n.2 := i64_in _ (by omega)
      have n3 : IntKind.i64.wrap (-m.1) = -m.1 := i64_in _ (by omega)
      have n4 : IntKind.i64.wrap (-m.2) = -m.2 := i64_in _ (by omega)
      have q1 : (r - s == 0) = false := by rw [beq_eq_false_iff_ne]; omega
      have q2 : decide (0 < r - s) = true := decide_eq_true (by omega)
      have q3 : decide (s < r) = true := decide_eq_true (by omega)
      clear h5
      clear hb h1 h2 h3 h4 ex1 ex2 ey1 ey2 eX eY eC HC
      go_enter Tryz.func55, Tryz.ntmps55
      go_wp2_with (first | (go_at_call 28; (first | (with_reducible refine (keepk (KA.out _) (by first | assumption | exact Keeps.drew (by assumption) | exact Keeps.drewN (by assumption) _)).mono ?_) | (with_reducible refine (keepk (KV.out _) (by first | assumption | exact Keeps.drew (by assumption) | exact Keeps.drewN (by assumption) _)).mono ?_) | (with_reducible refine (keepk (KB.out _) (by first | assumption | exact Keeps.drew (by assumption) | exact Keeps.drewN (by assumption) _)).mono ?_) | fail "V"); rintro e w1 ⟨rfl, hk⟩; have hj := Keeps.trans HB.out hk; have hk := hk; obtain ⟨y0, y1, y2, y3, y4, y5, y6, y7, y8, y9, y10, y11, y12, y13, y14, y15, y16, y17, y18, y19⟩ := HS.out _ hk) | (go_at_call 70; (with_reducible refine (KW.out _).mono ?_); rintro e w1 ⟨rfl, rfl⟩) | fail "ARM")
      refine name_world (fun W3 hW3 => ?_)
      have hk3 : Keeps (((((w.alloc (.cells #[.int .i64 u.1, .int .i64 u.2] 37)).alloc (.cells #[.int .i64 v.1, .int .i64 v.2] 37)).alloc (.cells #[.int .i64 b.1, .int .i64 b.2] 37)).alloc (.cells #[.int .i64 0, .int .i64 0] 37)).alloc (.cells #[.int .i64 0, .int .i64 0] 37)) W3 := by rw [hW3]; assumption
      clear hW3 hj y0 y1 y2 y3 y4 y5 y6 y7 y8 y9 y10 y11 y12 y13 y14 y15 y16 y17 y18 y19
      have HS3 := Lib.hid (show ∀ w', Keeps W3 w' → w'.cell? ⟨w.heap.size, 0, none⟩ = some (.int .i64 u.1) ∧ w'.frozen? ⟨w.heap.size, 0, none⟩ = false ∧ w'.cell? ⟨w.heap.size, 1, none⟩ = some (.int .i64 u.2) ∧ w'.frozen? ⟨w.heap.size, 1, none⟩ = false ∧ w'.cell? ⟨w.heap.size + 1, 0, none⟩ = some (.int .i64 v.1) ∧ w'.frozen? ⟨w.heap.size + 1, 0, none⟩ = false ∧ w'.cell? ⟨w.heap.size + 1, 1, none⟩ = some (.int .i64 v.2) ∧ w'.frozen? ⟨w.heap.size + 1, 1, none⟩ = false ∧ w'.cell? ⟨w.heap.size + 1 + 1, 0, none⟩ = some (.int .i64 b.1) ∧ w'.frozen? ⟨w.heap.size + 1 + 1, 0, none⟩ = false ∧ w'.cell? ⟨w.heap.size + 1 + 1, 1, none⟩ = some (.int .i64 b.2) ∧ w'.frozen? ⟨w.heap.size + 1 + 1, 1, none⟩ = false ∧ w'.cell? ⟨w.heap.size + 1 + 1 + 1, 0, none⟩ = some (.int .i64 0) ∧ w'.frozen? ⟨w.heap.size + 1 + 1 + 1, 0, none⟩ = false ∧ w'.cell? ⟨w.heap.size + 1 + 1 + 1, 1, none⟩ = some (.int .i64 0) ∧ w'.frozen? ⟨w.heap.size + 1 + 1 + 1, 1, none⟩ = false ∧ w'.cell? ⟨w.heap.size + 1 + 1 + 1 + 1, 0, none⟩ = some (.int .i64 0) ∧ w'.frozen? ⟨w.heap.size + 1 + 1 + 1 + 1, 0, none⟩ = false ∧ w'.cell? ⟨w.heap.size + 1 + 1 + 1 + 1, 1, none⟩ = some (.int .i64 0) ∧ w'.frozen? ⟨w.heap.size + 1 + 1 + 1 + 1, 1, none⟩ = false from fun w' hq => HS.out w' (hk3.trans hq))
      have HBW := Lib.hid (HB.out.trans hk3)
      have hsz3 : w.heap.size + 5 ≤ W3.heap.size := by have h := hk3.size; simp at h; omega
      clear hk hk0 hk3 HS HB KA KV KB KW
      have hk0 := Keeps.refl W3
      refine wp_region_steps (by kernel_rfl) (fun L a wa => ∃ (b0 b1 b2 b3 b4 b5 b6 b7 b8 b9 : Bool), L = #[b0, b1, b2, b3, b4, b5, b6, b7, b8, b9] ∧ ∃ (pa0 pa1 : Nat), a = { tmps := #[.agg #[.int .i64 u.1, .int .i64 u.2], .agg #[.int .i64 v.1, .int .i64 v.2], .agg #[.int .i64 b.1, .int .i64 b.2], .int .i64 wd, .pointer (some ⟨w.heap.size, 0, none⟩), .pointer (some ⟨w.heap.size + 1, 0, none⟩), .pointer (some ⟨w.heap.size + 1 + 1, 0, none⟩), undef, .pointer (some ⟨w.heap.size + 1 + 1 + 1, 0, none⟩), .pointer (some ⟨w.heap.size + 1 + 1 + 1 + 1, 0, none⟩), .bool false, if b6 then .pointer (some ⟨pa0, 0, none⟩) else undef, if b7 then .pointer (some ⟨pa1, 0, none⟩) else undef, undef, undef, undef, undef, .agg #[.int .i64 u.1, .int .i64 u.2], .bool true, .bool false, .bool false, .agg #[.int .i64 v.1, .int .i64 v.2], .bool true, .bool false, .bool false, .bool false, .agg #[.int .i64 b.1, .int .i64 b.2], .bool true, .bool false, .bool false, .bool false, .int .i64 wd, .bool true, .bool false, .bool false, undef, undef, if b0 then .agg #[.int .i64 u.1, .int .i64 u.2] else undef, if b1 then .agg #[.int .i64 v.1, .int .i64 v.2] else undef, if b2 then .agg #[.int .i64 xa, .int .i64 xb] else undef, if b3 then .agg #[.int .i64 v.1, .int .i64 v.2] else undef, if b4 then .agg #[.int .i64 b.1, .int .i64 b.2] else undef, if b5 then .agg #[.int .i64 ya, .int .i64 yb] else undef, undef, undef, undef, undef, undef, undef, undef, undef, undef, undef, undef, undef, undef, undef, undef, undef, undef, undef, undef, undef, undef, undef, undef, undef, undef, undef, undef, undef, undef, undef, undef, undef, undef, undef], defers := [] } ∧ Keeps (W3) wa ∧ Box2 b6 (W3.heap.size) (pa0) (.int .i64 (if b8 then xa else 0)) (.int .i64 (if b8 then xb else 0)) wa ∧ Box2 b7 (W3.heap.size) (pa1) (.int .i64 (if b9 then ya else 0)) (.int .i64 (if b9 then yb else 0)) wa ∧ (b6 = true → b7 = true → pa0 ≠ pa1) ∧ (b6 = false → b8 = false) ∧ (b7 = false → b9 = false)) 10 (by kernel_rfl) ?_ ?_ ?_
      · exact ⟨false, false, false, false, false, false, false, false, false, false, rfl, 0, 0, rfl, hk0.drew, Box2.none, Box2.none, (fun h => by cases h), (fun _ => rfl), (fun _ => rfl)⟩
      · refine (InvSteps.cons rfl ?_ (InvSteps.cons rfl ?_ (InvSteps.cons rfl ?_ (InvSteps.cons rfl ?_ (InvSteps.cons rfl ?_ (InvSteps.cons rfl ?_ (InvSteps.cons rfl ?_ (InvSteps.cons rfl ?_ (InvSteps.cons rfl ?_ (InvSteps.cons rfl ?_ InvSteps.nil))))))))))
        all_goals rintro L a wa ⟨b0, b1, b2, b3, b4, b5, b6, b7, b8, b9, rfl, pa0, pa1, rfl, hk, HA0, HA1, Da0_1, Z0, Z1⟩ hl hd K hK
        all_goals (simp [Region.binds] at hl hd; simp only [List.getElem_toArray, List.getElem_cons_zero, List.getElem_cons_succ])
        · subst hl; (repeat (rcases hd with ⟨hq, hd⟩; first | subst hq | clear hq)); (first | subst hd | clear hd | skip)
          obtain ⟨y0, y1, y2, y3, y4, y5, y6, y7, y8, y9, y10, y11, y12, y13, y14, y15, y16, y17, y18, y19⟩ := HS3.out _ hk
          go_simp
          exact hK.out _ _ ⟨true, _, _, _, _, _, _, _, _, _, rfl, pa0, pa1, rfl, hk, HA0, HA1, Da0_1, Z0, Z1⟩
        · subst hl; (repeat (rcases hd with ⟨hq, hd⟩; first | subst hq | clear hq)); (first | subst hd | clear hd | skip)
          obtain ⟨y0, y1, y2, y3, y4, y5, y6, y7, y8, y9, y10, y11, y12, y13, y14, y15, y16, y17, y18, y19⟩ := HS3.out _ hk
          go_simp
          exact hK.out _ _ ⟨_, true, _, _, _, _, _, _, _, _, rfl, pa0, pa1, rfl, hk, HA0, HA1, Da0_1, Z0, Z1⟩
        · subst hl; (repeat (rcases hd with ⟨hq, hd⟩; first | subst hq | clear hq)); (first | subst hd | clear hd | skip)
          go_simp
          go_at_call 71; (with_reducible refine (K1.out _).mono ?_); rintro e w1 ⟨rfl, hk1⟩
          exact hK.out _ _ ⟨_, _, true, _, _, _, _, _, _, _, rfl, pa0, pa1, rfl, hk.trans hk1, HA0.keeps hk1, HA1.keeps hk1, Da0_1, Z0, Z1⟩
        · subst hl; (repeat (rcases hd with ⟨hq, hd⟩; first | subst hq | clear hq)); (first | subst hd | clear hd | skip)
          obtain ⟨y0, y1, y2, y3, y4, y5, y6, y7, y8, y9, y10, y11, y12, y13, y14, y15, y16, y17, y18, y19⟩ := HS3.out _ hk
          go_simp
          exact hK.out _ _ ⟨_, _, _, true, _, _, _, _, _, _, rfl, pa0, pa1, rfl, hk, HA0, HA1, Da0_1, Z0, Z1⟩
        · subst hl; (repeat (rcases hd with ⟨hq, hd⟩; first | subst hq | clear hq)); (first | subst hd | clear hd | skip)
          obtain ⟨y0, y1, y2, y3, y4, y5, y6, y7, y8, y9, y10, y11, y12, y13, y14, y15, y16, y17, y18, y19⟩ := HS3.out _ hk
          go_simp
          exact hK.out _ _ ⟨_, _, _, _, true, _, _, _, _, _, rfl, pa0, pa1, rfl, hk, HA0, HA1, Da0_1, Z0, Z1⟩
        · subst hl; (repeat (rcases hd with ⟨hq, hd⟩; first | subst hq | clear hq)); (first | subst hd | clear hd | skip)
          go_simp
          go_at_call 71; (with_reducible refine (K2.out _).mono ?_); rintro e w1 ⟨rfl, hk1⟩
          exact hK.out _ _ ⟨_, _, _, _, _, true, _, _, _, _, rfl, pa0, pa1, rfl, hk.trans hk1, HA0.keeps hk1, HA1.keeps hk1, Da0_1, Z0, Z1⟩
        · subst hl; obtain rfl := Z0 rfl
          have hs := hk.size
          go_simp
          exact hK.out _ _ ⟨_, _, _, _, _, _, true, _, _, _, rfl, wa.heap.size, pa1, rfl, hk.alloc _, Box2.new (by omega), HA1.keeps ((Keeps.refl _).alloc _), (fun _ h => (HA1.ne h).symm), (fun h => by cases h), Z1⟩
        · subst hl; obtain rfl := Z1 rfl
          have hs := hk.size
          go_simp
          exact hK.out _ _ ⟨_, _, _, _, _, _, _, true, _, _, rfl, pa0, wa.heap.size, rfl, hk.alloc _, HA0.keeps ((Keeps.refl _).alloc _), Box2.new (by omega), (fun h _ => HA0.ne h), Z0, (fun h => by cases h)⟩
        · subst hl; (repeat (rcases hd with ⟨hq, hd⟩; first | subst hq | clear hq)); (first | subst hd | clear hd | skip)
          obtain ⟨q1, q2, q3, q4, q5, q6⟩ := HA0 rfl
          have hs := hk.size
          go_simp
          exact hK.out _ _ ⟨_, _, _, _, _, _, _, _, true, _, rfl, pa0, pa1, rfl, hk.set2 (by omega) _ _, HA0.at, HA1.far (fun h e => Da0_1 rfl h e.symm), Da0_1, (fun h => by cases h), Z1⟩
        · subst hl; (repeat (rcases hd with ⟨hq, hd⟩; first | subst hq | clear hq)); (first | subst hd | clear hd | skip)
          obtain ⟨q1, q2, q3, q4, q5, q6⟩ := HA1 rfl
          have hs := hk.size
          go_simp
          exact hK.out _ _ ⟨_, _, _, _, _, _, _, _, _, true, rfl, pa0, pa1, rfl, hk.set2 (by omega) _ _, HA0.far (fun h => Da0_1 h rfl), HA1.at, Da0_1, Z0, (fun h => by cases h)⟩
      · rintro L a wa ⟨b0, b1, b2, b3, b4, b5, b6, b7, b8, b9, rfl, pa0, pa1, rfl, hk, HA0, HA1, Da0_1, Z0, Z1⟩ hr
        have c := ready_nil hr 0 rfl (by simp [Region.binds]); simp at c; subst c
        have c := ready_nil hr 1 rfl (by simp [Region.binds]); simp at c; subst c
        have c := ready_nil hr 2 rfl (by simp [Region.binds]); simp at c; subst c
        have c := ready_nil hr 3 rfl (by simp [Region.binds]); simp at c; subst c
        have c := ready_nil hr 4 rfl (by simp [Region.binds]); simp at c; subst c
        have c := ready_nil hr 5 rfl (by simp [Region.binds]); simp at c; subst c
        have c := ready_nil hr 6 rfl (by simp [Region.binds]); simp at c; subst c
        have c := ready_nil hr 7 rfl (by simp [Region.binds]); simp at c; subst c
        have c := ready_nil hr 8 rfl (by simp [Region.binds]); simp at c; subst c
        have c := ready_nil hr 9 rfl (by simp [Region.binds]); simp at c; subst c
        clear hr Z0 Z1
        obtain ⟨qa0_1, qa0_2, qa0_3, qa0_4, qa0_5, qa0_6⟩ := HA0 rfl
        try simp only [if_true] at qa0_3 qa0_4
        have HXa0 := Lib.hid HA0; clear HA0; try simp only [if_true] at HXa0
        obtain ⟨qa1_1, qa1_2, qa1_3, qa1_4, qa1_5, qa1_6⟩ := HA1 rfl
        try simp only [if_true] at qa1_3 qa1_4
        have HXa1 := Lib.hid HA1; clear HA1; try simp only [if_true] at HXa1
        have Da0_1 := Da0_1 rfl rfl
        simp only [if_true]
        obtain ⟨y0, y1, y2, y3, y4, y5, y6, y7, y8, y9, y10, y11, y12, y13, y14, y15, y16, y17, y18, y19⟩ := HS3.out _ hk
        have hj := Keeps.trans HBW.out hk
        have HS4 := Lib.hid (show ∀ w2, Keeps wa w2 → w2.cell? ⟨pa0, 0, none⟩ = some (.int .i64 xa) ∧ w2.cell? ⟨pa0, 1, none⟩ = some (.int .i64 xb) ∧ w2.cell? ⟨pa1, 0, none⟩ = some (.int .i64 ya) ∧ w2.cell? ⟨pa1, 1, none⟩ = some (.int .i64 yb) from fun w2 h => ⟨(h.cell (p := ⟨pa0, 0, none⟩) qa0_2).trans qa0_3, (h.cell (p := ⟨pa0, 1, none⟩) qa0_2).trans qa0_4, (h.cell (p := ⟨pa1, 0, none⟩) qa1_2).trans qa1_3, (h.cell (p := ⟨pa1, 1, none⟩) qa1_2).trans qa1_4⟩)
        have HBV := Lib.hid hj
        have HS5 := Lib.hid (fun w2 (h : Keeps wa w2) => HS3.out w2 (hk.trans h))
        have hsza : w.heap.size + 5 ≤ wa.heap.size := by have h := hk.size; omega
        have lo0 : w.heap.size + 5 ≤ pa0 := by omega
        have lo1 : w.heap.size + 5 ≤ pa1 := by omega
        clear hk0 hk hj HXa0 HXa1 qa0_1 qa0_2 qa0_3 qa0_4 qa0_5 qa0_6 qa1_1 qa1_2 qa1_3 qa1_4 qa1_5 qa1_6 y0 y1 y2 y3 y4 y5 y6 y7 y8 y9 y10 y11 y12 y13 y14 y15 y16 y17 y18 y19 HS3 HBW
        have hk0 := Keeps.refl wa
        go_wp2_with fail
        refine wp_region_steps (by kernel_rfl) (fun L a wb => ∃ (b0 b1 b2 b3 b4 b5 b6 b7 b8 b9 : Bool), L = #[b0, b1, b2, b3, b4, b5, b6, b7, b8, b9] ∧ ∃ (pb0 pb1 : Nat), a = { tmps := #[.agg #[.int .i64 u.1, .int .i64 u.2], .agg #[.int .i64 v.1, .int .i64 v.2], .agg #[.int .i64 b.1, .int .i64 b.2], .int .i64 wd, .pointer (some ⟨w.heap.size, 0, none⟩), .pointer (some ⟨w.heap.size + 1, 0, none⟩), .pointer (some ⟨w.heap.size + 1 + 1, 0, none⟩), undef, .pointer (some ⟨w.heap.size + 1 + 1 + 1, 0, none⟩), .pointer (some ⟨w.heap.size + 1 + 1 + 1 + 1, 0, none⟩), .bool false, .pointer (some ⟨pa0, 0, none⟩), .pointer (some ⟨pa1, 0, none⟩), if b6 then .pointer (some ⟨pb0, 0, none⟩) else undef, if b7 then .pointer (some ⟨pb1, 0, none⟩) else undef, undef, undef, .agg #[.int .i64 u.1, .int .i64 u.2], .bool true, .bool false, .bool false, .agg #[.int .i64 v.1, .int .i64 v.2], .bool true, .bool false, .bool false, .bool false, .agg #[.int .i64 b.1, .int .i64 b.2], .bool true, .bool false, .bool false, .bool false, .int .i64 wd, .bool true, .bool false, .bool false, undef, undef, .agg #[.int .i64 u.1, .int .i64 u.2], .agg #[.int .i64 v.1, .int .i64 v.2], .agg #[.int .i64 xa, .int .i64 xb], .agg #[.int .i64 v.1, .int .i64 v.2], .agg #[.int .i64 b.1, .int .i64 b.2], .agg #[.int .i64 ya, .int .i64 yb], if b0 then .agg #[.int .i64 xa, .int .i64 xb] else undef, if b1 then .int .i64 wd else undef, if b2 then .agg #[.int .i64 n.1, .int .i64 n.2] else undef, if b3 then .agg #[.int .i64 ya, .int .i64 yb] else undef, if b4 then .int .i64 wd else undef, if b5 then .agg #[.int .i64 m.1, .int .i64 m.2] else undef, undef, undef, undef, undef, undef, undef, undef, undef, undef, undef, undef, undef, undef, undef, undef, undef, undef, undef, undef, undef, undef, undef, undef, undef, undef, undef, undef, undef], defers := [] } ∧ Keeps (wa) wb ∧ Box2 b6 (wa.heap.size) (pb0) (.int .i64 (if b8 then n.1 else 0)) (.int .i64 (if b8 then n.2 else 0)) wb ∧ Box2 b7 (wa.heap.size) (pb1) (.int .i64 (if b9 then m.1 else 0)) (.int .i64 (if b9 then m.2 else 0)) wb ∧ (b6 = true → b7 = true → pb0 ≠ pb1) ∧ (b6 = false → b8 = false) ∧ (b7 = false → b9 = false)) 10 (by kernel_rfl) ?_ ?_ ?_
        · exact ⟨false, false, false, false, false, false, false, false, false, false, rfl, 0, 0, rfl, hk0.drew, Box2.none, Box2.none, (fun h => by cases h), (fun _ => rfl), (fun _ => rfl)⟩
        · refine (InvSteps.cons rfl ?_ (InvSteps.cons rfl ?_ (InvSteps.cons rfl ?_ (InvSteps.cons rfl ?_ (InvSteps.cons rfl ?_ (InvSteps.cons rfl ?_ (InvSteps.cons rfl ?_ (InvSteps.cons rfl ?_ (InvSteps.cons rfl ?_ (InvSteps.cons rfl ?_ InvSteps.nil))))))))))
          all_goals rintro L a wb ⟨b0, b1, b2, b3, b4, b5, b6, b7, b8, b9, rfl, pb0, pb1, rfl, hk, HA0, HA1, Db0_1, Z0, Z1⟩ hl hd K hK
          all_goals (simp [Region.binds] at hl hd; simp only [List.getElem_toArray, List.getElem_cons_zero, List.getElem_cons_succ])
          · subst hl; (repeat (rcases hd with ⟨hq, hd⟩; first | subst hq | clear hq)); (first | subst hd | clear hd | skip)
            obtain ⟨y0, y1, y2, y3⟩ := HS4.out _ hk
            go_simp
            exact hK.out _ _ ⟨true, _, _, _, _, _, _, _, _, _, rfl, pb0, pb1, rfl, hk, HA0, HA1, Db0_1, Z0, Z1⟩
          · subst hl; (repeat (rcases hd with ⟨hq, hd⟩; first | subst hq | clear hq)); (first | subst hd | clear hd | skip)
            go_simp
            exact hK.out _ _ ⟨_, true, _, _, _, _, _, _, _, _, rfl, pb0, pb1, rfl, hk, HA0, HA1, Db0_1, Z0, Z1⟩
          · subst hl; (repeat (rcases hd with ⟨hq, hd⟩; first | subst hq | clear hq)); (first | subst hd | clear hd | skip)
            go_simp
            go_at_call 67; (with_reducible refine (K3.out _).mono ?_); rintro e w1 ⟨rfl, hk1⟩
            exact hK.out _ _ ⟨_, _, true, _, _, _, _, _, _, _, rfl, pb0, pb1, rfl, hk.trans hk1, HA0.keeps hk1, HA1.keeps hk1, Db0_1, Z0, Z1⟩
          · subst hl; (repeat (rcases hd with ⟨hq, hd⟩; first | subst hq | clear hq)); (first | subst hd | clear hd | skip)
            obtain ⟨y0, y1, y2, y3⟩ := HS4.out _ hk
            go_simp
            exact hK.out _ _ ⟨_, _, _, true, _, _, _, _, _, _, rfl, pb0, pb1, rfl, hk, HA0, HA1, Db0_1, Z0, Z1⟩
          · subst hl; (repeat (rcases hd with ⟨hq, hd⟩; first | subst hq | clear hq)); (first | subst hd | clear hd | skip)
            go_simp
            exact hK.out _ _ ⟨_, _, _, _, true, _, _, _, _, _, rfl, pb0, pb1, rfl, hk, HA0, HA1, Db0_1, Z0, Z1⟩
          · subst hl; (repeat (rcases hd with ⟨hq, hd⟩; first | subst hq | clear hq)); (first | subst hd | clear hd | skip)
            go_simp
            go_at_call 67; (with_reducible refine (K4.out _).mono ?_); rintro e w1 ⟨rfl, hk1⟩
            exact hK.out _ _ ⟨_, _, _, _, _, true, _, _, _, _, rfl, pb0, pb1, rfl, hk.trans hk1, HA0.keeps hk1, HA1.keeps hk1, Db0_1, Z0, Z1⟩
          · subst hl; obtain rfl := Z0 rfl
            have hs := hk.size
            go_simp
            exact hK.out _ _ ⟨_, _, _, _, _, _, true, _, _, _, rfl, wb.heap.size, pb1, rfl, hk.alloc _, Box2.new (by omega), HA1.keeps ((Keeps.refl _).alloc _), (fun _ h => (HA1.ne h).symm), (fun h => by cases h), Z1⟩
          · subst hl; obtain rfl := Z1 rfl
            have hs := hk.size
            go_simp
            exact hK.out _ _ ⟨_, _, _, _, _, _, _, true, _, _, rfl, pb0, wb.heap.size, rfl, hk.alloc _, HA0.keeps ((Keeps.refl _).alloc _), Box2.new (by omega), (fun h _ => HA0.ne h), Z0, (fun h => by cases h)⟩
          · subst hl; (repeat (rcases hd with ⟨hq, hd⟩; first | subst hq | clear hq)); (first | subst hd | clear hd | skip)
            obtain ⟨q1, q2, q3, q4, q5, q6⟩ := HA0 rfl
            have hs := hk.size
            go_simp
            exact hK.out _ _ ⟨_, _, _, _, _, _, _, _, true, _, rfl, pb0, pb1, rfl, hk.set2 (by omega) _ _, HA0.at, HA1.far (fun h e => Db0_1 rfl h e.symm), Db0_1, (fun h => by cases h), Z1⟩
          · subst hl; (repeat (rcases hd with ⟨hq, hd⟩; first | subst hq | clear hq)); (first | subst hd | clear hd | skip)
            obtain ⟨q1, q2, q3, q4, q5, q6⟩ := HA1 rfl
            have hs := hk.size
            go_simp
            exact hK.out _ _ ⟨_, _, _, _, _, _, _, _, _, true, rfl, pb0, pb1, rfl, hk.set2 (by omega) _ _, HA0.far (fun h => Db0_1 h rfl), HA1.at, Db0_1, Z0, (fun h => by cases h)⟩
        · rintro L a wb ⟨b0, b1, b2, b3, b4, b5, b6, b7, b8, b9, rfl, pb0, pb1, rfl, hk, HA0, HA1, Db0_1, Z0, Z1⟩ hr
          have c := ready_nil hr 0 rfl (by simp [Region.binds]); simp at c; subst c
          have c := ready_nil hr 1 rfl (by simp [Region.binds]); simp at c; subst c
          have c := ready_nil hr 2 rfl (by simp [Region.binds]); simp at c; subst c
          have c := ready_nil hr 3 rfl (by simp [Region.binds]); simp at c; subst c
          have c := ready_nil hr 4 rfl (by simp [Region.binds]); simp at c; subst c
          have c := ready_nil hr 5 rfl (by simp [Region.binds]); simp at c; subst c
          have c := ready_nil hr 6 rfl (by simp [Region.binds]); simp at c; subst c
          have c := ready_nil hr 7 rfl (by simp [Region.binds]); simp at c; subst c
          have c := ready_nil hr 8 rfl (by simp [Region.binds]); simp at c; subst c
          have c := ready_nil hr 9 rfl (by simp [Region.binds]); simp at c; subst c
          clear hr Z0 Z1
          obtain ⟨qb0_1, qb0_2, qb0_3, qb0_4, qb0_5, qb0_6⟩ := HA0 rfl
          try simp only [if_true] at qb0_3 qb0_4
          have HXb0 := Lib.hid HA0; clear HA0; try simp only [if_true] at HXb0
          obtain ⟨qb1_1, qb1_2, qb1_3, qb1_4, qb1_5, qb1_6⟩ := HA1 rfl
          try simp only [if_true] at qb1_3 qb1_4
          have HXb1 := Lib.hid HA1; clear HA1; try simp only [if_true] at HXb1
          have Db0_1 := Db0_1 rfl rfl
          simp only [if_true]
          obtain ⟨y0, y1, y2, y3⟩ := HS4.out _ hk
          have hj := Keeps.trans HBV.out hk
          obtain ⟨z0, z1, z2, z3, z4, z5, z6, z7, z8, z9, z10, z11, z12, z13, z14, z15, z16, z17, z18, z19⟩ := HS5.out _ hk
          have hszb : w.heap.size + 5 ≤ wb.heap.size := by have h := hk.size; omega
          have hHS := Lib.hid (show ∀ w2, Keeps wb w2 → w2.cell? ⟨pb0, 0, none⟩ = some (.int .i64 n.1) ∧ w2.cell? ⟨pb0, 1, none⟩ = some (.int .i64 n.2) ∧ w2.cell? ⟨pb1, 0, none⟩ = some (.int .i64 m.1) ∧ w2.cell? ⟨pb1, 1, none⟩ = some (.int .i64 m.2) from fun w2 h => ⟨(h.cell (p := ⟨pb0, 0, none⟩) qb0_2).trans qb0_3, (h.cell (p := ⟨pb0, 1, none⟩) qb0_2).trans qb0_4, (h.cell (p := ⟨pb1, 0, none⟩) qb1_2).trans qb1_3, (h.cell (p := ⟨pb1, 1, none⟩) qb1_2).trans qb1_4⟩)
          have lb0 : w.heap.size + 5 ≤ pb0 := by omega
          have lb1 : w.heap.size + 5 ≤ pb1 := by omega
        
          go_wp2_with fail
          have K6 := fun w => lway_any n.1 n.2 0 0 w (by omega) (by omega) (by omega) (by omega) (by omega) (by omega) (by omega) (by omega)
          have K7 := fun w => lway_any m.1 m.2 0 0 w (by omega) (by omega) (by omega) (by omega) (by omega) (by omega) (by omega) (by omega)
          simp only [Int.zero_sub] at K6 K7
          have K6 := Lib.hid K6
          have K7 := Lib.hid K7
          refine name_world (fun W5 hW5 => ?_)
          have hkW : Keeps wb W5 := by rw [hW5]; exact (Keeps.refl _).alloc _
          have hk0 : Keeps w W5 := hj.trans hkW
          have hs5 : wb.heap.size < W5.heap.size := by rw [hW5]; simp
          have BO := Lib.hid (show Box2 true w.heap.size wb.heap.size (.int .i64 0) (.int .i64 0) W5 from by rw [hW5]; exact Box2.new (by omega))
          clear hW5
          have mk : ∀ q u x, w.heap.size ≤ q → q < wb.heap.size → wb.cell? ⟨q, 0, none⟩ = some u → wb.cell? ⟨q, 1, none⟩ = some x → wb.frozen? ⟨q, 0, none⟩ = false → wb.frozen? ⟨q, 1, none⟩ = false → Box2 true w.heap.size q u x W5 := fun q u x a1 a2 a3 a4 a5 a6 => Box2.keeps (fun _ => ⟨a1, a2, a3, a4, a5, a6⟩) hkW
          have BN := Lib.hid (mk pb0 _ _ (by omega) qb0_2 qb0_3 qb0_4 qb0_5 qb0_6)
          have BM := Lib.hid (mk pb1 _ _ (by omega) qb1_2 qb1_3 qb1_4 qb1_5 qb1_6)
          have B8 := Lib.hid (mk (w.heap.size + 1 + 1 + 1) _ _ (by omega) (by omega) z12 z14 z13 z15)
          have B9 := Lib.hid (mk (w.heap.size + 1 + 1 + 1 + 1) _ _ (by omega) (by omega) z16 z18 z17 z19)
          have pq := Db0_1
          have ltb0 := qb0_2
          have ltb1 := qb1_2
          clear mk hHS HS5 HS4 HBV HXb0 HXb1 qb0_1 qb0_2 qb0_3 qb0_4 qb0_5 qb0_6 qb1_1 qb1_2 qb1_3 qb1_4 qb1_5 qb1_6 K1 K2 K3 K4 hk z0 z1 z2 z3 z4 z5 z6 z7 z8 z9 z10 z11 z12 z13 z14 z15 z16 z17 z18 z19
          refine wp_region_steps (by kernel_rfl) (fun L a wc => ∃ (b0 b1 b2 b3 b4 b5 b6 b7 b8 : Bool), L = #[b0, b1, b2, b3, b4, b5, b6, b7, b8] ∧ a = { tmps := #[.agg #[.int .i64 u.1, .int .i64 u.2], .agg #[.int .i64 v.1, .int .i64 v.2], .agg #[.int .i64 b.1, .int .i64 b.2], .int .i64 wd, .pointer (some ⟨w.heap.size, 0, none⟩), .pointer (some ⟨w.heap.size + 1, 0, none⟩), .pointer (some ⟨w.heap.size + 1 + 1, 0, none⟩), undef, .pointer (some ⟨w.heap.size + 1 + 1 + 1, 0, none⟩), .pointer (some ⟨w.heap.size + 1 + 1 + 1 + 1, 0, none⟩), .bool b8, .pointer (some ⟨pa0, 0, none⟩), .pointer (some ⟨pa1, 0, none⟩), .pointer (some ⟨pb0, 0, none⟩), .pointer (some ⟨pb1, 0, none⟩), .int .i64 (r - s), .pointer (some ⟨wb.heap.size, 0, none⟩), .agg #[.int .i64 u.1, .int .i64 u.2], .bool true, .bool false, .bool false, .agg #[.int .i64 v.1, .int .i64 v.2], .bool true, .bool false, .bool false, .bool false, .agg #[.int .i64 b.1, .int .i64 b.2], .bool true, .bool false, .bool false, .bool false, .int .i64 wd, .bool true, .bool false, .bool false, undef, undef, .agg #[.int .i64 u.1, .int .i64 u.2], .agg #[.int .i64 v.1, .int .i64 v.2], .agg #[.int .i64 xa, .int .i64 xb], .agg #[.int .i64 v.1, .int .i64 v.2], .agg #[.int .i64 b.1, .int .i64 b.2], .agg #[.int .i64 ya, .int .i64 yb], .agg #[.int .i64 xa, .int .i64 xb], .int .i64 wd, .agg #[.int .i64 n.1, .int .i64 n.2], .agg #[.int .i64 ya, .int .i64 yb], .int .i64 wd, .agg #[.int .i64 m.1, .int .i64 m.2], .pointer (some ⟨pa0, 0, none⟩), .int .i64 xa, .pointer (some ⟨pa1, 1, none⟩), .int .i64 yb, .int .i64 r, .pointer (some ⟨pa0, 1, none⟩), .int .i64 xb, .pointer (some ⟨pa1, 0, none⟩), .int .i64 ya, .int .i64 s, .int .i64 (r - s), .bool false, .int .i64 (r - s), .bool false, undef, undef, .bool true, .int .i64 (r - s), .bool true, .agg #[.int .i64 0, .int .i64 0], if b0 then .agg #[.int .i64 n.1, .int .i64 n.2] else undef, if b1 then .agg #[.int .i64 0, .int .i64 0] else undef, if b2 then .agg #[.int .i64 (-n.1), .int .i64 (-n.2)] else undef, if b3 then .agg #[.int .i64 m.1, .int .i64 m.2] else undef, if b4 then .agg #[.int .i64 0, .int .i64 0] else undef, if b5 then .agg #[.int .i64 (-m.1), .int .i64 (-m.2)] else undef, undef, undef], defers := [] } ∧ Keeps (w) wc ∧ Box2 true (w.heap.size) (pb0) (.int .i64 n.1) (.int .i64 n.2) wc ∧ Box2 true (w.heap.size) (pb1) (.int .i64 m.1) (.int .i64 m.2) wc ∧ Box2 true (w.heap.size) (wb.heap.size) (.int .i64 0) (.int .i64 0) wc ∧ Box2 true (w.heap.size) (w.heap.size + 1 + 1 + 1) (.int .i64 (if b6 then (-n.1) else 0)) (.int .i64 (if b6 then (-n.2) else 0)) wc ∧ Box2 true (w.heap.size) (w.heap.size + 1 + 1 + 1 + 1) (.int .i64 (if b7 then (-m.1) else 0)) (.int .i64 (if b7 then (-m.2) else 0)) wc ∧ (true = true → true = true → pb0 ≠ pb1) ∧ (true = true → true = true → pb0 ≠ wb.heap.size) ∧ (true = true → true = true → pb0 ≠ w.heap.size + 1 + 1 + 1) ∧ (true = true → true = true → pb0 ≠ w.heap.size + 1 + 1 + 1 + 1) ∧ (true = true → true = true → pb1 ≠ wb.heap.size) ∧ (true = true → true = true → pb1 ≠ w.heap.size + 1 + 1 + 1) ∧ (true = true → true = true → pb1 ≠ w.heap.size + 1 + 1 + 1 + 1) ∧ (true = true → true = true → wb.heap.size ≠ w.heap.size + 1 + 1 + 1) ∧ (true = true → true = true → wb.heap.size ≠ w.heap.size + 1 + 1 + 1 + 1) ∧ (true = true → true = true → w.heap.size + 1 + 1 + 1 ≠ w.heap.size + 1 + 1 + 1 + 1)) 9 (by kernel_rfl) ?_ ?_ ?_
          · exact ⟨false, false, false, false, false, false, false, false, false, rfl, rfl, hk0.drew, BN.out, BM.out, BO.out, B8.out, B9.out, (fun _ _ => by omega), (fun _ _ => by omega), (fun _ _ => by omega), (fun _ _ => by omega), (fun _ _ => by omega), (fun _ _ => by omega), (fun _ _ => by omega), (fun _ _ => by omega), (fun _ _ => by omega), (fun _ _ => by omega)⟩
          · refine (InvSteps.cons rfl ?_ (InvSteps.cons rfl ?_ (InvSteps.cons rfl ?_ (InvSteps.cons rfl ?_ (InvSteps.cons rfl ?_ (InvSteps.cons rfl ?_ (InvSteps.cons rfl ?_ (InvSteps.cons rfl ?_ (InvSteps.cons rfl ?_ InvSteps.nil)))))))))
            all_goals rintro L a wc ⟨b0, b1, b2, b3, b4, b5, b6, b7, b8, rfl, rfl, hk, HA0, HA1, HA2, HA3, HA4, Dc0_1, Dc0_2, Dc0_3, Dc0_4, Dc1_2, Dc1_3, Dc1_4, Dc2_3, Dc2_4, Dc3_4⟩ hl hd K hK
            all_goals (simp [Region.binds] at hl hd; simp only [List.getElem_toArray, List.getElem_cons_zero, List.getElem_cons_succ])
            · subst hl; (repeat (rcases hd with ⟨hq, hd⟩; first | subst hq | clear hq)); (first | subst hd | clear hd | skip)
              (first | (obtain ⟨-, -, c0, c1, -, -⟩ := HA0 rfl; obtain ⟨-, -, c2, c3, -, -⟩ := HA1 rfl; obtain ⟨-, -, c4, c5, -, -⟩ := HA2 rfl) | skip)
              go_simp
              exact hK.out _ _ ⟨true, _, _, _, _, _, _, _, _, rfl, rfl, hk, HA0, HA1, HA2, HA3, HA4, Dc0_1, Dc0_2, Dc0_3, Dc0_4, Dc1_2, Dc1_3, Dc1_4, Dc2_3, Dc2_4, Dc3_4⟩
            · subst hl; (repeat (rcases hd with ⟨hq, hd⟩; first | subst hq | clear hq)); (first | subst hd | clear hd | skip)
              (first | (obtain ⟨-, -, c0, c1, -, -⟩ := HA0 rfl; obtain ⟨-, -, c2, c3, -, -⟩ := HA1 rfl; obtain ⟨-, -, c4, c5, -, -⟩ := HA2 rfl) | skip)
              go_simp
              exact hK.out _ _ ⟨_, true, _, _, _, _, _, _, _, rfl, rfl, hk, HA0, HA1, HA2, HA3, HA4, Dc0_1, Dc0_2, Dc0_3, Dc0_4, Dc1_2, Dc1_3, Dc1_4, Dc2_3, Dc2_4, Dc3_4⟩
            · subst hl; (repeat (rcases hd with ⟨hq, hd⟩; first | subst hq | clear hq)); (first | subst hd | clear hd | skip)
              go_simp
              go_at_call 71; (with_reducible refine (K6.out _).mono ?_); rintro e w1 ⟨rfl, hk1⟩
              exact hK.out _ _ ⟨_, _, true, _, _, _, _, _, _, rfl, rfl, hk.trans hk1, HA0.keeps hk1, HA1.keeps hk1, HA2.keeps hk1, HA3.keeps hk1, HA4.keeps hk1, Dc0_1, Dc0_2, Dc0_3, Dc0_4, Dc1_2, Dc1_3, Dc1_4, Dc2_3, Dc2_4, Dc3_4⟩
            · subst hl; (repeat (rcases hd with ⟨hq, hd⟩; first | subst hq | clear hq)); (first | subst hd | clear hd | skip)
              (first | (obtain ⟨-, -, c0, c1, -, -⟩ := HA0 rfl; obtain ⟨-, -, c2, c3, -, -⟩ := HA1 rfl; obtain ⟨-, -, c4, c5, -, -⟩ := HA2 rfl) | skip)
              go_simp
              exact hK.out _ _ ⟨_, _, _, true, _, _, _, _, _, rfl, rfl, hk, HA0, HA1, HA2, HA3, HA4, Dc0_1, Dc0_2, Dc0_3, Dc0_4, Dc1_2, Dc1_3, Dc1_4, Dc2_3, Dc2_4, Dc3_4⟩
            · subst hl; (repeat (rcases hd with ⟨hq, hd⟩; first | subst hq | clear hq)); (first | subst hd | clear hd | skip)
              (first | (obtain ⟨-, -, c0, c1, -, -⟩ := HA0 rfl; obtain ⟨-, -, c2, c3, -, -⟩ := HA1 rfl; obtain ⟨-, -, c4, c5, -, -⟩ := HA2 rfl) | skip)
              go_simp
              exact hK.out _ _ ⟨_, _, _, _, true, _, _, _, _, rfl, rfl, hk, HA0, HA1, HA2, HA3, HA4, Dc0_1, Dc0_2, Dc0_3, Dc0_4, Dc1_2, Dc1_3, Dc1_4, Dc2_3, Dc2_4, Dc3_4⟩
            · subst hl; (repeat (rcases hd with ⟨hq, hd⟩; first | subst hq | clear hq)); (first | subst hd | clear hd | skip)
              go_simp
              go_at_call 71; (with_reducible refine (K7.out _).mono ?_); rintro e w1 ⟨rfl, hk1⟩
              exact hK.out _ _ ⟨_, _, _, _, _, true, _, _, _, rfl, rfl, hk.trans hk1, HA0.keeps hk1, HA1.keeps hk1, HA2.keeps hk1, HA3.keeps hk1, HA4.keeps hk1, Dc0_1, Dc0_2, Dc0_3, Dc0_4, Dc1_2, Dc1_3, Dc1_4, Dc2_3, Dc2_4, Dc3_4⟩
            · subst hl; (repeat (rcases hd with ⟨hq, hd⟩; first | subst hq | clear hq)); (first | subst hd | clear hd | skip)
              obtain ⟨q1, q2, q3, q4, q5, q6⟩ := HA3 rfl
              have hs := hk.size
              go_simp
              exact hK.out _ _ ⟨_, _, _, _, _, _, true, _, _, rfl, rfl, hk.set2 (by omega) _ _, HA0.far (fun h => Dc0_3 h rfl), HA1.far (fun h => Dc1_3 h rfl), HA2.far (fun h => Dc2_3 h rfl), HA3.at, HA4.far (fun h e => Dc3_4 rfl h e.symm), Dc0_1, Dc0_2, Dc0_3, Dc0_4, Dc1_2, Dc1_3, Dc1_4, Dc2_3, Dc2_4, Dc3_4⟩
            · subst hl; (repeat (rcases hd with ⟨hq, hd⟩; first | subst hq | clear hq)); (first | subst hd | clear hd | skip)
              obtain ⟨q1, q2, q3, q4, q5, q6⟩ := HA4 rfl
              have hs := hk.size
              go_simp
              exact hK.out _ _ ⟨_, _, _, _, _, _, _, true, _, rfl, rfl, hk.set2 (by omega) _ _, HA0.far (fun h => Dc0_4 h rfl), HA1.far (fun h => Dc1_4 h rfl), HA2.far (fun h => Dc2_4 h rfl), HA3.far (fun h => Dc3_4 h rfl), HA4.at, Dc0_1, Dc0_2, Dc0_3, Dc0_4, Dc1_2, Dc1_3, Dc1_4, Dc2_3, Dc2_4, Dc3_4⟩
            · subst hl; (repeat (rcases hd with ⟨hq, hd⟩; first | subst hq | clear hq)); (first | subst hd | clear hd | skip)
              go_simp
              exact hK.out _ _ ⟨_, _, _, _, _, _, _, _, true, rfl, rfl, hk, HA0, HA1, HA2, HA3, HA4, Dc0_1, Dc0_2, Dc0_3, Dc0_4, Dc1_2, Dc1_3, Dc1_4, Dc2_3, Dc2_4, Dc3_4⟩
          · rintro L a wc ⟨b0, b1, b2, b3, b4, b5, b6, b7, b8, rfl, rfl, hk, HA0, HA1, HA2, HA3, HA4, Dc0_1, Dc0_2, Dc0_3, Dc0_4, Dc1_2, Dc1_3, Dc1_4, Dc2_3, Dc2_4, Dc3_4⟩ hr
            have c := ready_nil hr 0 rfl (by simp [Region.binds]); simp at c; subst c
            have c := ready_nil hr 1 rfl (by simp [Region.binds]); simp at c; subst c
            have c := ready_nil hr 2 rfl (by simp [Region.binds]); simp at c; subst c
            have c := ready_nil hr 3 rfl (by simp [Region.binds]); simp at c; subst c
            have c := ready_nil hr 4 rfl (by simp [Region.binds]); simp at c; subst c
            have c := ready_nil hr 5 rfl (by simp [Region.binds]); simp at c; subst c
            have c := ready_nil hr 6 rfl (by simp [Region.binds]); simp at c; subst c
            have c := ready_nil hr 7 rfl (by simp [Region.binds]); simp at c; subst c
            have c := ready_nil hr 8 rfl (by simp [Region.binds]); simp at c; subst c
            clear hr 
            obtain ⟨qc0_1, qc0_2, qc0_3, qc0_4, qc0_5, qc0_6⟩ := HA0 rfl
            try simp only [if_true] at qc0_3 qc0_4
            have HXc0 := Lib.hid HA0; clear HA0; try simp only [if_true] at HXc0
            obtain ⟨qc1_1, qc1_2, qc1_3, qc1_4, qc1_5, qc1_6⟩ := HA1 rfl
            try simp only [if_true] at qc1_3 qc1_4
            have HXc1 := Lib.hid HA1; clear HA1; try simp only [if_true] at HXc1
            obtain ⟨qc2_1, qc2_2, qc2_3, qc2_4, qc2_5, qc2_6⟩ := HA2 rfl
            try simp only [if_true] at qc2_3 qc2_4
            have HXc2 := Lib.hid HA2; clear HA2; try simp only [if_true] at HXc2
            obtain ⟨qc3_1, qc3_2, qc3_3, qc3_4, qc3_5, qc3_6⟩ := HA3 rfl
            try simp only [if_true] at qc3_3 qc3_4
            have HXc3 := Lib.hid HA3; clear HA3; try simp only [if_true] at HXc3
            obtain ⟨qc4_1, qc4_2, qc4_3, qc4_4, qc4_5, qc4_6⟩ := HA4 rfl
            try simp only [if_true] at qc4_3 qc4_4
            have HXc4 := Lib.hid HA4; clear HA4; try simp only [if_true] at HXc4
            have Dc0_1 := Dc0_1 rfl rfl
            have Dc0_2 := Dc0_2 rfl rfl
            have Dc0_3 := Dc0_3 rfl rfl
            have Dc0_4 := Dc0_4 rfl rfl
            have Dc1_2 := Dc1_2 rfl rfl
            have Dc1_3 := Dc1_3 rfl rfl
            have Dc1_4 := Dc1_4 rfl rfl
            have Dc2_3 := Dc2_3 rfl rfl
            have Dc2_4 := Dc2_4 rfl rfl
            have Dc3_4 := Dc3_4 rfl rfl
            simp only [if_true]
            (first | (obtain ⟨-, -, c0, c1, -, -⟩ := HA0 rfl; obtain ⟨-, -, c2, c3, -, -⟩ := HA1 rfl; obtain ⟨-, -, c4, c5, -, -⟩ := HA2 rfl) | skip)
            have hj := hk
            clear qc0_1 qc0_2 qc0_3 qc0_4 qc0_5 qc0_6 qc1_1 qc1_2 qc1_3 qc1_4 qc1_5 qc1_6 qc2_1 qc2_2 qc2_3 qc2_4 qc2_5 qc2_6
            go_wp2_with fail
            exact bodyPost_ret (v := .tuple #[.agg #[.int .i64 (-n.1), .int .i64 (-n.2)], .agg #[.int .i64 (-m.1), .int .i64 (-m.2)], .bool true]) (by simp [results, Tryz.results55, go_sem, *]) rfl ⟨rfl, hk⟩
end Go.Proofs.YtdodgnpjlicnoaaGreat
