/- Contract of grisaille/grisailleref23.OuterNormals. -/
import Derived.Test.YtdodgnpjlicnoaaGreatJe
import Derived.Test.YtdodgnpjlicnoaaGreatRi
import Derived.RegionTactic
namespace Go.Proofs.YtdodgnpjlicnoaaGreat
open Go.RowKit
attribute [local go_sem ↓] Go.wp_at_zero Go.wp_at_succ
set_option linter.unusedVariables false
set_option linter.unusedSimpArgs false
set_option maxRecDepth 100000 in
set_option maxHeartbeats 8000000 in
theorem rout_any (u v b : Pt) (wd : Int) (w : World) :
    Calls Tryz.prog 79 #[.agg #[.int .i64 u.1, .int .i64 u.2], .agg #[.int .i64 v.1, .int .i64 v.2], .agg #[.int .i64 b.1, .int .i64 b.2], .int .i64 wd] w fun e w' => e = .returned (.tuple #[.agg #[.int .i64 (outN u v b wd).1, .int .i64 (outN u v b wd).2], .agg #[.int .i64 (outM u v b wd).1, .int .i64 (outM u v b wd).2], .bool (outB u v b wd)]) ∧ Keeps w w' := by
  have KA := Lib.hid (fun w => rvalid_any u.1 u.2 w)
  have KV := Lib.hid (fun w => rvalid_any v.1 v.2 w)
  have KB := Lib.hid (fun w => rvalid_any b.1 b.2 w)
  have KW := Lib.hid (fun w => rwide23_any wd w)
  rw [show validB u.1 u.2 = vP u from rfl] at KA
  rw [show validB v.1 v.2 = vP v from rfl] at KV
  rw [show validB b.1 b.2 = vP b from rfl] at KB
  have HS := Lib.hid (show ∀ w', Keeps (((((w.alloc (.cells #[.int .i64 u.1, .int .i64 u.2] 37)).alloc (.cells #[.int .i64 v.1, .int .i64 v.2] 37)).alloc (.cells #[.int .i64 b.1, .int .i64 b.2] 37)).alloc (.cells #[.int .i64 0, .int .i64 0] 37)).alloc (.cells #[.int .i64 0, .int .i64 0] 37)) w' → w'.cell? ⟨w.heap.size, 0, none⟩ = some (.int .i64 u.1) ∧ w'.frozen? ⟨w.heap.size, 0, none⟩ = false ∧ w'.cell? ⟨w.heap.size, 1, none⟩ = some (.int .i64 u.2) ∧ w'.frozen? ⟨w.heap.size, 1, none⟩ = false ∧ w'.cell? ⟨w.heap.size + 1, 0, none⟩ = some (.int .i64 v.1) ∧ w'.frozen? ⟨w.heap.size + 1, 0, none⟩ = false ∧ w'.cell? ⟨w.heap.size + 1, 1, none⟩ = some (.int .i64 v.2) ∧ w'.frozen? ⟨w.heap.size + 1, 1, none⟩ = false ∧ w'.cell? ⟨w.heap.size + 1 + 1, 0, none⟩ = some (.int .i64 b.1) ∧ w'.frozen? ⟨w.heap.size + 1 + 1, 0, none⟩ = false ∧ w'.cell? ⟨w.heap.size + 1 + 1, 1, none⟩ = some (.int .i64 b.2) ∧ w'.frozen? ⟨w.heap.size + 1 + 1, 1, none⟩ = false ∧ w'.cell? ⟨w.heap.size + 1 + 1 + 1, 0, none⟩ = some (.int .i64 0) ∧ w'.frozen? ⟨w.heap.size + 1 + 1 + 1, 0, none⟩ = false ∧ w'.cell? ⟨w.heap.size + 1 + 1 + 1, 1, none⟩ = some (.int .i64 0) ∧ w'.frozen? ⟨w.heap.size + 1 + 1 + 1, 1, none⟩ = false ∧ w'.cell? ⟨w.heap.size + 1 + 1 + 1 + 1, 0, none⟩ = some (.int .i64 0) ∧ w'.frozen? ⟨w.heap.size + 1 + 1 + 1 + 1, 0, none⟩ = false ∧ w'.cell? ⟨w.heap.size + 1 + 1 + 1 + 1, 1, none⟩ = some (.int .i64 0) ∧ w'.frozen? ⟨w.heap.size + 1 + 1 + 1 + 1, 1, none⟩ = false from fun w' hk => ⟨(hk.cell (p := ⟨w.heap.size, 0, none⟩) (by first | (simp; done) | (simp; omega))).trans (by simp [go_sem]), (hk.frozen (p := ⟨w.heap.size, 0, none⟩) (by first | (simp; done) | (simp; omega))).trans (by simp [go_sem]), (hk.cell (p := ⟨w.heap.size, 1, none⟩) (by first | (simp; done) | (simp; omega))).trans (by simp [go_sem]), (hk.frozen (p := ⟨w.heap.size, 1, none⟩) (by first | (simp; done) | (simp; omega))).trans (by simp [go_sem]), (hk.cell (p := ⟨w.heap.size + 1, 0, none⟩) (by first | (simp; done) | (simp; omega))).trans (by simp [go_sem]), (hk.frozen (p := ⟨w.heap.size + 1, 0, none⟩) (by first | (simp; done) | (simp; omega))).trans (by simp [go_sem]), (hk.cell (p := ⟨w.heap.size + 1, 1, none⟩) (by first | (simp; done) | (simp; omega))).trans (by simp [go_sem]), (hk.frozen (p := ⟨w.heap.size + 1, 1, none⟩) (by first | (simp; done) | (simp; omega))).trans (by simp [go_sem]), (hk.cell (p := ⟨w.heap.size + 1 + 1, 0, none⟩) (by first | (simp; done) | (simp; omega))).trans (by simp [go_sem]), (hk.frozen (p := ⟨w.heap.size + 1 + 1, 0, none⟩) (by first | (simp; done) | (simp; omega))).trans (by simp [go_sem]), (hk.cell (p := ⟨w.heap.size + 1 + 1, 1, none⟩) (by first | (simp; done) | (simp; omega))).trans (by simp [go_sem]), (hk.frozen (p := ⟨w.heap.size + 1 + 1, 1, none⟩) (by first | (simp; done) | (simp; omega))).trans (by simp [go_sem]), (hk.cell (p := ⟨w.heap.size + 1 + 1 + 1, 0, none⟩) (by first | (simp; done) | (simp; omega))).trans (by simp [go_sem]), (hk.frozen (p := ⟨w.heap.size + 1 + 1 + 1, 0, none⟩) (by first | (simp; done) | (simp; omega))).trans (by simp [go_sem]), (hk.cell (p := ⟨w.heap.size + 1 + 1 + 1, 1, none⟩) (by first | (simp; done) | (simp; omega))).trans (by simp [go_sem]), (hk.frozen (p := ⟨w.heap.size + 1 + 1 + 1, 1, none⟩) (by first | (simp; done) | (simp; omega))).trans (by simp [go_sem]), (hk.cell (p := ⟨w.heap.size + 1 + 1 + 1 + 1, 0, none⟩) (by first | (simp; done) | (simp; omega))).trans (by simp [go_sem]), (hk.frozen (p := ⟨w.heap.size + 1 + 1 + 1 + 1, 0, none⟩) (by first | (simp; done) | (simp; omega))).trans (by simp [go_sem]), (hk.cell (p := ⟨w.heap.size + 1 + 1 + 1 + 1, 1, none⟩) (by first | (simp; done) | (simp; omega))).trans (by simp [go_sem]), (hk.frozen (p := ⟨w.heap.size + 1 + 1 + 1 + 1, 1, none⟩) (by first | (simp; done) | (simp; omega))).trans (by simp [go_sem])⟩)
  have HB := Lib.hid (show Keeps w (((((w.alloc (.cells #[.int .i64 u.1, .int .i64 u.2] 37)).alloc (.cells #[.int .i64 v.1, .int .i64 v.2] 37)).alloc (.cells #[.int .i64 b.1, .int .i64 b.2] 37)).alloc (.cells #[.int .i64 0, .int .i64 0] 37)).alloc (.cells #[.int .i64 0, .int .i64 0] 37)) from (by (repeat (first | (with_reducible exact Keeps.refl _) | (with_reducible assumption) | (with_reducible refine Keeps.drewN ?_ _) | (with_reducible refine Keeps.drew ?_) | (with_reducible refine Keeps.alloc ?_ _) | (with_reducible refine Keeps.setNew ?_ ?_ _))) <;> (dsimp only; omega)))
  have hk0 := Keeps.refl (((((w.alloc (.cells #[.int .i64 u.1, .int .i64 u.2] 37)).alloc (.cells #[.int .i64 v.1, .int .i64 v.2] 37)).alloc (.cells #[.int .i64 b.1, .int .i64 b.2] 37)).alloc (.cells #[.int .i64 0, .int .i64 0] 37)).alloc (.cells #[.int .i64 0, .int .i64 0] 37))
  unfold outN outM
  cases hb : outB u v b wd with
  | false =>
    simp only [if_neg (show ¬ (false = true) by decide)]
    rcases out_no hb with h1 | ⟨h1, h2⟩ | ⟨h1, h2, h3⟩ | ⟨h1, h2, h3, h4⟩ | ⟨h1, h2, h3, h4, h5⟩
    · rw [h1] at KA
      clear hb h1
      go_enter Tryz.func79, Tryz.ntmps79
      go_wp2_with (first | (go_at_call 40; (first | (with_reducible refine (keepk (KA.out _) (by first | assumption | exact Keeps.drew (by assumption) | exact Keeps.drewN (by assumption) _)).mono ?_) | (with_reducible refine (keepk (KV.out _) (by first | assumption | exact Keeps.drew (by assumption) | exact Keeps.drewN (by assumption) _)).mono ?_) | (with_reducible refine (keepk (KB.out _) (by first | assumption | exact Keeps.drew (by assumption) | exact Keeps.drewN (by assumption) _)).mono ?_) | fail "V"); rintro e w1 ⟨rfl, hk⟩; have hj := Keeps.trans HB.out hk; have hk := hk; obtain ⟨y0, y1, y2, y3, y4, y5, y6, y7, y8, y9, y10, y11, y12, y13, y14, y15, y16, y17, y18, y19⟩ := HS.out _ hk) | (go_at_call 96; (with_reducible refine (KW.out _).mono ?_); rintro e w1 ⟨rfl, rfl⟩) | fail "ARM")
      exact bodyPost_ret (v := .tuple #[.agg #[.int .i64 0, .int .i64 0], .agg #[.int .i64 0, .int .i64 0], .bool false]) (by simp [results, Tryz.results79, go_sem, *]) rfl ⟨rfl, (by (repeat (first | (with_reducible exact Keeps.refl _) | (with_reducible assumption) | (with_reducible refine Keeps.drewN ?_ _) | (with_reducible refine Keeps.drew ?_) | (with_reducible refine Keeps.alloc ?_ _) | (with_reducible refine Keeps.setNew ?_ ?_ _))) <;> (dsimp only; omega))⟩
    · rw [h1] at KA
      rw [h2] at KV
      clear hb h1 h2
      go_enter Tryz.func79, Tryz.ntmps79
      go_wp2_with (first | (go_at_call 40; (first | (with_reducible refine (keepk (KA.out _) (by first | assumption | exact Keeps.drew (by assumption) | exact Keeps.drewN (by assumption) _)).mono ?_) | (with_reducible refine (keepk (KV.out _) (by first | assumption | exact Keeps.drew (by assumption) | exact Keeps.drewN (by assumption) _)).mono ?_) | (with_reducible refine (keepk (KB.out _) (by first | assumption | exact Keeps.drew (by assumption) | exact Keeps.drewN (by assumption) _)).mono ?_) | fail "V"); rintro e w1 ⟨rfl, hk⟩; have hj := Keeps.trans HB.out hk; have hk := hk; obtain ⟨y0, y1, y2, y3, y4, y5, y6, y7, y8, y9, y10, y11, y12, y13, y14, y15, y16, y17, y18, y19⟩ := HS.out _ hk) | (go_at_call 96; (with_reducible refine (KW.out _).mono ?_); rintro e w1 ⟨rfl, rfl⟩) | fail "ARM")
      exact bodyPost_ret (v := .tuple #[.agg #[.int .i64 0, .int .i64 0], .agg #[.int .i64 0, .int .i64 0], .bool false]) (by simp [results, Tryz.results79, go_sem, *]) rfl ⟨rfl, (by (repeat (first | (with_reducible exact Keeps.refl _) | (with_reducible assumption) | (with_reducible refine Keeps.drewN ?_ _) | (with_reducible refine Keeps.drew ?_) | (with_reducible refine Keeps.alloc ?_ _) | (with_reducible refine Keeps.setNew ?_ ?_ _))) <;> (dsimp only; omega))⟩
    · rw [h1] at KA
      rw [h2] at KV
      rw [h3] at KB
      clear hb h1 h2 h3
      go_enter Tryz.func79, Tryz.ntmps79
      go_wp2_with (first | (go_at_call 40; (first | (with_reducible refine (keepk (KA.out _) (by first | assumption | exact Keeps.drew (by assumption) | exact Keeps.drewN (by assumption) _)).mono ?_) | (with_reducible refine (keepk (KV.out _) (by first | assumption | exact Keeps.drew (by assumption) | exact Keeps.drewN (by assumption) _)).mono ?_) | (with_reducible refine (keepk (KB.out _) (by first | assumption | exact Keeps.drew (by assumption) | exact Keeps.drewN (by assumption) _)).mono ?_) | fail "V"); rintro e w1 ⟨rfl, hk⟩; have hj := Keeps.trans HB.out hk; have hk := hk; obtain ⟨y0, y1, y2, y3, y4, y5, y6, y7, y8, y9, y10, y11, y12, y13, y14, y15, y16, y17, y18, y19⟩ := HS.out _ hk) | (go_at_call 96; (with_reducible refine (KW.out _).mono ?_); rintro e w1 ⟨rfl, rfl⟩) | fail "ARM")
      exact bodyPost_ret (v := .tuple #[.agg #[.int .i64 0, .int .i64 0], .agg #[.int .i64 0, .int .i64 0], .bool false]) (by simp [results, Tryz.results79, go_sem, *]) rfl ⟨rfl, (by (repeat (first | (with_reducible exact Keeps.refl _) | (with_reducible assumption) | (with_reducible refine Keeps.drewN ?_ _) | (with_reducible refine Keeps.drew ?_) | (with_reducible refine Keeps.alloc ?_ _) | (with_reducible refine Keeps.setNew ?_ ?_ _))) <;> (dsimp only; omega))⟩
    · rw [h1] at KA
      rw [h2] at KV
      rw [h3] at KB
      rw [h4] at KW
      clear hb h1 h2 h3 h4
      go_enter Tryz.func79, Tryz.ntmps79
      go_wp2_with (first | (go_at_call 40; (first | (with_reducible refine (keepk (KA.out _) (by first | assumption | exact Keeps.drew (by assumption) | exact Keeps.drewN (by assumption) _)).mono ?_) | (with_reducible refine (keepk (KV.out _) (by first | assumption | exact Keeps.drew (by assumption) | exact Keeps.drewN (by assumption) _)).mono ?_) | (with_reducible refine (keepk (KB.out _) (by first | assumption | exact Keeps.drew (by assumption) | exact Keeps.drewN (by assumption) _)).mono ?_) | fail "V"); rintro e w1 ⟨rfl, hk⟩; have hj := Keeps.trans HB.out hk; have hk := hk; obtain ⟨y0, y1, y2, y3, y4, y5, y6, y7, y8, y9, y10, y11, y12, y13, y14, y15, y16, y17, y18, y19⟩ := HS.out _ hk) | (go_at_call 96; (with_reducible refine (KW.out _).mono ?_); rintro e w1 ⟨rfl, rfl⟩) | fail "ARM")
      exact bodyPost_ret (v := .tuple #[.agg #[.int .i64 0, .int .i64 0], .agg #[.int .i64 0, .int .i64 0], .bool false]) (by simp [results, Tryz.results79, go_sem, *]) rfl ⟨rfl, (by (repeat (first | (with_reducible exact Keeps.refl _) | (with_reducible assumption) | (with_reducible refine Keeps.drewN ?_ _) | (with_reducible refine Keeps.drew ?_) | (with_reducible refine Keeps.alloc ?_ _) | (with_reducible refine Keeps.setNew ?_ ?_ _))) <;> (dsimp only; omega))⟩
    · obtain ⟨xa, xb, ya, yb, r, s, ex1, ex2, ey1, ey2, er, es, bx1, bx2, by1, by2, br, bs, eC⟩ := out_bd u v b h1 h2 h3
      have K1 := fun w => rsub_any v.1 v.2 u.1 u.2 w
      have K2 := fun w => rsub_any b.1 b.2 v.1 v.2 w
      simp only [subc, (vP_bd h1).1, (vP_bd h1).2.1, (vP_bd h2).1, (vP_bd h2).2.1, (vP_bd h3).1, (vP_bd h3).2.1] at K1 K2
      have K5 := Lib.hid (fun w => rwedge_any xa xb ya yb w (by omega) (by omega) (by omega) (by omega) (by omega) (by omega) (by omega) (by omega))
      rw [show crossI xa xb ya yb = r - s by unfold crossI; rw [er, es]] at K5
      rw [ex1, ex2] at K1
      rw [ey1, ey2] at K2
      have K1 := Lib.hid K1
      have K2 := Lib.hid K2
      have K3 := Lib.hid (fun w => rofs_any xa xb wd w)
      have K4 := Lib.hid (fun w => rofs_any ya yb wd w)
      have eX : subP v u = (xa, xb) := by unfold subP; rw [ex1, ex2]
      have eY : subP b v = (ya, yb) := by unfold subP; rw [ey1, ey2]
      have bn := ofs_bd' (xa, xb) wd
      have bm := ofs_bd' (ya, yb) wd
      rw [eC] at h5
      have HC := True.intro
      generalize ofs (xa, xb) wd = n at *
      generalize ofs (ya, yb) wd = m at *
      rw [h1] at KA
      rw [h2] at KV
      rw [h3] at KB
      rw [h4] at KW
      have w1 : IntKind.i64.wrap r = r := i64_in _ (by omega)
      have w2 : IntKind.i64.wrap s = s := i64_in _ (by omega)
      have w3 : IntKind.i64.wrap (r - s) = r - s := i64_in _ (by omega)
      have n1 : IntKind.i64.wrap (-n.1) = -n.1 := i64_in _ (by omega)
      have n2 : IntKind.i64.wrap (-n.2) = -n.2 := i64_in _ (by omega)
      have n3 : IntKind.i64.wrap (-m.1) = -m.1 := i64_in _ (by omega)
      have n4 : IntKind.i64.wrap (-m.2) = -m.2 := i64_in _ (by omega)
      have q1 : (r - s == 0) = true := by rw [beq_iff_eq]; omega
      clear h5
      clear hb h1 h2 h3 h4 ex1 ex2 ey1 ey2 eX eY eC HC
      go_enter Tryz.func79, Tryz.ntmps79
      go_wp2_with (first | (go_at_call 40; (first | (with_reducible refine (keepk (KA.out _) (by first | assumption | exact Keeps.drew (by assumption) | exact Keeps.drewN (by assumption) _)).mono ?_) | (with_reducible refine (keepk (KV.out _) (by first | assumption | exact Keeps.drew (by assumption) | exact Keeps.drewN (by assumption) _)).mono ?_) | (with_reducible refine (keepk (KB.out _) (by first | assumption | exact Keeps.drew (by assumption) | exact Keeps.drewN (by assumption) _)).mono ?_) | fail "V"); rintro e w1 ⟨rfl, hk⟩; have hj := Keeps.trans HB.out hk; have hk := hk; obtain ⟨y0, y1, y2, y3, y4, y5, y6, y7, y8, y9, y10, y11, y12, y13, y14, y15, y16, y17, y18, y19⟩ := HS.out _ hk) | (go_at_call 96; (with_reducible refine (KW.out _).mono ?_); rintro e w1 ⟨rfl, rfl⟩) | fail "ARM")
      refine name_world (fun W3 hW3 => ?_)
      have hk3 : Keeps (((((w.alloc (.cells #[.int .i64 u.1, .int .i64 u.2] 37)).alloc (.cells #[.int .i64 v.1, .int .i64 v.2] 37)).alloc (.cells #[.int .i64 b.1, .int .i64 b.2] 37)).alloc (.cells #[.int .i64 0, .int .i64 0] 37)).alloc (.cells #[.int .i64 0, .int .i64 0] 37)) W3 := by rw [hW3]; assumption
      clear hW3 hj y0 y1 y2 y3 y4 y5 y6 y7 y8 y9 y10 y11 y12 y13 y14 y15 y16 y17 y18 y19
      have HS3 := Lib.hid (show ∀ w', Keeps W3 w' → w'.cell? ⟨w.heap.size, 0, none⟩ = some (.int .i64 u.1) ∧ w'.frozen? ⟨w.heap.size, 0, none⟩ = false ∧ w'.cell? ⟨w.heap.size, 1, none⟩ = some (.int .i64 u.2) ∧ w'.frozen? ⟨w.heap.size, 1, none⟩ = false ∧ w'.cell? ⟨w.heap.size + 1, 0, none⟩ = some (.int .i64 v.1) ∧ w'.frozen? ⟨w.heap.size + 1, 0, none⟩ = false ∧ w'.cell? ⟨w.heap.size + 1, 1, none⟩ = some (.int .i64 v.2) ∧ w'.frozen? ⟨w.heap.size + 1, 1, none⟩ = false ∧ w'.cell? ⟨w.heap.size + 1 + 1, 0, none⟩ = some (.int .i64 b.1) ∧ w'.frozen? ⟨w.heap.size + 1 + 1, 0, none⟩ = false ∧ w'.cell? ⟨w.heap.size + 1 + 1, 1, none⟩ = some (.int .i64 b.2) ∧ w'.frozen? ⟨w.heap.size + 1 + 1, 1, none⟩ = false ∧ w'.cell? ⟨w.heap.size + 1 + 1 + 1, 0, none⟩ = some (.int .i64 0) ∧ w'.frozen? ⟨w.heap.size + 1 + 1 + 1, 0, none⟩ = false ∧ w'.cell? ⟨w.heap.size + 1 + 1 + 1, 1, none⟩ = some (.int .i64 0) ∧ w'.frozen? ⟨w.heap.size + 1 + 1 + 1, 1, none⟩ = false ∧ w'.cell? ⟨w.heap.size + 1 + 1 + 1 + 1, 0, none⟩ = some (.int .i64 0) ∧ w'.frozen? ⟨w.heap.size + 1 + 1 + 1 + 1, 0, none⟩ = false ∧ w'.cell? ⟨w.heap.size + 1 + 1 + 1 + 1, 1, none⟩ = some (.int .i64 0) ∧ w'.frozen? ⟨w.heap.size + 1 + 1 + 1 + 1, 1, none⟩ = false from fun w' hq => HS.out w' (hk3.trans hq))
      have HBW := Lib.hid (HB.out.trans hk3)
      have hsz3 : w.heap.size + 5 ≤ W3.heap.size := by have h := hk3.size; simp at h; omega
      clear hk hk0 hk3 HS HB KA KV KB KW
      have hk0 := Keeps.refl W3
      refine wp_region_steps (by kernel_rfl) (fun L a wa => ∃ (b0 b1 b2 b3 b4 b5 b6 b7 b8 b9 : Bool), L = #[b0, b1, b2, b3, b4, b5, b6, b7, b8, b9] ∧ ∃ (pa0 pa1 : Nat), a = { tmps := #[.agg #[.int .i64 u.1, .int .i64 u.2], .agg #[.int .i64 v.1, .int .i64 v.2], .agg #[.int .i64 b.1, .int .i64 b.2], .int .i64 wd, .pointer (some ⟨w.heap.size, 0, none⟩), .pointer (some ⟨w.heap.size + 1, 0, none⟩), .pointer (some ⟨w.heap.size + 1 + 1, 0, none⟩), undef, .pointer (some ⟨w.heap.size + 1 + 1 + 1, 0, none⟩), .pointer (some ⟨w.heap.size + 1 + 1 + 1 + 1, 0, none⟩), .bool false, if b6 then .pointer (some ⟨pa0, 0, none⟩) else undef, if b7 then .pointer (some ⟨pa1, 0, none⟩) else undef, undef, undef, undef, .agg #[.int .i64 u.1, .int .i64 u.2], .bool true, .bool false, .bool false, .agg #[.int .i64 v.1, .int .i64 v.2], .bool true, .bool false, .bool false, .bool false, .agg #[.int .i64 b.1, .int .i64 b.2], .bool true, .bool false, .bool false, .bool false, .int .i64 wd, .bool true, .bool false, .bool false, undef, undef, if b0 then .agg #[.int .i64 v.1, .int .i64 v.2] else undef, if b1 then .agg #[.int .i64 u.1, .int .i64 u.2] else undef, if b2 then .agg #[.int .i64 xa, .int .i64 xb] else undef, if b3 then .agg #[.int .i64 b.1, .int .i64 b.2] else undef, if b4 then .agg #[.int .i64 v.1, .int .i64 v.2] else undef, if b5 then .agg #[.int .i64 ya, .int .i64 yb] else undef, undef, undef, undef, undef, undef, undef, undef, undef, undef, undef, undef, undef, undef, undef, undef, undef, undef, undef, undef, undef, undef, undef, undef, undef, undef, undef, undef, undef, undef, undef, undef], defers := [] } ∧ Keeps (W3) wa ∧ Box2 b6 (W3.heap.size) (pa0) (.int .i64 (if b8 then xa else 0)) (.int .i64 (if b8 then xb else 0)) wa ∧ Box2 b7 (W3.heap.size) (pa1) (.int .i64 (if b9 then ya else 0)) (.int .i64 (if b9 then yb else 0)) wa ∧ (b6 = true → b7 = true → pa0 ≠ pa1) ∧ (b6 = false → b8 = false) ∧ (b7 = false → b9 = false)) 10 (by kernel_rfl) ?_ ?_ ?_
      · exact ⟨false, false, false, false, false, false, false, false, false, false, rfl, 0, 0, rfl, hk0.drew, Box2.none, Box2.none, (fun h => by cases h), (fun _ => rfl), (fun _ => rfl)⟩
      · refine (InvSteps.cons rfl ?_ (InvSteps.cons rfl ?_ (InvSteps.cons rfl ?_ (InvSteps.cons rfl ?_ (InvSteps.cons rfl ?_ (InvSteps.cons rfl ?_ (InvSteps.cons rfl ?_ (InvSteps.cons rfl ?_ (InvSteps.cons rfl ?_ (InvSteps.cons rfl ?_ InvSteps.nil))))))))))
        all_goals rintro L a wa ⟨b0, b1, b2, b3, b4, b5, b6, b7, b8, b9, rfl, pa0, pa1, rfl, hk, HA0, HA1, Da0_1, Z0, Z1⟩ hl hd K hK
        all_goals (simp [Region.binds] at hl hd; simp only [List.getElem_toArray, List.getElem_cons_zero, List.getElem_cons_succ])
        · subst hl; (repeat (rcases hd with ⟨hq, hd⟩; first | subst hq | clear hq)); (first | subst hd | clear hd | skip)
          obtain ⟨y0, y1, y2, y3, y4, y5, y6, y7, y8, y9, y10, y11, y12, y13, y14, y15, y16, y17, y18, y19⟩ := HS3.out _ hk
          go_simp
          exact hK.out _ _ ⟨true, _, _, _, _, _, _, _, _, _, rfl, pa0, pa1, rfl, hk, HA0, HA1, Da0_1, Z0, Z1⟩
        · subst hl; (repeat (rcases hd with ⟨hq, hd⟩; first | subst hq | clear hq)); (first | subst hd | clear hd | skip)
          obtain ⟨y0, y1, y2, y3, y4, y5, y6, y7, y8, y9, y10, y11, y12, y13, y14, y15, y16, y17, y18, y19⟩ := HS3.out _ hk
          go_simp
          exact hK.out _ _ ⟨_, true, _, _, _, _, _, _, _, _, rfl, pa0, pa1, rfl, hk, HA0, HA1, Da0_1, Z0, Z1⟩
        · subst hl; (repeat (rcases hd with ⟨hq, hd⟩; first | subst hq | clear hq)); (first | subst hd | clear hd | skip)
          go_simp
          go_at_call 97; (with_reducible refine (K1.out _).mono ?_); rintro e w1 ⟨rfl, hk1⟩
          exact hK.out _ _ ⟨_, _, true, _, _, _, _, _, _, _, rfl, pa0, pa1, rfl, hk.trans hk1, HA0.keeps hk1, HA1.keeps hk1, Da0_1, Z0, Z1⟩
        · subst hl; (repeat (rcases hd with ⟨hq, hd⟩; first | subst hq | clear hq)); (first | subst hd | clear hd | skip)
          obtain ⟨y0, y1, y2, y3, y4, y5, y6, y7, y8, y9, y10, y11, y12, y13, y14, y15, y16, y17, y18, y19⟩ := HS3.out _ hk
          go_simp
          exact hK.out _ _ ⟨_, _, _, true, _, _, _, _, _, _, rfl, pa0, pa1, rfl, hk, HA0, HA1, Da0_1, Z0, Z1⟩
        · subst hl; (repeat (rcases hd with ⟨hq, hd⟩; first | subst hq | clear hq)); (first | subst hd | clear hd | skip)
          obtain ⟨y0, y1, y2, y3, y4, y5, y6, y7, y8, y9, y10, y11, y12, y13, y14, y15, y16, y17, y18, y19⟩ := HS3.out _ hk
          go_simp
          exact hK.out _ _ ⟨_, _, _, _, true, _, _, _, _, _, rfl, pa0, pa1, rfl, hk, HA0, HA1, Da0_1, Z0, Z1⟩
        · subst hl; (repeat (rcases hd with ⟨hq, hd⟩; first | subst hq | clear hq)); (first | subst hd | clear hd | skip)
          go_simp
          go_at_call 97; (with_reducible refine (K2.out _).mono ?_); rintro e w1 ⟨rfl, hk1⟩
          exact hK.out _ _ ⟨_, _, _, _, _, true, _, _, _, _, rfl, pa0, pa1, rfl, hk.trans hk1, HA0.keeps hk1, HA1.keeps hk1, Da0_1, Z0, Z1⟩
        · subst hl; obtain rfl := Z0 rfl
          have hs := hk.size
          go_simp
          exact hK.out _ _ ⟨_, _, _, _, _, _, true, _, _, _, rfl, wa.heap.size, pa1, rfl, hk.alloc _, Box2.new (by omega), HA1.keeps ((Keeps.refl _).alloc _), (fun _ h => (HA1.ne h).symm), (fun h => by cases h), Z1⟩
        · subst hl; obtain rfl := Z1 rfl
          have hs := hk.size
          go_simp
          exact hK.out _ _ ⟨_, _, _, _, _, _, _, true, _, _, rfl, pa0, wa.heap.size, rfl, hk.alloc _, HA0.keeps ((Keeps.refl _).alloc _), Box2.new (by omega), (fun h _ => HA0.ne h), Z0, (fun h => by cases h)⟩
        · subst hl; (repeat (rcases hd with ⟨hq, hd⟩; first | subst hq | clear hq)); (first | subst hd | clear hd | skip)
          obtain ⟨q1, q2, q3, q4, q5, q6⟩ := HA0 rfl
          have hs := hk.size
          go_simp
          exact hK.out _ _ ⟨_, _, _, _, _, _, _, _, true, _, rfl, pa0, pa1, rfl, hk.set2 (by omega) _ _, HA0.at, HA1.far (fun h e => Da0_1 rfl h e.symm), Da0_1, (fun h => by cases h), Z1⟩
        · subst hl; (repeat (rcases hd with ⟨hq, hd⟩; first | subst hq | clear hq)); (first | subst hd | clear hd | skip)
          obtain ⟨q1, q2, q3, q4, q5, q6⟩ := HA1 rfl
          have hs := hk.size
          go_simp
          exact hK.out _ _ ⟨_, _, _, _, _, _, _, _, _, true, rfl, pa0, pa1, rfl, hk.set2 (by omega) _ _, HA0.far (fun h => Da0_1 h rfl), HA1.at, Da0_1, Z0, (fun h => by cases h)⟩
      · rintro L a wa ⟨b0, b1, b2, b3, b4, b5, b6, b7, b8, b9, rfl, pa0, pa1, rfl, hk, HA0, HA1, Da0_1, Z0, Z1⟩ hr
        have c := ready_nil hr 0 rfl (by simp [Region.binds]); simp at c; subst c
        have c := ready_nil hr 1 rfl (by simp [Region.binds]); simp at c; subst c
        have c := ready_nil hr 2 rfl (by simp [Region.binds]); simp at c; subst c
        have c := ready_nil hr 3 rfl (by simp [Region.binds]); simp at c; subst c
        have c := ready_nil hr 4 rfl (by simp [Region.binds]); simp at c; subst c
        have c := ready_nil hr 5 rfl (by simp [Region.binds]); simp at c; subst c
        have c := ready_nil hr 6 rfl (by simp [Region.binds]); simp at c; subst c
        have c := ready_nil hr 7 rfl (by simp [Region.binds]); simp at c; subst c
        have c := ready_nil hr 8 rfl (by simp [Region.binds]); simp at c; subst c
        have c := ready_nil hr 9 rfl (by simp [Region.binds]); simp at c; subst c
        clear hr Z0 Z1
        obtain ⟨qa0_1, qa0_2, qa0_3, qa0_4, qa0_5, qa0_6⟩ := HA0 rfl
        try simp only [if_true] at qa0_3 qa0_4
        have HXa0 := Lib.hid HA0; clear HA0; try simp only [if_true] at HXa0
        obtain ⟨qa1_1, qa1_2, qa1_3, qa1_4, qa1_5, qa1_6⟩ := HA1 rfl
        try simp only [if_true] at qa1_3 qa1_4
        have HXa1 := Lib.hid HA1; clear HA1; try simp only [if_true] at HXa1
        have Da0_1 := Da0_1 rfl rfl
        simp only [if_true]
        obtain ⟨y0, y1, y2, y3, y4, y5, y6, y7, y8, y9, y10, y11, y12, y13, y14, y15, y16, y17, y18, y19⟩ := HS3.out _ hk
        have hj := Keeps.trans HBW.out hk
        have HS4 := Lib.hid (show ∀ w2, Keeps wa w2 → w2.cell? ⟨pa0, 0, none⟩ = some (.int .i64 xa) ∧ w2.cell? ⟨pa0, 1, none⟩ = some (.int .i64 xb) ∧ w2.cell? ⟨pa1, 0, none⟩ = some (.int .i64 ya) ∧ w2.cell? ⟨pa1, 1, none⟩ = some (.int .i64 yb) from fun w2 h => ⟨(h.cell (p := ⟨pa0, 0, none⟩) qa0_2).trans qa0_3, (h.cell (p := ⟨pa0, 1, none⟩) qa0_2).trans qa0_4, (h.cell (p := ⟨pa1, 0, none⟩) qa1_2).trans qa1_3, (h.cell (p := ⟨pa1, 1, none⟩) qa1_2).trans qa1_4⟩)
        have HBV := Lib.hid hj
        have HS5 := Lib.hid (fun w2 (h : Keeps wa w2) => HS3.out w2 (hk.trans h))
        have hsza : w.heap.size + 5 ≤ wa.heap.size := by have h := hk.size; omega
        have lo0 : w.heap.size + 5 ≤ pa0 := by omega
        have lo1 : w.heap.size + 5 ≤ pa1 := by omega
        clear hk0 hk hj HXa0 HXa1 qa0_1 qa0_2 qa0_3 qa0_4 qa0_5 qa0_6 qa1_1 qa1_2 qa1_3 qa1_4 qa1_5 qa1_6 y0 y1 y2 y3 y4 y5 y6 y7 y8 y9 y10 y11 y12 y13 y14 y15 y16 y17 y18 y19 HS3 HBW
        have hk0 := Keeps.refl wa
        go_wp2_with fail
        refine wp_region_steps (by kernel_rfl) (fun L a wb => ∃ (b0 b1 b2 b3 b4 b5 b6 b7 b8 b9 : Bool), L = #[b0, b1, b2, b3, b4, b5, b6, b7, b8, b9] ∧ ∃ (pb0 pb1 : Nat), a = { tmps := #[.agg #[.int .i64 u.1, .int .i64 u.2], .agg #[.int .i64 v.1, .int .i64 v.2], .agg #[.int .i64 b.1, .int .i64 b.2], .int .i64 wd, .pointer (some ⟨w.heap.size, 0, none⟩), .pointer (some ⟨w.heap.size + 1, 0, none⟩), .pointer (some ⟨w.heap.size + 1 + 1, 0, none⟩), undef, .pointer (some ⟨w.heap.size + 1 + 1 + 1, 0, none⟩), .pointer (some ⟨w.heap.size + 1 + 1 + 1 + 1, 0, none⟩), .bool false, .pointer (some ⟨pa0, 0, none⟩), .pointer (some ⟨pa1, 0, none⟩), if b6 then .pointer (some ⟨pb0, 0, none⟩) else undef, if b7 then .pointer (some ⟨pb1, 0, none⟩) else undef, undef, .agg #[.int .i64 u.1, .int .i64 u.2], .bool true, .bool false, .bool false, .agg #[.int .i64 v.1, .int .i64 v.2], .bool true, .bool false, .bool false, .bool false, .agg #[.int .i64 b.1, .int .i64 b.2], .bool true, .bool false, .bool false, .bool false, .int .i64 wd, .bool true, .bool false, .bool false, undef, undef, .agg #[.int .i64 v.1, .int .i64 v.2], .agg #[.int .i64 u.1, .int .i64 u.2], .agg #[.int .i64 xa, .int .i64 xb], .agg #[.int .i64 b.1, .int .i64 b.2], .agg #[.int .i64 v.1, .int .i64 v.2], .agg #[.int .i64 ya, .int .i64 yb], if b0 then .agg #[.int .i64 xa, .int .i64 xb] else undef, if b1 then .int .i64 wd else undef, if b2 then .agg #[.int .i64 n.1, .int .i64 n.2] else undef, if b3 then .agg #[.int .i64 ya, .int .i64 yb] else undef, if b4 then .int .i64 wd else undef, if b5 then .agg #[.int .i64 m.1, .int .i64 m.2] else undef, undef, undef, undef, undef, undef, undef, undef, undef, undef, undef, undef, undef, undef, undef, undef, undef, undef, undef, undef, undef, undef, undef, undef, undef, undef], defers := [] } ∧ Keeps (wa) wb ∧ Box2 b6 (wa.heap.size) (pb0) (.int .i64 (if b8 then n.1 else 0)) (.int .i64 (if b8 then n.2 else 0)) wb ∧ Box2 b7 (wa.heap.size) (pb1) (.int .i64 (if b9 then m.1 else 0)) (.int .i64 (if b9 then m.2 else 0)) wb ∧ (b6 = true → b7 = true → pb0 ≠ pb1) ∧ (b6 = false → b8 = false) ∧ (b7 = false → b9 = false)) 10 (by kernel_rfl) ?_ ?_ ?_
        · exact ⟨false, false, false, false, false, false, false, false, false, false, rfl, 0, 0, rfl, hk0.drew, Box2.none, Box2.none, (fun h => by cases h), (fun _ => rfl), (fun _ => rfl)⟩
        · refine (InvSteps.cons rfl ?_ (InvSteps.cons rfl ?_ (InvSteps.cons rfl ?_ (InvSteps.cons rfl ?_ (InvSteps.cons rfl ?_ (InvSteps.cons rfl ?_ (InvSteps.cons rfl ?_ (InvSteps.cons rfl ?_ (InvSteps.cons rfl ?_ (InvSteps.cons rfl ?_ InvSteps.nil))))))))))
          all_goals rintro L a wb ⟨b0, b1, b2, b3, b4, b5, b6, b7, b8, b9, rfl, pb0, pb1, rfl, hk, HA0, HA1, Db0_1, Z0, Z1⟩ hl hd K hK
          all_goals (simp [Region.binds] at hl hd; simp only [List.getElem_toArray, List.getElem_cons_zero, List.getElem_cons_succ])
          · subst hl; (repeat (rcases hd with ⟨hq, hd⟩; first | subst hq | clear hq)); (first | subst hd | clear hd | skip)
            obtain ⟨y0, y1, y2, y3⟩ := HS4.out _ hk
            go_simp
            exact hK.out _ _ ⟨true, _, _, _, _, _, _, _, _, _, rfl, pb0, pb1, rfl, hk, HA0, HA1, Db0_1, Z0, Z1⟩
          · subst hl; (repeat (rcases hd with ⟨hq, hd⟩; first | subst hq | clear hq)); (first | subst hd | clear hd | skip)
            go_simp
            exact hK.out _ _ ⟨_, true, _, _, _, _, _, _, _, _, rfl, pb0, pb1, rfl, hk, HA0, HA1, Db0_1, Z0, Z1⟩
          · subst hl; (repeat (rcases hd with ⟨hq, hd⟩; first | subst hq | clear hq)); (first | subst hd | clear hd | skip)
            go_simp
            go_at_call 75; (with_reducible refine (K3.out _).mono ?_); rintro e w1 ⟨rfl, hk1⟩
            exact hK.out _ _ ⟨_, _, true, _, _, _, _, _, _, _, rfl, pb0, pb1, rfl, hk.trans hk1, HA0.keeps hk1, HA1.keeps hk1, Db0_1, Z0, Z1⟩
          · subst hl; (repeat (rcases hd with ⟨hq, hd⟩; first | subst hq | clear hq)); (first | subst hd | clear hd | skip)
            obtain ⟨y0, y1, y2, y3⟩ := HS4.out _ hk
            go_simp
            exact hK.out _ _ ⟨_, _, _, true, _, _, _, _, _, _, rfl, pb0, pb1, rfl, hk, HA0, HA1, Db0_1, Z0, Z1⟩
          · subst hl; (repeat (rcases hd with ⟨hq, hd⟩; first | subst hq | clear hq)); (first | subst hd | clear hd | skip)
            go_simp
            exact hK.out _ _ ⟨_, _, _, _, true, _, _, _, _, _, rfl, pb0, pb1, rfl, hk, HA0, HA1, Db0_1, Z0, Z1⟩
          · subst hl; (repeat (rcases hd with ⟨hq, hd⟩; first | subst hq | clear hq)); (first | subst hd | clear hd | skip)
            go_simp
            go_at_call 75; (with_reducible refine (K4.out _).mono ?_); rintro e w1 ⟨rfl, hk1⟩
            exact hK.out _ _ ⟨_, _, _, _, _, true, _, _, _, _, rfl, pb0, pb1, rfl, hk.trans hk1, HA0.keeps hk1, HA1.keeps hk1, Db0_1, Z0, Z1⟩
          · subst hl; obtain rfl := Z0 rfl
            have hs := hk.size
            go_simp
            exact hK.out _ _ ⟨_, _, _, _, _, _, true, _, _, _, rfl, wb.heap.size, pb1, rfl, hk.alloc _, Box2.new (by omega), HA1.keeps ((Keeps.refl _).alloc _), (fun _ h => (HA1.ne h).symm), (fun h => by cases h), Z1⟩
          · subst hl; obtain rfl := Z1 rfl
            have hs := hk.size
            go_simp
            exact hK.out _ _ ⟨_, _, _, _, _, _, _, true, _, _, rfl, pb0, wb.heap.size, rfl, hk.alloc _, HA0.keeps ((Keeps.refl _).alloc _), Box2.new (by omega), (fun h _ => HA0.ne h), Z0, (fun h => by cases h)⟩
          · subst hl; (repeat (rcases hd with ⟨hq, hd⟩; first | subst hq | clear hq)); (first | subst hd | clear hd | skip)
            obtain ⟨q1, q2, q3, q4, q5, q6⟩ := HA0 rfl
            have hs := hk.size
            go_simp
            exact hK.out _ _ ⟨_, _, _, _, _, _, _, _, true, _, rfl, pb0, pb1, rfl, hk.set2 (by omega) _ _, HA0.at, HA1.far (fun h e => Db0_1 rfl h e.symm), Db0_1, (fun h => by cases h), Z1⟩
          · subst hl; (repeat (rcases hd with ⟨hq, hd⟩; first | subst hq | clear hq)); (first | subst hd | clear hd | skip)
            obtain ⟨q1, q2, q3, q4, q5, q6⟩ := HA1 rfl
            have hs := hk.size
            go_simp
            exact hK.out _ _ ⟨_, _, _, _, _, _, _, _, _, true, rfl, pb0, pb1, rfl, hk.set2 (by omega) _ _, HA0.far (fun h => Db0_1 h rfl), HA1.at, Db0_1, Z0, (fun h => by cases h)⟩
        · rintro L a wb ⟨b0, b1, b2, b3, b4, b5, b6, b7, b8, b9, rfl, pb0, pb1, rfl, hk, HA0, HA1, Db0_1, Z0, Z1⟩ hr
          have c := ready_nil hr 0 rfl (by simp [Region.binds]); simp at c; subst c
          have c := ready_nil hr 1 rfl (by simp [Region.binds]); simp at c; subst c
          have c := ready_nil hr 2 rfl (by simp [Region.binds]); simp at c; subst c
          have c := ready_nil hr 3 rfl (by simp [Region.binds]); simp at c; subst c
          have c := ready_nil hr 4 rfl (by simp [Region.binds]); simp at c; subst c
          have c := ready_nil hr 5 rfl (by simp [Region.binds]); simp at c; subst c
          have c := ready_nil hr 6 rfl (by simp [Region.binds]); simp at c; subst c
          have c := ready_nil hr 7 rfl (by simp [Region.binds]); simp at c; subst c
          have c := ready_nil hr 8 rfl (by simp [Region.binds]); simp at c; subst c
          have c := ready_nil hr 9 rfl (by simp [Region.binds]); simp at c; subst c
          clear hr Z0 Z1
          obtain ⟨qb0_1, qb0_2, qb0_3, qb0_4, qb0_5, qb0_6⟩ := HA0 rfl
          try simp only [if_true] at qb0_3 qb0_4
          have HXb0 := Lib.hid HA0; clear HA0; try simp only [if_true] at HXb0
          obtain ⟨qb1_1, qb1_2, qb1_3, qb1_4, qb1_5, qb1_6⟩ := HA1 rfl
          try simp only [if_true] at qb1_3 qb1_4
          have HXb1 := Lib.hid HA1; clear HA1; try simp only [if_true] at HXb1
          have Db0_1 := Db0_1 rfl rfl
          simp only [if_true]
          obtain ⟨y0, y1, y2, y3⟩ := HS4.out _ hk
          have hj := Keeps.trans HBV.out hk
          obtain ⟨z0, z1, z2, z3, z4, z5, z6, z7, z8, z9, z10, z11, z12, z13, z14, z15, z16, z17, z18, z19⟩ := HS5.out _ hk
          have hszb : w.heap.size + 5 ≤ wb.heap.size := by have h := hk.size; omega
          have hHS := Lib.hid (show ∀ w2, Keeps wb w2 → w2.cell? ⟨pb0, 0, none⟩ = some (.int .i64 n.1) ∧ w2.cell? ⟨pb0, 1, none⟩ = some (.int .i64 n.2) ∧ w2.cell? ⟨pb1, 0, none⟩ = some (.int .i64 m.1) ∧ w2.cell? ⟨pb1, 1, none⟩ = some (.int .i64 m.2) from fun w2 h => ⟨(h.cell (p := ⟨pb0, 0, none⟩) qb0_2).trans qb0_3, (h.cell (p := ⟨pb0, 1, none⟩) qb0_2).trans qb0_4, (h.cell (p := ⟨pb1, 0, none⟩) qb1_2).trans qb1_3, (h.cell (p := ⟨pb1, 1, none⟩) qb1_2).trans qb1_4⟩)
          have lb0 : w.heap.size + 5 ≤ pb0 := by omega
          have lb1 : w.heap.size + 5 ≤ pb1 := by omega
        
          have hHF := Lib.hid (show ∀ w2, Keeps wb w2 → w2.frozen? ⟨pb0, 0, none⟩ = false ∧ w2.frozen? ⟨pb0, 1, none⟩ = false ∧ w2.frozen? ⟨pb1, 0, none⟩ = false ∧ w2.frozen? ⟨pb1, 1, none⟩ = false from fun w2 h => ⟨(h.frozen (p := ⟨pb0, 0, none⟩) qb0_2).trans qb0_5, (h.frozen (p := ⟨pb0, 1, none⟩) qb0_2).trans qb0_6, (h.frozen (p := ⟨pb1, 0, none⟩) qb1_2).trans qb1_5, (h.frozen (p := ⟨pb1, 1, none⟩) qb1_2).trans qb1_6⟩)
          have hka := hk
          have pq := Db0_1
          clear hk z0 z1 z2 z3 z4 z5 z6 z7 z8 z9 z10 z11 z12 z13 z14 z15 z16 z17 z18 z19 HXb0 HXb1 qb0_1 qb0_2 qb0_3 qb0_4 qb0_5 qb0_6 qb1_1 qb1_2 qb1_3 qb1_4 qb1_5 qb1_6 K1 K2 K3 K4 hk0
          go_wp2_with (first | (go_at_call 98; (with_reducible refine (K5.out _).mono ?_); rintro e wc ⟨rfl, hkc⟩; obtain ⟨z0, z1, z2, z3, z4, z5, z6, z7, z8, z9, z10, z11, z12, z13, z14, z15, z16, z17, z18, z19⟩ := HS5.out _ (hka.trans hkc); obtain ⟨m0, m1, m2, m3⟩ := hHS.out _ hkc; obtain ⟨k0, k1, k2, k3⟩ := hHF.out _ hkc; replace hj := hj.trans hkc) | fail "ARM")
          exact bodyPost_ret (v := .tuple #[.agg #[.int .i64 0, .int .i64 0], .agg #[.int .i64 0, .int .i64 0], .bool false]) (by simp [results, Tryz.results79, go_sem, *]) rfl ⟨rfl, (by (repeat (first | (with_reducible exact Keeps.refl _) | (with_reducible assumption) | (with_reducible refine Keeps.drewN ?_ _) | (with_reducible refine Keeps.drew ?_) | (with_reducible refine Keeps.alloc ?_ _) | (with_reducible refine Keeps.setNew ?_ ?_ _))) <;> ((try dsimp only); omega))⟩
  | true =>
    simp only [if_true]
    obtain ⟨h1, h2, h3, h4, h5⟩ := out_yes hb
    rcases h5 with h5 | h5
    · rw [if_neg (by omega), if_neg (by omega)]
      obtain ⟨xa, xb, ya, yb, r, s, ex1, ex2, ey1, ey2, er, es, bx1, bx2, by1, by2, br, bs, eC⟩ := out_bd u v b h1 h2 h3
      have K1 := fun w => rsub_any v.1 v.2 u.1 u.2 w
      have K2 := fun w => rsub_any b.1 b.2 v.1 v.2 w
      simp only [subc, (vP_bd h1).1, (vP_bd h1).2.1, (vP_bd h2).1, (vP_bd h2).2.1, (vP_bd h3).1, (vP_bd h3).2.1] at K1 K2
      have K5 := Lib.hid (fun w => rwedge_any xa xb ya yb w (by omega) (by omega) (by omega) (by omega) (by omega) (by omega) (by omega) (by omega))
      rw [show crossI xa xb ya yb = r - s by unfold crossI; rw [er, es]] at K5
      rw [ex1, ex2] at K1
      rw [ey1, ey2] at K2
      have K1 := Lib.hid K1
      have K2 := Lib.hid K2
      have K3 := Lib.hid (fun w => rofs_any xa xb wd w)
      have K4 := Lib.hid (fun w => rofs_any ya yb wd w)
      have eX : subP v u = (xa, xb) := by unfold subP; rw [ex1, ex2]
      have eY : subP b v = (ya, yb) := by unfold subP; rw [ey1, ey2]
      have bn := ofs_bd' (xa, xb) wd
      have bm := ofs_bd' (ya, yb) wd
      rw [eC] at h5
      rw [eX, eY]
      have HC := True.intro
      generalize ofs (xa, xb) wd = n at *
      generalize ofs (ya, yb) wd = m at *
      rw [h1] at KA
      rw [h2] at KV
      rw [h3] at KB
      rw [h4] at KW
      have w1 : IntKind.i64.wrap r = r := i64_in _ (by omega)
      have w2 : IntKind.i64.wrap s = s := i64_in _ (by omega)
      have w3 : IntKind.i64.wrap (r - s) = r - s := i64_in _ (by omega)
      have n1 : IntKind.i64.wrap (-n.1) = -n.1 := i64_in _ (by omega)
      have n2 : IntKind.i64.wrap (-n.2) = -n.2 := i64_in _ (by omega)
      have n3 : IntKind.i64.wrap (-m.1) = -m.1 := i64_in _ (by omega)
      have n4 : IntKind.i64.wrap (-m.2) = -m.2 := i64_in _ (by omega)
      have q1 : (r - s == 0) = false := by rw [beq_eq_false_iff_ne]; omega
      have q2 : decide (0 < r - s) = false := decide_eq_false (by omega)
      have q3 : decide (s < r) = false := decide_eq_false (by omega)
      clear h5
      clear hb h1 h2 h3 h4 ex1 ex2 ey1 ey2 eX eY eC HC
      go_enter Tryz.func79, Tryz.ntmps79
      go_wp2_with (first | (go_at_call 40; (first | (with_reducible refine (keepk (KA.out _) (by first | assumption | exact Keeps.drew (by assumption) | exact Keeps.drewN (by assumption) _)).mono ?_) | (with_reducible refine (keepk (KV.out _) (by first | assumption | exact Keeps.drew (by assumption) | exact Keeps.drewN (by assumption) _)).mono ?_) | (with_reducible refine (keepk (KB.out _) (by first | assumption | exact Keeps.drew (by assumption) | exact Keeps.drewN (by assumption) _)).mono ?_) | fail "V"); rintro e w1 ⟨rfl, hk⟩; have hj := Keeps.trans HB.out hk; have hk := hk; obtain ⟨y0, y1, y2, y3, y4, y5, y6, y7, y8, y9, y10, y11, y12, y13, y14, y15, y16, y17, y18, y19⟩ := HS.out _ hk) | (go_at_call 96; (with_reducible refine (KW.out _).mono ?_); rintro e w1 ⟨rfl, rfl⟩) | fail "ARM")
      refine name_world (fun W3 hW3 => ?_)
      have hk3 : Keeps (((((w.alloc (.cells #[.int .i64 u.1, .int .i64 u.2] 37)).alloc (.cells #[.int .i64 v.1, .int .i64 v.2] 37)).alloc (.cells #[.int .i64 b.1, .int .i64 b.2] 37)).alloc (.cells #[.int .i64 0, .int .i64 0] 37)).alloc (.cells #[.int .i64 0, .int .i64 0] 37)) W3 := by rw [hW3]; assumption
      clear hW3 hj y0 y1 y2 y3 y4 y5 y6 y7 y8 y9 y10 y11 y12 y13 y14 y15 y16 y17 y18 y19
      have HS3 := Lib.hid (show ∀ w', Keeps W3 w' → w'.cell? ⟨w.heap.size, 0, none⟩ = some (.int .i64 u.1) ∧ w'.frozen? ⟨w.heap.size, 0, none⟩ = false ∧ w'.cell? ⟨w.heap.size, 1, none⟩ = some (.int .i64 u.2) ∧ w'.frozen? ⟨w.heap.size, 1, none⟩ = false ∧ w'.cell? ⟨w.heap.size + 1, 0, none⟩ = some (.int .i64 v.1) ∧ w'.frozen? ⟨w.heap.size + 1, 0, none⟩ = false ∧ w'.cell? ⟨w.heap.size + 1, 1, none⟩ = some (.int .i64 v.2) ∧ w'.frozen? ⟨w.heap.size + 1, 1, none⟩ = false ∧ w'.cell? ⟨w.heap.size + 1 + 1, 0, none⟩ = some (.int .i64 b.1) ∧ w'.frozen? ⟨w.heap.size + 1 + 1, 0, none⟩ = false ∧ w'.cell? ⟨w.heap.size + 1 + 1, 1, none⟩ = some (.int .i64 b.2) ∧ w'.frozen? ⟨w.heap.size + 1 + 1, 1, none⟩ = false ∧ w'.cell? ⟨w.heap.size + 1 + 1 + 1, 0, none⟩ = some (.int .i64 0) ∧ w'.frozen? ⟨w.heap.size + 1 + 1 + 1, 0, none⟩ = false ∧ w'.cell? ⟨w.heap.size + 1 + 1 + 1, 1, none⟩ = some (.int .i64 0) ∧ w'.frozen? ⟨w.heap.size + 1 + 1 + 1, 1, none⟩ = false ∧ w'.cell? ⟨w.heap.size + 1 + 1 + 1 + 1, 0, none⟩ = some (.int .i64 0) ∧ w'.frozen? ⟨w.heap.size + 1 + 1 + 1 + 1, 0, none⟩ = false ∧ w'.cell? ⟨w.heap.size + 1 + 1 + 1 + 1, 1, none⟩ = some (.int .i64 0) ∧ w'.frozen? ⟨w.heap.size + 1 + 1 + 1 + 1, 1, none⟩ = false from fun w' hq => HS.out w' (hk3.trans hq))
      have HBW := Lib.hid (HB.out.trans hk3)
      have hsz3 : w.heap.size + 5 ≤ W3.heap.size := by have h := hk3.size; simp at h; omega
      clear hk hk0 hk3 HS HB KA KV KB KW
      have hk0 := Keeps.refl W3
      refine wp_region_steps (by kernel_rfl) (fun L a wa => ∃ (b0 b1 b2 b3 b4 b5 b6 b7 b8 b9 : Bool), L = #[b0, b1, b2, b3, b4, b5, b6, b7, b8, b9] ∧ ∃ (pa0 pa1 : Nat), a = { tmps := #[.agg #[.int .i64 u.1, .int .i64 u.2], .agg #[.int .i64 v.1, .int .i64 v.2], .agg #[.int .i64 b.1, .int .i64 b.2], .int .i64 wd, .pointer (some ⟨w.heap.size, 0, none⟩), .pointer (some ⟨w.heap.size + 1, 0, none⟩), .pointer (some ⟨w.heap.size + 1 + 1, 0, none⟩), undef, .pointer (some ⟨w.heap.size + 1 + 1 + 1, 0, none⟩), .pointer (some ⟨w.heap.size + 1 + 1 + 1 + 1, 0, none⟩), .bool false, if b6 then .pointer (some ⟨pa0, 0, none⟩) else undef, if b7 then .pointer (some ⟨pa1, 0, none⟩) else undef, undef, undef, undef, .agg #[.int .i64 u.1, .int .i64 u.2], .bool true, .bool false, .bool false, .agg #[.int .i64 v.1, .int .i64 v.2], .bool true, .bool false, .bool false, .bool false, .agg #[.int .i64 b.1, .int .i64 b.2], .bool true, .bool false, .bool false, .bool false, .int .i64 wd, .bool true, .bool false, .bool false, undef, undef, if b0 then .agg #[.int .i64 v.1, .int .i64 v.2] else undef, if b1 then .agg #[.int .i64 u.1, .int .i64 u.2] else undef, if b2 then .agg #[.int .i64 xa, .int .i64 xb] else undef, if b3 then .agg #[.int .i64 b.1, .int .i64 b.2] else undef, if b4 then .agg #[.int .i64 v.1, .int .i64 v.2] else undef, if b5 then .agg #[.int .i64 ya, .int .i64 yb] else undef, undef, undef, undef, undef, undef, undef, undef, undef, undef, undef, undef, undef, undef, undef, undef, undef, undef, undef, undef, undef, undef, undef, undef, undef, undef, undef, undef, undef, undef, undef, undef], defers := [] } ∧ Keeps (W3) wa ∧ Box2 b6 (W3.heap.size) (pa0) (.int .i64 (if b8 then xa else 0)) (.int .i64 (if b8 then xb else 0)) wa ∧ Box2 b7 (W3.heap.size) (pa1) (.int .i64 (if b9 then ya else 0)) (.int .i64 (if b9 then yb else 0)) wa ∧ (b6 = true → b7 = true → pa0 ≠ pa1) ∧ (b6 = false → b8 = false) ∧ (b7 = false → b9 = false)) 10 (by kernel_rfl) ?_ ?_ ?_
      · exact ⟨false, false, false, false, false, false, false, false, false, false, rfl, 0, 0, rfl, hk0.drew, Box2.none, Box2.none, (fun h => by cases h), (fun _ => rfl), (fun _ => rfl)⟩
      · refine (InvSteps.cons rfl ?_ (InvSteps.cons rfl ?_ (InvSteps.cons rfl ?_ (InvSteps.cons rfl ?_ (InvSteps.cons rfl ?_ (InvSteps.cons rfl ?_ (InvSteps.cons rfl ?_ (InvSteps.cons rfl ?_ (InvSteps.cons rfl ?_ (InvSteps.cons rfl ?_ InvSteps.nil))))))))))
        all_goals rintro L a wa ⟨b0, b1, b2, b3, b4, b5, b6, b7, b8, b9, rfl, pa0, pa1, rfl, hk, HA0, HA1, Da0_1, Z0, Z1⟩ hl hd K hK
        all_goals (simp [Region.binds] at hl hd; simp only [List.getElem_toArray, List.getElem_cons_zero, List.getElem_cons_succ])
        · subst hl; (repeat (rcases hd with ⟨hq, hd⟩; first | subst hq | clear hq)); (first | subst hd | clear hd | skip)
          obtain ⟨y0, y1, y2, y3, y4, y5, y6, y7, y8, y9, y10, y11, y12, y13, y14, y15, y16, y17, y18, y19⟩ := HS3.out _ hk
          go_simp
          exact hK.out _ _ ⟨true, _, _, _, _, _, _, _, _, _, rfl, pa0, pa1, rfl, hk, HA0, HA1, Da0_1, Z0, Z1⟩
        · subst hl; (repeat (rcases hd with ⟨hq, hd⟩; first | subst hq | clear hq)); (first | subst hd | clear hd | skip)
          obtain ⟨y0, y1, y2, y3, y4, y5, y6, y7, y8, y9, y10, y11, y12, y13, y14, y15, y16, y17, y18, y19⟩ := HS3.out _ hk
          go_simp
          exact hK.out _ _ ⟨_, true, _, _, _, _, _, _, _, _, rfl, pa0, pa1, rfl, hk, HA0, HA1, Da0_1, Z0, Z1⟩
        · subst hl; (repeat (rcases hd with ⟨hq, hd⟩; first | subst hq | clear hq)); (first | subst hd | clear hd | skip)
          go_simp
          go_at_call 97; (with_reducible refine (K1.out _).mono ?_); rintro e w1 ⟨rfl, hk1⟩
          exact hK.out _ _ ⟨_, _, true, _, _, _, _, _, _, _, rfl, pa0, pa1, rfl, hk.trans hk1, HA0.keeps hk1, HA1.keeps hk1, Da0_1, Z0, Z1⟩
        · subst hl; (repeat (rcases hd with ⟨hq, hd⟩; first | subst hq | clear hq)); (first | subst hd | clear hd | skip)
          obtain ⟨y0, y1, y2, y3, y4, y5, y6, y7, y8, y9, y10, y11, y12, y13, y14, y15, y16, y17, y18, y19⟩ := HS3.out _ hk
          go_simp
          exact hK.out _ _ ⟨_, _, _, true, _, _, _, _, _, _, rfl, pa0, pa1, rfl, hk, HA0, HA1, Da0_1, Z0, Z1⟩
        · subst hl; (repeat (rcases hd with ⟨hq, hd⟩; first | subst hq | clear hq)); (first | subst hd | clear hd | skip)
          obtain ⟨y0, y1, y2, y3, y4, y5, y6, y7, y8, y9, y10, y11, y12, y13, y14, y15, y16, y17, y18, y19⟩ := HS3.out _ hk
          go_simp
          exact hK.out _ _ ⟨_, _, _, _, true, _, _, _, _, _, rfl, pa0, pa1, rfl, hk, HA0, HA1, Da0_1, Z0, Z1⟩
        · subst hl; (repeat (rcases hd with ⟨hq, hd⟩; first | subst hq | clear hq)); (first | subst hd | clear hd | skip)
          go_simp
          go_at_call 97; (with_reducible refine (K2.out _).mono ?_); rintro e w1 ⟨rfl, hk1⟩
          exact hK.out _ _ ⟨_, _, _, _, _, true, _, _, _, _, rfl, pa0, pa1, rfl, hk.trans hk1, HA0.keeps hk1, HA1.keeps hk1, Da0_1, Z0, Z1⟩
        · subst hl; obtain rfl := Z0 rfl
          have hs := hk.size
          go_simp
          exact hK.out _ _ ⟨_, _, _, _, _, _, true, _, _, _, rfl, wa.heap.size, pa1, rfl, hk.alloc _, Box2.new (by omega), HA1.keeps ((Keeps.refl _).alloc _), (fun _ h => (HA1.ne h).symm), (fun h => by cases h), Z1⟩
        · subst hl; obtain rfl := Z1 rfl
          have hs := hk.size
          go_simp
          exact hK.out _ _ ⟨_, _, _, _, _, _, _, true, _, _, rfl, pa0, wa.heap.size, rfl, hk.alloc _, HA0.keeps ((Keeps.refl _).alloc _), Box2.new (by omega), (fun h _ => HA0.ne h), Z0, (fun h => by cases h)⟩
        · subst hl; (repeat (rcases hd with ⟨hq, hd⟩; first | subst hq | clear hq)); (first | subst hd | clear hd | skip)
          obtain ⟨q1, q2, q3, q4, q5, q6⟩ := HA0 rfl
          have hs := hk.size
          go_simp
          exact hK.out _ _ ⟨_, _, _, _, _, _, _, _, true, _, rfl, pa0, pa1, rfl, hk.set2 (by omega) _ _, HA0.at, HA1.far (fun h e => Da0_1 rfl h e.symm), Da0_1, (fun h => by cases h), Z1⟩
        · subst hl; (repeat (rcases hd with ⟨hq, hd⟩; first | subst hq | clear hq)); (first | subst hd | clear hd | skip)
          obtain ⟨q1, q2, q3, q4, q5, q6⟩ := HA1 rfl
          have hs := hk.size
          go_simp
          exact hK.out _ _ ⟨_, _, _, _, _, _, _, _, _, true, rfl, pa0, pa1, rfl, hk.set2 (by omega) _ _, HA0.far (fun h => Da0_1 h rfl), HA1.at, Da0_1, Z0, (fun h => by cases h)⟩
      · rintro L a wa ⟨b0, b1, b2, b3, b4, b5, b6, b7, b8, b9, rfl, pa0, pa1, rfl, hk, HA0, HA1, Da0_1, Z0, Z1⟩ hr
        have c := ready_nil hr 0 rfl (by simp [Region.binds]); simp at c; subst c
        have c := ready_nil hr 1 rfl (by simp [Region.binds]); simp at c; subst c
        have c := ready_nil hr 2 rfl (by simp [Region.binds]); simp at c; subst c
        have c := ready_nil hr 3 rfl (by simp [Region.binds]); simp at c; subst c
        have c := ready_nil hr 4 rfl (by simp [Region.binds]); simp at c; subst c
        have c := ready_nil hr 5 rfl (by simp [Region.binds]); simp at c; subst c
        have c := ready_nil hr 6 rfl (by simp [Region.binds]); simp at c; subst c
        have c := ready_nil hr 7 rfl (by simp [Region.binds]); simp at c; subst c
        have c := ready_nil hr 8 rfl (by simp [Region.binds]); simp at c; subst c
        have c := ready_nil hr 9 rfl (by simp [Region.binds]); simp at c; subst c
        clear hr Z0 Z1
        obtain ⟨qa0_1, qa0_2, qa0_3, qa0_4, qa0_5, qa0_6⟩ := HA0 rfl
        try simp only [if_true] at qa0_3 qa0_4
        have HXa0 := Lib.hid HA0; clear HA0; try simp only [if_true] at HXa0
        obtain ⟨qa1_1, qa1_2, qa1_3, qa1_4, qa1_5, qa1_6⟩ := HA1 rfl
        try simp only [if_true] at qa1_3 qa1_4
        have HXa1 := Lib.hid HA1; clear HA1; try simp only [if_true] at HXa1
        have Da0_1 := Da0_1 rfl rfl
        simp only [if_true]
        obtain ⟨y0, y1, y2, y3, y4, y5, y6, y7, y8, y9, y10, y11, y12, y13, y14, y15, y16, y17, y18, y19⟩ := HS3.out _ hk
        have hj := Keeps.trans HBW.out hk
        have HS4 := Lib.hid (show ∀ w2, Keeps wa w2 → w2.cell? ⟨pa0, 0, none⟩ = some (.int .i64 xa) ∧ w2.cell? ⟨pa0, 1, none⟩ = some (.int .i64 xb) ∧ w2.cell? ⟨pa1, 0, none⟩ = some (.int .i64 ya) ∧ w2.cell? ⟨pa1, 1, none⟩ = some (.int .i64 yb) from fun w2 h => ⟨(h.cell (p := ⟨pa0, 0, none⟩) qa0_2).trans qa0_3, (h.cell (p := ⟨pa0, 1, none⟩) qa0_2).trans qa0_4, (h.cell (p := ⟨pa1, 0, none⟩) qa1_2).trans qa1_3, (h.cell (p := ⟨pa1, 1, none⟩) qa1_2).trans qa1_4⟩)
        have HBV := Lib.hid hj
        have HS5 := Lib.hid (fun w2 (h : Keeps wa w2) => HS3.out w2 (hk.trans h))
        have hsza : w.heap.size + 5 ≤ wa.heap.size := by have h := hk.size; omega
        have lo0 : w.heap.size + 5 ≤ pa0 := by omega
        have lo1 : w.heap.size + 5 ≤ pa1 := by omega
        clear hk0 hk hj HXa0 HXa1 qa0_1 qa0_2 qa0_3 qa0_4 qa0_5 qa0_6 qa1_1 qa1_2 qa1_3 qa1_4 qa1_5 qa1_6 y0 y1 y2 y3 y4 y5 y6 y7 y8 y9 y10 y11 y12 y13 y14 y15 y16 y17 y18 y19 HS3 HBW
        have hk0 := Keeps.refl wa
        go_wp2_with fail
        refine wp_region_steps (by kernel_rfl) (fun L a wb => ∃ (b0 b1 b2 b3 b4 b5 b6 b7 b8 b9 : Bool), L = #[b0, b1, b2, b3, b4, b5, b6, b7, b8, b9] ∧ ∃ (pb0 pb1 : Nat), a = { tmps := #[.agg #[.int .i64 u.1, .int .i64 u.2], .agg #[.int .i64 v.1, .int .i64 v.2], .agg #[.int .i64 b.1, .int .i64 b.2], .int .i64 wd, .pointer (some ⟨w.heap.size, 0, none⟩), .pointer (some ⟨w.heap.size + 1, 0, none⟩), .pointer (some ⟨w.heap.size + 1 + 1, 0, none⟩), undef, .pointer (some ⟨w.heap.size + 1 + 1 + 1, 0, none⟩), .pointer (some ⟨w.heap.size + 1 + 1 + 1 + 1, 0, none⟩), .bool false, .pointer (some ⟨pa0, 0, none⟩), .pointer (some ⟨pa1, 0, none⟩), if b6 then .pointer (some ⟨pb0, 0, none⟩) else undef, if b7 then .pointer (some ⟨pb1, 0, none⟩) else undef, undef, .agg #[.int .i64 u.1, .int .i64 u.2], .bool true, .bool false, .bool false, .agg #[.int .i64 v.1, .int .i64 v.2], .bool true, .bool false, .bool false, .bool false, .agg #[.int .i64 b.1, .int .i64 b.2], .bool true, .bool false, .bool false, .bool false, .int .i64 wd, .bool true, .bool false, .bool false, undef, undef, .agg #[.int .i64 v.1, .int .i64 v.2], .agg #[.int .i64 u.1, .int .i64 u.2], .agg #[.int .i64 xa, .int .i64 xb], .agg #[.int .i64 b.1, .int .i64 b.2], .agg #[.int .i64 v.1, .int .i64 v.2], .agg #[.int .i64 ya, .int .i64 yb], if b0 then .agg #[.int .i64 xa, .int .i64 xb] else undef, if b1 then .int .i64 wd else undef, if b2 then .agg #[.int .i64 n.1, .int .i64 n.2] else undef, if b3 then .agg #[.int .i64 ya, .int .i64 yb] else undef, if b4 then .int .i64 wd else undef, if b5 then .agg #[.int .i64 m.1, .int .i64 m.2] else undef, undef, undef, undef, undef, undef, undef, undef, undef, undef, undef, undef, undef, undef, undef, undef, undef, undef, undef, undef, undef, undef, undef, undef, undef, undef], defers := [] } ∧ Keeps (wa) wb ∧ Box2 b6 (wa.heap.size) (pb0) (.int .i64 (if b8 then n.1 else 0)) (.int .i64 (if b8 then n.2 else 0)) wb ∧ Box2 b7 (wa.heap.size) (pb1) (.int .i64 (if b9 then m.1 else 0)) (.int .i64 (if b9 then m.2 else 0)) wb ∧ (b6 = true → b7 = true → pb0 ≠ pb1) ∧ (b6 = false → b8 = false) ∧ (b7 = false → b9 = false)) 10 (by kernel_rfl) ?_ ?_ ?_
        · exact ⟨false, false, false, false, false, false, false, false, false, false, rfl, 0, 0, rfl, hk0.drew, Box2.none, Box2.none, (fun h => by cases h), (fun _ => rfl), (fun _ => rfl)⟩
        · refine (InvSteps.cons rfl ?_ (InvSteps.cons rfl ?_ (InvSteps.cons rfl ?_ (InvSteps.cons rfl ?_ (InvSteps.cons rfl ?_ (InvSteps.cons rfl ?_ (InvSteps.cons rfl ?_ (InvSteps.cons rfl ?_ (InvSteps.cons rfl ?_ (InvSteps.cons rfl ?_ InvSteps.nil))))))))))
          all_goals rintro L a wb ⟨b0, b1, b2, b3, b4, b5, b6, b7, b8, b9, rfl, pb0, pb1, rfl, hk, HA0, HA1, Db0_1, Z0, Z1⟩ hl hd K hK
          all_goals (simp [Region.binds] at hl hd; simp only [List.getElem_toArray, List.getElem_cons_zero, List.getElem_cons_succ])
          · subst hl; (repeat (rcases hd with ⟨hq, hd⟩; first | subst hq | clear hq)); (first | subst hd | clear hd | skip)
            obtain ⟨y0, y1, y2, y3⟩ := HS4.out _ hk
            go_simp
            exact hK.out _ _ ⟨true, _, _, _, _, _, _, _, _, _, rfl, pb0, pb1, rfl, hk, HA0, HA1, Db0_1, Z0, Z1⟩
          · subst hl; (repeat (rcases hd with ⟨hq, hd⟩; first | subst hq | clear hq)); (first | subst hd | clear hd | skip)
            go_simp
            exact hK.out _ _ ⟨_, true, _, _, _, _, _, _, _, _, rfl, pb0, pb1, rfl, hk, HA0, HA1, Db0_1, Z0, Z1⟩
          · subst hl; (repeat (rcases hd with ⟨hq, hd⟩; first | subst hq | clear hq)); (first | subst hd | clear hd | skip)
            go_simp
            go_at_call 75; (with_reducible refine (K3.out _).mono ?_); rintro e w1 ⟨rfl, hk1⟩
            exact hK.out _ _ ⟨_, _, true, _, _, _, _, _, _, _, rfl, pb0, pb1, rfl, hk.trans hk1, HA0.keeps hk1, HA1.keeps hk1, Db0_1, Z0, Z1⟩
          · subst hl; (repeat (rcases hd with ⟨hq, hd⟩; first | subst hq | clear hq)); (first | subst hd | clear hd | skip)
            obtain ⟨y0, y1, y2, y3⟩ := HS4.out _ hk
            go_simp
            exact hK.out _ _ ⟨_, _, _, true, _, _, _, _, _, _, rfl, pb0, pb1, rfl, hk, HA0, HA1, Db0_1, Z0, Z1⟩
          · subst hl; (repeat (rcases hd with ⟨hq, hd⟩; first | subst hq | clear hq)); (first | subst hd | clear hd | skip)
            go_simp
            exact hK.out _ _ ⟨_, _, _, _, true, _, _, _, _, _, rfl, pb0, pb1, rfl, hk, HA0, HA1, Db0_1, Z0, Z1⟩
          · subst hl; (repeat (rcases hd with ⟨hq, hd⟩; first | subst hq | clear hq)); (first | subst hd | clear hd | skip)
            go_simp
            go_at_call 75; (with_reducible refine (K4.out _).mono ?_); rintro e w1 ⟨rfl, hk1⟩
            exact hK.out _ _ ⟨_, _, _, _, _, true, _, _, _, _, rfl, pb0, pb1, rfl, hk.trans hk1, HA0.keeps hk1, HA1.keeps hk1, Db0_1, Z0, Z1⟩
          · subst hl; obtain rfl := Z0 rfl
            have hs := hk.size
            go_simp
            exact hK.out _ _ ⟨_, _, _, _, _, _, true, _, _, _, rfl, wb.heap.size, pb1, rfl, hk.alloc _, Box2.new (by omega), HA1.keeps ((Keeps.refl _).alloc _), (fun _ h => (HA1.ne h).symm), (fun h => by cases h), Z1⟩
          · subst hl; obtain rfl := Z1 rfl
            have hs := hk.size
            go_simp
            exact hK.out _ _ ⟨_, _, _, _, _, _, _, true, _, _, rfl, pb0, wb.heap.size, rfl, hk.alloc _, HA0.keeps ((Keeps.refl _).alloc _), Box2.new (by omega), (fun h _ => HA0.ne h), Z0, (fun h => by cases h)⟩
          · subst hl; (repeat (rcases hd with ⟨hq, hd⟩; first | subst hq | clear hq)); (first | subst hd | clear hd | skip)
            obtain ⟨q1, q2, q3, q4, q5, q6⟩ := HA0 rfl
            have hs := hk.size
            go_simp
            exact hK.out _ _ ⟨_, _, _, _, _, _, _, _, true, _, rfl, pb0, pb1, rfl, hk.set2 (by omega) _ _, HA0.at, HA1.far (fun h e => Db0_1 rfl h e.symm), Db0_1, (fun h => by cases h), Z1⟩
          · subst hl; (repeat (rcases hd with ⟨hq, hd⟩; first | subst hq | clear hq)); (first | subst hd | clear hd | skip)
            obtain ⟨q1, q2, q3, q4, q5, q6⟩ := HA1 rfl
            have hs := hk.size
            go_simp
            exact hK.out _ _ ⟨_, _, _, _, _, _, _, _, _, true, rfl, pb0, pb1, rfl, hk.set2 (by omega) _ _, HA0.far (fun h => Db0_1 h rfl), HA1.at, Db0_1, Z0, (fun h => by cases h)⟩
        · rintro L a wb ⟨b0, b1, b2, b3, b4, b5, b6, b7, b8, b9, rfl, pb0, pb1, rfl, hk, HA0, HA1, Db0_1, Z0, Z1⟩ hr
          have c := ready_nil hr 0 rfl (by simp [Region.binds]); simp at c; subst c
          have c := ready_nil hr 1 rfl (by simp [Region.binds]); simp at c; subst c
          have c := ready_nil hr 2 rfl (by simp [Region.binds]); simp at c; subst c
          have c := ready_nil hr 3 rfl (by simp [Region.binds]); simp at c; subst c
          have c := ready_nil hr 4 rfl (by simp [Region.binds]); simp at c; subst c
          have c := ready_nil hr 5 rfl (by simp [Region.binds]); simp at c; subst c
          have c := ready_nil hr 6 rfl (by simp [Region.binds]); simp at c; subst c
          have c := ready_nil hr 7 rfl (by simp [Region.binds]); simp at c; subst c
          have c := ready_nil hr 8 rfl (by simp [Region.binds]); simp at c; subst c
          have c := ready_nil hr 9 rfl (by simp [Region.binds]); simp at c; subst c
          clear hr Z0 Z1
          obtain ⟨qb0_1, qb0_2, qb0_3, qb0_4, qb0_5, qb0_6⟩ := HA0 rfl
          try simp only [if_true] at qb0_3 qb0_4
          have HXb0 := Lib.hid HA0; clear HA0; try simp only [if_true] at HXb0
          obtain ⟨qb1_1, qb1_2, qb1_3, qb1_4, qb1_5, qb1_6⟩ := HA1 rfl
          try simp only [if_true] at qb1_3 qb1_4
          have HXb1 := Lib.hid HA1; clear HA1; try simp only [if_true] at HXb1
          have Db0_1 := Db0_1 rfl rfl
          simp only [if_true]
          obtain ⟨y0, y1, y2, y3⟩ := HS4.out _ hk
          have hj := Keeps.trans HBV.out hk
          obtain ⟨z0, z1, z2, z3, z4, z5, z6, z7, z8, z9, z10, z11, z12, z13, z14, z15, z16, z17, z18, z19⟩ := HS5.out _ hk
          have hszb : w.heap.size + 5 ≤ wb.heap.size := by have h := hk.size; omega
          have hHS := Lib.hid (show ∀ w2, Keeps wb w2 → w2.cell? ⟨pb0, 0, none⟩ = some (.int .i64 n.1) ∧ w2.cell? ⟨pb0, 1, none⟩ = some (.int .i64 n.2) ∧ w2.cell? ⟨pb1, 0, none⟩ = some (.int .i64 m.1) ∧ w2.cell? ⟨pb1, 1, none⟩ = some (.int .i64 m.2) from fun w2 h => ⟨(h.cell (p := ⟨pb0, 0, none⟩) qb0_2).trans qb0_3, (h.cell (p := ⟨pb0, 1, none⟩) qb0_2).trans qb0_4, (h.cell (p := ⟨pb1, 0, none⟩) qb1_2).trans qb1_3, (h.cell (p := ⟨pb1, 1, none⟩) qb1_2).trans qb1_4⟩)
          have lb0 : w.heap.size + 5 ≤ pb0 := by omega
          have lb1 : w.heap.size + 5 ≤ pb1 := by omega
        
          have hHF := Lib.hid (show ∀ w2, Keeps wb w2 → w2.frozen? ⟨pb0, 0, none⟩ = false ∧ w2.frozen? ⟨pb0, 1, none⟩ = false ∧ w2.frozen? ⟨pb1, 0, none⟩ = false ∧ w2.frozen? ⟨pb1, 1, none⟩ = false from fun w2 h => ⟨(h.frozen (p := ⟨pb0, 0, none⟩) qb0_2).trans qb0_5, (h.frozen (p := ⟨pb0, 1, none⟩) qb0_2).trans qb0_6, (h.frozen (p := ⟨pb1, 0, none⟩) qb1_2).trans qb1_5, (h.frozen (p := ⟨pb1, 1, none⟩) qb1_2).trans qb1_6⟩)
          have hka := hk
          have pq := Db0_1
          clear hk z0 z1 z2 z3 z4 z5 z6 z7 z8 z9 z10 z11 z12 z13 z14 z15 z16 z17 z18 z19 HXb0 HXb1 qb0_1 qb0_2 qb0_3 qb0_4 qb0_5 qb0_6 qb1_1 qb1_2 qb1_3 qb1_4 qb1_5 qb1_6 K1 K2 K3 K4 hk0
          go_wp2_with (first | (go_at_call 98; (with_reducible refine (K5.out _).mono ?_); rintro e wc ⟨rfl, hkc⟩; obtain ⟨z0, z1, z2, z3, z4, z5, z6, z7, z8, z9, z10, z11, z12, z13, z14, z15, z16, z17, z18, z19⟩ := HS5.out _ (hka.trans hkc); obtain ⟨m0, m1, m2, m3⟩ := hHS.out _ hkc; obtain ⟨k0, k1, k2, k3⟩ := hHF.out _ hkc; replace hj := hj.trans hkc) | fail "ARM")
          have f3 := fun (w' : World) (i : Nat) (u : Value) (j : Nat) => setFar w' (w.heap.size + 1 + 1 + 1) i pb1 j u (by omega)
          have f4 := fun (w' : World) (i : Nat) (u : Value) (j : Nat) => setFar w' (w.heap.size + 1 + 1 + 1) i pb0 j u (by omega)
          clear hHS hHF HS5 HS4 HBV hka hkc
          go_region_with (fail)
          all_goals
            go_wp2_with fail
            exact bodyPost_ret (v := .tuple #[.agg #[.int .i64 n.1, .int .i64 n.2], .agg #[.int .i64 m.1, .int .i64 m.2], .bool true]) (by simp [results, Tryz.results79, go_sem, *]) rfl ⟨rfl, (by (repeat (first | (with_reducible exact Keeps.refl _) | (with_reducible assumption) | (with_reducible refine Keeps.drewN ?_ _) | (with_reducible refine Keeps.drew ?_) | (with_reducible refine Keeps.alloc ?_ _) | (with_reducible refine Keeps.setNew ?_ ?_ _))) <;> ((try dsimp only); omega))⟩
    · rw [if_pos h5, if_pos h5]
      unfold negP
      obtain ⟨xa, xb, ya, yb, r, s, ex1, ex2, ey1, ey2, er, es, bx1, bx2, by1, by2, br, bs, eC⟩ := out_bd u v b h1 h2 h3
      have K1 := fun w => rsub_any v.1 v.2 u.1 u.2 w
      have K2 := fun w => rsub_any b.1 b.2 v.1 v.2 w
      simp only [subc, (vP_bd h1).1, (vP_bd h1).2.1, (vP_bd h2).1, (vP_bd h2).2.1, (vP_bd h3).1, (vP_bd h3).2.1] at K1 K2
      have K5 := Lib.hid (fun w => rwedge_any xa xb ya yb w (by omega) (by omega) (by omega) (by omega) (by omega) (by omega) (by omega) (by omega))
      rw [show crossI xa xb ya yb = r - s by unfold crossI; rw [er, es]] at K5
      rw [ex1, ex2] at K1
      rw [ey1, ey2] at K2
      have K1 := Lib.hid K1
      have K2 := Lib.hid K2
      have K3 := Lib.hid (fun w => rofs_any xa xb wd w)
      have K4 := Lib.hid (fun w => rofs_any ya yb wd w)
      have eX : subP v u = (xa, xb) := by unfold subP; rw [ex1, ex2]
      have eY : subP b v = (ya, yb) := by unfold subP; rw [ey1, ey2]
      have bn := ofs_bd' (xa, xb) wd
      have bm := ofs_bd' (ya, yb) wd
      rw [eC] at h5
      rw [eX, eY]
      have HC := True.intro
      generalize ofs (xa, xb) wd = n at *
      generalize ofs (ya, yb) wd = m at *
      rw [h1] at KA
      rw [h2] at KV
      rw [h3] at KB
      rw [h4] at KW
      have w1 : IntKind.i64.wrap r = r := i64_in _ (by omega)
      have w2 : IntKind.i64.wrap s = s := i64_in _ (by omega)
      have w3 : IntKind.i64.wrap (r - s) = r - s := i64_in _ (by omega)
      have n1 : IntKind.i64.wrap (-n.1) = -n.1 := i64_in _ (by omega)
      have n2 : IntKind.i64.wrap (-n.2) = -n.2 := i64_in _ (by omega)
      have n3 : IntKind.i64.wrap (-m.1) = -m.1 := i64_in _ (by omega)
      have n4 : IntKind.i64.wrap (-m.2) = -m.2 := i64_in _ (by omega)
      have q1 : (r - s == 0) = false := by rw [beq_eq_false_iff_ne]; omega
      have q2 : decide (0 < r - s) = true := decide_eq_true (by omega)
      have q3 : decide (s < r) = true := decide_eq_true (by omega)
      clear h5
      clear hb h1 h2 h3 h4 ex1 ex2 ey1 ey2 eX eY eC HC
      go_enter Tryz.func79, Tryz.ntmps79
      go_wp2_with (first | (go_at_call 40; (first | (with_reducible refine (keepk (KA.out _) (by first | assumption | exact Keeps.drew (by assumption) | exact Keeps.drewN (by assumption) _)).mono ?_) | (with_reducible refine (keepk (KV.out _) (by first | assumption | exact Keeps.drew (by assumption) | exact Keeps.drewN (by assumption) _)).mono ?_) | (with_reducible refine (keepk (KB.out _) (by first | assumption | exact Keeps.drew (by assumption) | exact Keeps.drewN (by assumption) _)).mono ?_) | fail "V"); rintro e w1 ⟨rfl, hk⟩; have hj := Keeps.trans HB.out hk; have hk := hk; obtain ⟨y0, y1, y2, y3, y4, y5, y6, y7, y8, y9, y10, y11, y12, y13, y14, y15, y16, y17, y18, y19⟩ := HS.out _ hk) | (go_at_call 96; (with_reducible refine (KW.out _).mono ?_); rintro e w1 ⟨rfl, rfl⟩) | fail "ARM")
      refine name_world (fun W3 hW3 => ?_)
      have hk3 : Keeps (((((w.alloc (.cells #[.int .i64 u.1, .int .i64 u.2] 37)).alloc (.cells #[.int .i64 v.1, .int .i64 v.2] 37)).alloc (.cells #[.int .i64 b.1, .int .i64 b.2] 37)).alloc (.cells #[.int .i64 0, .int .i64 0] 37)).alloc (.cells #[.int .i64 0, .int .i64 0] 37)) W3 := by rw [hW3]; assumption
      clear hW3 hj y0 y1 y2 y3 y4 y5 y6 y7 y8 y9 y10 y11 y12 y13 y14 y15 y16 y17 y18 y19
      have HS3 := Lib.hid (show ∀ w', Keeps W3 w' → w'.cell? ⟨w.heap.size, 0, none⟩ = some (.int .i64 u.1) ∧ w'.frozen? ⟨w.heap.size, 0, none⟩ = false ∧ w'.cell? ⟨w.heap.size, 1, none⟩ = some (.int .i64 u.2) ∧ w'.frozen? ⟨w.heap.size, 1, none⟩ = false ∧ w'.cell? ⟨w.heap.size + 1, 0, none⟩ = some (.int .i64 v.1) ∧ w'.frozen? ⟨w.heap.size + 1, 0, none⟩ = false ∧ w'.cell? ⟨w.heap.size + 1, 1, none⟩ = some (.int .i64 v.2) ∧ w'.frozen? ⟨w.heap.size + 1, 1, none⟩ = false ∧ w'.cell? ⟨w.heap.size + 1 + 1, 0, none⟩ = some (.int .i64 b.1) ∧ w'.frozen? ⟨w.heap.size + 1 + 1, 0, none⟩ = false ∧ w'.cell? ⟨w.heap.size + 1 + 1, 1, none⟩ = some (.int .i64 b.2) ∧ w'.frozen? ⟨w.heap.size + 1 + 1, 1, none⟩ = false ∧ w'.cell? ⟨w.heap.size + 1 + 1 + 1, 0, none⟩ = some (.int .i64 0) ∧ w'.frozen? ⟨w.heap.size + 1 + 1 + 1, 0, none⟩ = false ∧ w'.cell? ⟨w.heap.size + 1 + 1 + 1, 1, none⟩ = some (.int .i64 0) ∧ w'.frozen? ⟨w.heap.size + 1 + 1 + 1, 1, none⟩ = false ∧ w'.cell? ⟨w.heap.size + 1 + 1 + 1 + 1, 0, none⟩ = some (.int .i64 0) ∧ w'.frozen? ⟨w.heap.size + 1 + 1 + 1 + 1, 0, none⟩ = false ∧ w'.cell? ⟨w.heap.size + 1 + 1 + 1 + 1, 1, none⟩ = some (.int .i64 0) ∧ w'.frozen? ⟨w.heap.size + 1 + 1 + 1 + 1, 1, none⟩ = false from fun w' hq => HS.out w' (hk3.trans hq))
      have HBW := Lib.hid (HB.out.trans hk3)
      have hsz3 : w.heap.size + 5 ≤ W3.heap.size := by have h := hk3.size; simp at h; omega
      clear hk hk0 hk3 HS HB KA KV KB KW
      have hk0 := Keeps.refl W3
      refine wp_region_steps (by kernel_rfl) (fun L a wa => ∃ (b0 b1 b2 b3 b4 b5 b6 b7 b8 b9 : Bool), L = #[b0, b1, b2, b3, b4, b5, b6, b7, b8, b9] ∧ ∃ (pa0 pa1 : Nat), a = { tmps := #[.agg #[.int .i64 u.1, .int .i64 u.2], .agg #[.int .i64 v.1, .int .i64 v.2], .agg #[.int .i64 b.1, .int .i64 b.2], .int .i64 wd, .pointer (some ⟨w.heap.size, 0, none⟩), .pointer (some ⟨w.heap.size + 1, 0, none⟩), .pointer (some ⟨w.heap.size + 1 + 1, 0, none⟩), undef, .pointer (some ⟨w.heap.size + 1 + 1 + 1, 0, none⟩), .pointer (some ⟨w.heap.size + 1 + 1 + 1 + 1, 0, none⟩), .bool false, if b6 then .pointer (some ⟨pa0, 0, none⟩) else undef, if b7 then .pointer (some ⟨pa1, 0, none⟩) else undef, undef, undef, undef, .agg #[.int .i64 u.1, .int .i64 u.2], .bool true, .bool false, .bool false, .agg #[.int .i64 v.1, .int .i64 v.2], .bool true, .bool false, .bool false, .bool false, .agg #[.int .i64 b.1, .int .i64 b.2], .bool true, .bool false, .bool false, .bool false, .int .i64 wd, .bool true, .bool false, .bool false, undef, undef, if b0 then .agg #[.int .i64 v.1, .int .i64 v.2] else undef, if b1 then .agg #[.int .i64 u.1, .int .i64 u.2] else undef, if b2 then .agg #[.int .i64 xa, .int .i64 xb] else undef, if b3 then .agg #[.int .i64 b.1, .int .i64 b.2] else undef, if b4 then .agg #[.int .i64 v.1, .int .i64 v.2] else undef, if b5 then .agg #[.int .i64 ya, .int .i64 yb] else undef, undef, undef, undef, undef, undef, undef, undef, undef, undef, undef, undef, undef, undef, undef, undef, undef, undef, undef, undef, undef, undef, undef, undef, undef, undef, undef, undef, undef, undef, undef, undef], defers := [] } ∧ Keeps (W3) wa ∧ Box2 b6 (W3.heap.size) (pa0) (.int .i64 (if b8 then xa else 0)) (.int .i64 (if b8 then xb else 0)) wa ∧ Box2 b7 (W3.heap.size) (pa1) (.int .i64 (if b9 then ya else 0)) (.int .i64 (if b9 then yb else 0)) wa ∧ (b6 = true → b7 = true → pa0 ≠ pa1) ∧ (b6 = false → b8 = false) ∧ (b7 = false → b9 = false)) 10 (by kernel_rfl) ?_ ?_ ?_
      · exact ⟨false, false, false, false, false, false, false, false, false, false, rfl, 0, 0, rfl, hk0.drew, Box2.none, Box2.none, (fun h => by cases h), (fun _ => rfl), (fun _ => rfl)⟩
      · refine (InvSteps.cons rfl ?_ (InvSteps.cons rfl ?_ (InvSteps.cons rfl ?_ (InvSteps.cons rfl ?_ (InvSteps.cons rfl ?_ (InvSteps.cons rfl ?_ (InvSteps.cons rfl ?_ (InvSteps.cons rfl ?_ (InvSteps.cons rfl ?_ (InvSteps.cons rfl ?_ InvSteps.nil))))))))))
        all_goals rintro L a wa ⟨b0, b1, b2, b3, b4, b5, b6, b7, b8, b9, rfl, pa0, pa1, rfl, hk, HA0, HA1, Da0_1, Z0, Z1⟩ hl hd K hK
        all_goals (simp [Region.binds] at hl hd; simp only [List.getElem_toArray, List.getElem_cons_zero, List.getElem_cons_succ])
        · subst hl; (repeat (rcases hd with ⟨hq, hd⟩; first | subst hq | clear hq)); (first | subst hd | clear hd | skip)
          obtain ⟨y0, y1, y2, y3, y4, y5, y6, y7, y8, y9, y10, y11, y12, y13, y14, y15, y16, y17, y18, y19⟩ := HS3.out _ hk
          go_simp
          exact hK.out _ _ ⟨true, _, _, _, _, _, _, _, _, _, rfl, pa0, pa1, rfl, hk, HA0, HA1, Da0_1, Z0, Z1⟩
        · subst hl; (repeat (rcases hd with ⟨hq, hd⟩; first | subst hq | clear hq)); (first | subst hd | clear hd | skip)
          obtain ⟨y0, y1, y2, y3, y4, y5, y6, y7, y8, y9, y10, y11, y12, y13, y14, y15, y16, y17, y18, y19⟩ := HS3.out _ hk
          go_simp
          exact hK.out _ _ ⟨_, true, _, _, _, _, _, _, _, _, rfl, pa0, pa1, rfl, hk, HA0, HA1, Da0_1, Z0, Z1⟩
        · subst hl; (repeat (rcases hd with ⟨hq, hd⟩; first | subst hq | clear hq)); (first | subst hd | clear hd | skip)
          go_simp
          go_at_call 97; (with_reducible refine (K1.out _).mono ?_); rintro e w1 ⟨rfl, hk1⟩
          exact hK.out _ _ ⟨_, _, true, _, _, _, _, _, _, _, rfl, pa0, pa1, rfl, hk.trans hk1, HA0.keeps hk1, HA1.keeps hk1, Da0_1, Z0, Z1⟩
        · subst hl; (repeat (rcases hd with ⟨hq, hd⟩; first | subst hq | clear hq)); (first | subst hd | clear hd | skip)
          obtain ⟨y0, y1, y2, y3, y4, y5, y6, y7, y8, y9, y10, y11, y12, y13, y14, y15, y16, y17, y18, y19⟩ := HS3.out _ hk
          go_simp
          exact hK.out _ _ ⟨_, _, _, true, _, _, _, _, _, _, rfl, pa0, pa1, rfl, hk, HA0, HA1, Da0_1, Z0, Z1⟩
        · subst hl; (repeat (rcases hd with ⟨hq, hd⟩; first | subst hq | clear hq)); (first | subst hd | clear hd | skip)
          obtain ⟨y0, y1, y2, y3, y4, y5, y6, y7, y8, y9, y10, y11, y12, y13, y14, y15, y16, y17, y18, y19⟩ := HS3.out _ hk
          go_simp
          exact hK.out _ _ ⟨_, _, _, _, true, _, _, _, _, _, rfl, pa0, pa1, rfl, hk, HA0, HA1, Da0_1, Z0, Z1⟩
        · subst hl; (repeat (rcases hd with ⟨hq, hd⟩; first | subst hq | clear hq)); (first | subst hd | clear hd | skip)
          go_simp
          go_at_call 97; (with_reducible refine (K2.out _).mono ?_); rintro e w1 ⟨rfl, hk1⟩
          exact hK.out _ _ ⟨_, _, _, _, _, true, _, _, _, _, rfl, pa0, pa1, rfl, hk.trans hk1, HA0.keeps hk1, HA1.keeps hk1, Da0_1, Z0, Z1⟩
        · subst hl; obtain rfl := Z0 rfl
          have hs := hk.size
          go_simp
          exact hK.out _ _ ⟨_, _, _, _, _, _, true, _, _, _, rfl, wa.heap.size, pa1, rfl, hk.alloc _, Box2.new (by omega), HA1.keeps ((Keeps.refl _).alloc _), (fun _ h => (HA1.ne h).symm), (fun h => by cases h), Z1⟩
        · subst hl; obtain rfl := Z1 rfl
          have hs := hk.size
          go_simp
          exact hK.out _ _ ⟨_, _, _, _, _, _, _, true, _, _, rfl, pa0, wa.heap.size, rfl, hk.alloc _, HA0.keeps ((Keeps.refl _).alloc _), Box2.new (by omega), (fun h _ => HA0.ne h), Z0, (fun h => by cases h)⟩
        · subst hl; (repeat (rcases hd with ⟨hq, hd⟩; first | subst hq | clear hq)); (first | subst hd | clear hd | skip)
          obtain ⟨q1, q2, q3, q4, q5, q6⟩ := HA0 rfl
          have hs := hk.size
          go_simp
          exact hK.out _ _ ⟨_, _, _, _, _, _, _, _, true, _, rfl, pa0, pa1, rfl, hk.set2 (by omega) _ _, HA0.at, HA1.far (fun h e => Da0_1 rfl h e.symm), Da0_1, (fun h => by cases h), Z1⟩
        · subst hl; (repeat (rcases hd with ⟨hq, hd⟩; first | subst hq | clear hq)); (first | subst hd | clear hd | skip)
          obtain ⟨q1, q2, q3, q4, q5, q6⟩ := HA1 rfl
          have hs := hk.size
          go_simp
          exact hK.out _ _ ⟨_, _, _, _, _, _, _, _, _, true, rfl, pa0, pa1, rfl, hk.set2 (by omega) _ _, HA0.far (fun h => Da0_1 h rfl), HA1.at, Da0_1, Z0, (fun h => by cases h)⟩
      · rintro L a wa ⟨b0, b1, b2, b3, b4, b5, b6, b7, b8, b9, rfl, pa0, pa1, rfl, hk, HA0, HA1, Da0_1, Z0, Z1⟩ hr
        have c := ready_nil hr 0 rfl (by simp [Region.binds]); simp at c; subst c
        have c := ready_nil hr 1 rfl (by simp [Region.binds]); simp at c; subst c
        have c := ready_nil hr 2 rfl (by simp [Region.binds]); simp at c; subst c
        have c := ready_nil hr 3 rfl (by simp [Region.binds]); simp at c; subst c
        have c := ready_nil hr 4 rfl (by simp [Region.binds]); simp at c; subst c
        have c := ready_nil hr 5 rfl (by simp [Region.binds]); simp at c; subst c
        have c := ready_nil hr 6 rfl (by simp [Region.binds]); simp at c; subst c
        have c := ready_nil hr 7 rfl (by simp [Region.binds]); simp at c; subst c
        have c := ready_nil hr 8 rfl (by simp [Region.binds]); simp at c; subst c
        have c := ready_nil hr 9 rfl (by simp [Region.binds]); simp at c; subst c
        clear hr Z0 Z1
        obtain ⟨qa0_1, qa0_2, qa0_3, qa0_4, qa0_5, qa0_6⟩ := HA0 rfl
        try simp only [if_true] at qa0_3 qa0_4
        have HXa0 := Lib.hid HA0; clear HA0; try simp only [if_true] at HXa0
        obtain ⟨qa1_1, qa1_2, qa1_3, qa1_4, qa1_5, qa1_6⟩ := HA1 rfl
        try simp only [if_true] at qa1_3 qa1_4
        have HXa1 := Lib.hid HA1; clear HA1; try simp only [if_true] at HXa1
        have Da0_1 := Da0_1 rfl rfl
        simp only [if_true]
        obtain ⟨y0, y1, y2, y3, y4, y5, y6, y7, y8, y9, y10, y11, y12, y13, y14, y15, y16, y17, y18, y19⟩ := HS3.out _ hk
        have hj := Keeps.trans HBW.out hk
        have HS4 := Lib.hid (show ∀ w2, Keeps wa w2 → w2.cell? ⟨pa0, 0, none⟩ = some (.int .i64 xa) ∧ w2.cell? ⟨pa0, 1, none⟩ = some (.int .i64 xb) ∧ w2.cell? ⟨pa1, 0, none⟩ = some (.int .i64 ya) ∧ w2.cell? ⟨pa1, 1, none⟩ = some (.int .i64 yb) from fun w2 h => ⟨(h.cell (p := ⟨pa0, 0, none⟩) qa0_2).trans qa0_3, (h.cell (p := ⟨pa0, 1, none⟩) qa0_2).trans qa0_4, (h.cell (p := ⟨pa1, 0, none⟩) qa1_2).trans qa1_3, (h.cell (p := ⟨pa1, 1, none⟩) qa1_2).trans qa1_4⟩)
        have HBV := Lib.hid hj
        have HS5 := Lib.hid (fun w2 (h : Keeps wa w2) => HS3.out w2 (hk.trans h))
        have hsza : w.heap.size + 5 ≤ wa.heap.size := by have h := hk.size; omega
        have lo0 : w.heap.size + 5 ≤ pa0 := by omega
        have lo1 : w.heap.size + 5 ≤ pa1 := by omega
        clear hk0 hk hj HXa0 HXa1 qa0_1 qa0_2 qa0_3 qa0_4 qa0_5 qa0_6 qa1_1 qa1_2 qa1_3 qa1_4 qa1_5 qa1_6 y0 y1 y2 y3 y4 y5 y6 y7 y8 y9 y10 y11 y12 y13 y14 y15 y16 y17 y18 y19 HS3 HBW
        have hk0 := Keeps.refl wa
        go_wp2_with fail
        refine wp_region_steps (by kernel_rfl) (fun L a wb => ∃ (b0 b1 b2 b3 b4 b5 b6 b7 b8 b9 : Bool), L = #[b0, b1, b2, b3, b4, b5, b6, b7, b8, b9] ∧ ∃ (pb0 pb1 : Nat), a = { tmps := #[.agg #[.int .i64 u.1, .int .i64 u.2], .agg #[.int .i64 v.1, .int .i64 v.2], .agg #[.int .i64 b.1, .int .i64 b.2], .int .i64 wd, .pointer (some ⟨w.heap.size, 0, none⟩), .pointer (some ⟨w.heap.size + 1, 0, none⟩), .pointer (some ⟨w.heap.size + 1 + 1, 0, none⟩), undef, .pointer (some ⟨w.heap.size + 1 + 1 + 1, 0, none⟩), .pointer (some ⟨w.heap.size + 1 + 1 + 1 + 1, 0, none⟩), .bool false, .pointer (some ⟨pa0, 0, none⟩), .pointer (some ⟨pa1, 0, none⟩), if b6 then .pointer (some ⟨pb0, 0, none⟩) else undef, if b7 then .pointer (some ⟨pb1, 0, none⟩) else undef, undef, .agg #[.int .i64 u.1, .int .i64 u.2], .bool true, .bool false, .bool false, .agg #[.int .i64 v.1, .int .i64 v.2], .bool true, .bool false, .bool false, .bool false, .agg #[.int .i64 b.1, .int .i64 b.2], .bool true, .bool false, .bool false, .bool false, .int .i64 wd, .bool true, .bool false, .bool false, undef, undef, .agg #[.int .i64 v.1, .int .i64 v.2], .agg #[.int .i64 u.1, .int .i64 u.2], .agg #[.int .i64 xa, .int .i64 xb], .agg #[.int .i64 b.1, .int .i64 b.2], .agg #[.int .i64 v.1, .int .i64 v.2], .agg #[.int .i64 ya, .int .i64 yb], if b0 then .agg #[.int .i64 xa, .int .i64 xb] else undef, if b1 then .int .i64 wd else undef, if b2 then .agg #[.int .i64 n.1, .int .i64 n.2] else undef, if b3 then .agg #[.int .i64 ya, .int .i64 yb] else undef, if b4 then .int .i64 wd else undef, if b5 then .agg #[.int .i64 m.1, .int .i64 m.2] else undef, undef, undef, undef, undef, undef, undef, undef, undef, undef, undef, undef, undef, undef, undef, undef, undef, undef, undef, undef, undef, undef, undef, undef, undef, undef], defers := [] } ∧ Keeps (wa) wb ∧ Box2 b6 (wa.heap.size) (pb0) (.int .i64 (if b8 then n.1 else 0)) (.int .i64 (if b8 then n.2 else 0)) wb ∧ Box2 b7 (wa.heap.size) (pb1) (.int .i64 (if b9 then m.1 else 0)) (.int .i64 (if b9 then m.2 else 0)) wb ∧ (b6 = true → b7 = true → pb0 ≠ pb1) ∧ (b6 = false → b8 = false) ∧ (b7 = false → b9 = false)) 10 (by kernel_rfl) ?_ ?_ ?_
        · exact ⟨false, false, false, false, false, false, false, false, false, false, rfl, 0, 0, rfl, hk0.drew, Box2.none, Box2.none, (fun h => by cases h), (fun _ => rfl), (fun _ => rfl)⟩
        · refine (InvSteps.cons rfl ?_ (InvSteps.cons rfl ?_ (InvSteps.cons rfl ?_ (InvSteps.cons rfl ?_ (InvSteps.cons rfl ?_ (InvSteps.cons rfl ?_ (InvSteps.cons rfl ?_ (InvSteps.cons rfl ?_ (InvSteps.cons rfl ?_ (InvSteps.cons rfl ?_ InvSteps.nil))))))))))
          all_goals rintro L a wb ⟨b0, b1, b2, b3, b4, b5, b6, b7, b8, b9, rfl, pb0, pb1, rfl, hk, HA0, HA1, Db0_1, Z0, Z1⟩ hl hd K hK
          all_goals (simp [Region.binds] at hl hd; simp only [List.getElem_toArray, List.getElem_cons_zero, List.getElem_cons_succ])
          · subst hl; (repeat (rcases hd with ⟨hq, hd⟩; first | subst hq | clear hq)); (first | subst hd | clear hd | skip)
            obtain ⟨y0, y1, y2, y3⟩ := HS4.out _ hk
            go_simp
            exact hK.out _ _ ⟨true, _, _, _, _, _, _, _, _, _, rfl, pb0, pb1, rfl, hk, HA0, HA1, Db0_1, Z0, Z1⟩
          · subst hl; (repeat (rcases hd with ⟨hq, hd⟩; first | subst hq | clear hq)); (first | subst hd | clear hd | skip)
            go_simp
            exact hK.out _ _ ⟨_, true, _, _, _, _, _, _, _, _, rfl, pb0, pb1, rfl, hk, HA0, HA1, Db0_1, Z0, Z1⟩
          · subst hl; (repeat (rcases hd with ⟨hq, hd⟩; first | subst hq | clear hq)); (first | subst hd | clear hd | skip)
            go_simp
            go_at_call 75; (with_reducible refine (K3.out _).mono ?_); rintro e w1 ⟨rfl, hk1⟩
            exact hK.out _ _ ⟨_, _, true, _, _, _, _, _, _, _, rfl, pb0, pb1, rfl, hk.trans hk1, HA0.keeps hk1, HA1.keeps hk1, Db0_1, Z0, Z1⟩
          · subst hl; (repeat (rcases hd with ⟨hq, hd⟩; first | subst hq | clear hq)); (first | subst hd | clear hd | skip)
            obtain ⟨y0, y1, y2, y3⟩ := HS4.out _ hk
            go_simp
            exact hK.out _ _ ⟨_, _, _, true, _, _, _, _, _, _, rfl, pb0, pb1, rfl, hk, HA0, HA1, Db0_1, Z0, Z1⟩
          · subst hl; (repeat (rcases hd with ⟨hq, hd⟩; first | subst hq | clear hq)); (first | subst hd | clear hd | skip)
            go_simp
            exact hK.out _ _ ⟨_, _, _, _, true, _, _, _, _, _, rfl, pb0, pb1, rfl, hk, HA0, HA1, Db0_1, Z0, Z1⟩
          · subst hl; (repeat (rcases hd with ⟨hq, hd⟩; first | subst hq | clear hq)); (first | subst hd | clear hd | skip)
            go_simp
            go_at_call 75; (with_reducible refine (K4.out _).mono ?_); rintro e w1 ⟨rfl, hk1⟩
            exact hK.out _ _ ⟨_, _, _, _, _, true, _, _, _, _, rfl, pb0, pb1, rfl, hk.trans hk1, HA0.keeps hk1, HA1.keeps hk1, Db0_1, Z0, Z1⟩
          · subst hl; obtain rfl := Z0 rfl
            have hs := hk.size
            go_simp
            exact hK.out _ _ ⟨_, _, _, _, _, _, true, _, _, _, rfl, wb.heap.size, pb1, rfl, hk.alloc _, Box2.new (by omega), HA1.keeps ((Keeps.refl _).alloc _), (fun _ h => (HA1.ne h).symm), (fun h => by cases h), Z1⟩
          · subst hl; obtain rfl := Z1 rfl
            have hs := hk.size
            go_simp
            exact hK.out _ _ ⟨_, _, _, _, _, _, _, true, _, _, rfl, pb0, wb.heap.size, rfl, hk.alloc _, HA0.keeps ((Keeps.refl _).alloc _), Box2.new (by omega), (fun h _ => HA0.ne h), Z0, (fun h => by cases h)⟩
          · subst hl; (repeat (rcases hd with ⟨hq, hd⟩; first | subst hq | clear hq)); (first | subst hd | clear hd | skip)
            obtain ⟨q1, q2, q3, q4, q5, q6⟩ := HA0 rfl
            have hs := hk.size
            go_simp
            exact hK.out _ _ ⟨_, _, _, _, _, _, _, _, true, _, rfl, pb0, pb1, rfl, hk.set2 (by omega) _ _, HA0.at, HA1.far (fun h e => Db0_1 rfl h e.symm), Db0_1, (fun h => by cases h), Z1⟩
          · subst hl; (repeat (rcases hd with ⟨hq, hd⟩; first | subst hq | clear hq)); (first | subst hd | clear hd | skip)
            obtain ⟨q1, q2, q3, q4, q5, q6⟩ := HA1 rfl
            have hs := hk.size
            go_simp
            exact hK.out _ _ ⟨_, _, _, _, _, _, _, _, _, true, rfl, pb0, pb1, rfl, hk.set2 (by omega) _ _, HA0.far (fun h => Db0_1 h rfl), HA1.at, Db0_1, Z0, (fun h => by cases h)⟩
        · rintro L a wb ⟨b0, b1, b2, b3, b4, b5, b6, b7, b8, b9, rfl, pb0, pb1, rfl, hk, HA0, HA1, Db0_1, Z0, Z1⟩ hr
          have c := ready_nil hr 0 rfl (by simp [Region.binds]); simp at c; subst c
          have c := ready_nil hr 1 rfl (by simp [Region.binds]); simp at c; subst c
          have c := ready_nil hr 2 rfl (by simp [Region.binds]); simp at c; subst c
          have c := ready_nil hr 3 rfl (by simp [Region.binds]); simp at c; subst c
          have c := ready_nil hr 4 rfl (by simp [Region.binds]); simp at c; subst c
          have c := ready_nil hr 5 rfl (by simp [Region.binds]); simp at c; subst c
          have c := ready_nil hr 6 rfl (by simp [Region.binds]); simp at c; subst c
          have c := ready_nil hr 7 rfl (by simp [Region.binds]); simp at c; subst c
          have c := ready_nil hr 8 rfl (by simp [Region.binds]); simp at c; subst c
          have c := ready_nil hr 9 rfl (by simp [Region.binds]); simp at c; subst c
          clear hr Z0 Z1
          obtain ⟨qb0_1, qb0_2, qb0_3, qb0_4, qb0_5, qb0_6⟩ := HA0 rfl
          try simp only [if_true] at qb0_3 qb0_4
          have HXb0 := Lib.hid HA0; clear HA0; try simp only [if_true] at HXb0
          obtain ⟨qb1_1, qb1_2, qb1_3, qb1_4, qb1_5, qb1_6⟩ := HA1 rfl
          try simp only [if_true] at qb1_3 qb1_4
          have HXb1 := Lib.hid HA1; clear HA1; try simp only [if_true] at HXb1
          have Db0_1 := Db0_1 rfl rfl
          simp only [if_true]
          obtain ⟨y0, y1, y2, y3⟩ := HS4.out _ hk
          have hj := Keeps.trans HBV.out hk
          obtain ⟨z0, z1, z2, z3, z4, z5, z6, z7, z8, z9, z10, z11, z12, z13, z14, z15, z16, z17, z18, z19⟩ := HS5.out _ hk
          have hszb : w.heap.size + 5 ≤ wb.heap.size := by have h := hk.size; omega
          have hHS := Lib.hid (show ∀ w2, Keeps wb w2 → w2.cell? ⟨pb0, 0, none⟩ = some (.int .i64 n.1) ∧ w2.cell? ⟨pb0, 1, none⟩ = some (.int .i64 n.2) ∧ w2.cell? ⟨pb1, 0, none⟩ = some (.int .i64 m.1) ∧ w2.cell? ⟨pb1, 1, none⟩ = some (.int .i64 m.2) from fun w2 h => ⟨(h.cell (p := ⟨pb0, 0, none⟩) qb0_2).trans qb0_3, (h.cell (p := ⟨pb0, 1, none⟩) qb0_2).trans qb0_4, (h.cell (p := ⟨pb1, 0, none⟩) qb1_2).trans qb1_3, (h.cell (p := ⟨pb1, 1, none⟩) qb1_2).trans qb1_4⟩)
          have lb0 : w.heap.size + 5 ≤ pb0 := by omega
          have lb1 : w.heap.size + 5 ≤ pb1 := by omega
        
          have hHF := Lib.hid (show ∀ w2, Keeps wb w2 → w2.frozen? ⟨pb0, 0, none⟩ = false ∧ w2.frozen? ⟨pb0, 1, none⟩ = false ∧ w2.frozen? ⟨pb1, 0, none⟩ = false ∧ w2.frozen? ⟨pb1, 1, none⟩ = false from fun w2 h => ⟨(h.frozen (p := ⟨pb0, 0, none⟩) qb0_2).trans qb0_5, (h.frozen (p := ⟨pb0, 1, none⟩) qb0_2).trans qb0_6, (h.frozen (p := ⟨pb1, 0, none⟩) qb1_2).trans qb1_5, (h.frozen (p := ⟨pb1, 1, none⟩) qb1_2).trans qb1_6⟩)
          have hka := hk
          have pq := Db0_1
          clear hk z0 z1 z2 z3 z4 z5 z6 z7 z8 z9 z10 z11 z12 z13 z14 z15 z16 z17 z18 z19 HXb0 HXb1 qb0_1 qb0_2 qb0_3 qb0_4 qb0_5 qb0_6 qb1_1 qb1_2 qb1_3 qb1_4 qb1_5 qb1_6 K1 K2 K3 K4 hk0
          go_wp2_with (first | (go_at_call 98; (with_reducible refine (K5.out _).mono ?_); rintro e wc ⟨rfl, hkc⟩; obtain ⟨z0, z1, z2, z3, z4, z5, z6, z7, z8, z9, z10, z11, z12, z13, z14, z15, z16, z17, z18, z19⟩ := HS5.out _ (hka.trans hkc); obtain ⟨m0, m1, m2, m3⟩ := hHS.out _ hkc; obtain ⟨k0, k1, k2, k3⟩ := hHF.out _ hkc; replace hj := hj.trans hkc) | fail "ARM")
          have f3 := fun (w' : World) (i : Nat) (u : Value) (j : Nat) => setFar w' (w.heap.size + 1 + 1 + 1) i pb1 j u (by omega)
          have f4 := fun (w' : World) (i : Nat) (u : Value) (j : Nat) => setFar w' (w.heap.size + 1 + 1 + 1) i pb0 j u (by omega)
          have f5 := fun (w' : World) (i : Nat) (u : Value) (j : Nat) => setFar w' pb0 i pb1 j u pq
          have f6 := fun (w' : World) (i : Nat) (u : Value) (j : Nat) => setFar w' pb1 i pb0 j u (fun h => pq h.symm)
          have f7 := fun (w' : World) (i : Nat) (u : Value) (j : Nat) => setFar w' pb0 i (w.heap.size + 1 + 1 + 1) j u (by omega)
          have f8 := fun (w' : World) (i : Nat) (u : Value) (j : Nat) => setFar w' pb0 i (w.heap.size + 1 + 1 + 1 + 1) j u (by omega)
          have f9 := fun (w' : World) (i : Nat) (u : Value) (j : Nat) => setFar w' pb1 i (w.heap.size + 1 + 1 + 1) j u (by omega)
          have f10 := fun (w' : World) (i : Nat) (u : Value) (j : Nat) => setFar w' pb1 i (w.heap.size + 1 + 1 + 1 + 1) j u (by omega)
          clear hHS hHF HS5 HS4 HBV hka hkc
          go_region
          all_goals
            go_wp2_with fail
            refine name_world (fun W6 hW6 => ?_)
            have hjW : Keeps w W6 := by rw [hW6]; exact (by (repeat (first | (with_reducible exact Keeps.refl _) | (with_reducible assumption) | (with_reducible refine Keeps.drewN ?_ _) | (with_reducible refine Keeps.drew ?_) | (with_reducible refine Keeps.alloc ?_ _) | (with_reducible refine Keeps.setNew ?_ ?_ _))) <;> ((try dsimp only); omega))
            have hE : W6.cell? ⟨pb0, 0, none⟩ = some (.int .i64 (-n.1)) ∧ W6.cell? ⟨pb0, 1, none⟩ = some (.int .i64 (-n.2)) ∧ W6.cell? ⟨pb1, 0, none⟩ = some (.int .i64 (-m.1)) ∧ W6.cell? ⟨pb1, 1, none⟩ = some (.int .i64 (-m.2)) := by rw [hW6]; refine ⟨?_, ?_, ?_, ?_⟩ <;> go_simp
            have hG : W6.cell? ⟨w.heap.size + 1 + 1 + 1, 0, none⟩ = some (.int .i64 0) ∧ W6.cell? ⟨w.heap.size + 1 + 1 + 1, 1, none⟩ = some (.int .i64 0) ∧ W6.cell? ⟨w.heap.size + 1 + 1 + 1 + 1, 0, none⟩ = some (.int .i64 0) ∧ W6.cell? ⟨w.heap.size + 1 + 1 + 1 + 1, 1, none⟩ = some (.int .i64 0) ∧ W6.frozen? ⟨w.heap.size + 1 + 1 + 1, 0, none⟩ = false ∧ W6.frozen? ⟨w.heap.size + 1 + 1 + 1, 1, none⟩ = false ∧ W6.frozen? ⟨w.heap.size + 1 + 1 + 1 + 1, 0, none⟩ = false ∧ W6.frozen? ⟨w.heap.size + 1 + 1 + 1 + 1, 1, none⟩ = false := by rw [hW6]; refine ⟨?_, ?_, ?_, ?_, ?_, ?_, ?_, ?_⟩ <;> go_simp
            clear hW6 z0 z1 z2 z3 z4 z5 z6 z7 z8 z9 z10 z11 z12 z13 z14 z15 z16 z17 z18 z19 m0 m1 m2 m3 k0 k1 k2 k3 f5 f6 f7 f8 f9 f10 hj
            obtain ⟨e0, e1, e2, e3⟩ := hE
            obtain ⟨g0, g1, g2, g3, g4, g5, g6, g7⟩ := hG
            go_wp2_with fail
            go_region_with (fail)
            all_goals
              go_wp2_with fail
              exact bodyPost_ret (v := .tuple #[.agg #[.int .i64 (-n.1), .int .i64 (-n.2)], .agg #[.int .i64 (-m.1), .int .i64 (-m.2)], .bool true]) (by simp [results, Tryz.results79, go_sem, *]) rfl ⟨rfl, (by (repeat (first | (with_reducible exact Keeps.refl _) | (with_reducible assumption) | (with_reducible refine Keeps.drewN ?_ _) | (with_reducible refine Keeps.drew ?_) | (with_reducible refine Keeps.alloc ?_ _) | (with_reducible refine Keeps.setNew ?_ ?_ _))) <;> ((try dsimp only); omega))⟩
end Go.Proofs.YtdodgnpjlicnoaaGreat
