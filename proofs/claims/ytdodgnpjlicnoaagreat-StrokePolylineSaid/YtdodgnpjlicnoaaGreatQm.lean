/- Contracts of strokegeom's and reference 22's less, plus, across, may. -/
import Derived.Test.YtdodgnpjlicnoaaGreatQk
import Derived.Test.YtdodgnpjlicnoaaGreatKu
namespace Go.Proofs.YtdodgnpjlicnoaaGreat
open Go.RowKit
attribute [local go_sem ↓] Go.wp_at_zero Go.wp_at_succ
set_option linter.unusedVariables false
set_option linter.unusedSimpArgs false
theorem ofs_bd (p : Pt) (v : Int) (h : ofsOk p v = true) : (-1152921504606846976 ≤ (ofs p v).1 ∧ (ofs p v).1 ≤ 1152921504606846976) ∧ (-1152921504606846976 ≤ (ofs p v).2 ∧ (ofs p v).2 ≤ 1152921504606846976) := by
  obtain ⟨a, b, u, u2, t, t2, m, s, ea, eb, a0, b0, a1, b1, eu, eu2, et, et2, u0, u1, t0, t1, em, es, s1, hO, _⟩ := ofs_ar p.1 p.2 v h
  rw [show ofs p v = ofs (p.1, p.2) v from rfl, hO.out]
  have q : ∀ x : Int, -2251799813685248 ≤ x → x ≤ 2251799813685248 → -1152921504606846976 ≤ dvr x (s : Int) ∧ dvr x (s : Int) ≤ 1152921504606846976 := fun x h0 h1 => by
    by_cases hb : (s : Int) = 0
    · rw [hb, dvr_zero]; omega
    · exact (dvr_Q _ _ hb (by omega)).2
  exact ⟨q u2 (by omega) (by omega), q t2 (by omega) (by omega)⟩
theorem ofs_bd' (p : Pt) (v : Int) : (-1152921504606846976 ≤ (ofs p v).1 ∧ (ofs p v).1 ≤ 1152921504606846976) ∧ (-1152921504606846976 ≤ (ofs p v).2 ∧ (ofs p v).2 ≤ 1152921504606846976) := by
  cases h : ofsOk p v with
  | true => exact ofs_bd p v h
  | false => rw [ofs_no p v h]; exact ⟨⟨by decide, by decide⟩, ⟨by decide, by decide⟩⟩
set_option maxHeartbeats 400000 in
theorem sless_any (x y z t : Int) (w : World) (x0 : -2305843009213693952 ≤ x) (x1 : x ≤ 2305843009213693952) (y0 : -2305843009213693952 ≤ y) (y1 : y ≤ 2305843009213693952) (z0 : -2305843009213693952 ≤ z) (z1 : z ≤ 2305843009213693952) (t0 : -2305843009213693952 ≤ t) (t1 : t ≤ 2305843009213693952) :
    Calls Tryz.prog 52 #[.agg #[.int .i64 x, .int .i64 y], .agg #[.int .i64 z, .int .i64 t]] w fun e w' => e = .returned (.agg #[.int .i64 (x - z), .int .i64 (y - t)]) ∧ Keeps w w' := by
  go_enter Tryz.func52, Tryz.ntmps52
  go_wp2_with fail
  exact bodyPost_ret (v := .agg #[.int .i64 (x - z), .int .i64 (y - t)]) (by simp [results, Tryz.results52, go_sem, *]) rfl ⟨rfl, (by (repeat (first | (with_reducible exact Keeps.refl _) | (with_reducible assumption) | (with_reducible refine Keeps.drewN ?_ _) | (with_reducible refine Keeps.drew ?_) | (with_reducible refine Keeps.alloc ?_ _) | (with_reducible refine Keeps.setNew ?_ ?_ _))) <;> (dsimp only; omega))⟩
set_option maxHeartbeats 400000 in
theorem splus_any (x y z t : Int) (w : World) (x0 : -2305843009213693952 ≤ x) (x1 : x ≤ 2305843009213693952) (y0 : -2305843009213693952 ≤ y) (y1 : y ≤ 2305843009213693952) (z0 : -2305843009213693952 ≤ z) (z1 : z ≤ 2305843009213693952) (t0 : -2305843009213693952 ≤ t) (t1 : t ≤ 2305843009213693952) :
    Calls Tryz.prog 53 #[.agg #[.int .i64 x, .int .i64 y], .agg #[.int .i64 z, .int .i64 t]] w fun e w' => e = .returned (.agg #[.int .i64 (x + z), .int .i64 (y + t)]) ∧ Keeps w w' := by
  go_enter Tryz.func53, Tryz.ntmps53
  go_wp2_with fail
  exact bodyPost_ret (v := .agg #[.int .i64 (x + z), .int .i64 (y + t)]) (by simp [results, Tryz.results53, go_sem, *]) rfl ⟨rfl, (by (repeat (first | (with_reducible exact Keeps.refl _) | (with_reducible assumption) | (with_reducible refine Keeps.drewN ?_ _) | (with_reducible refine Keeps.drew ?_) | (with_reducible refine Keeps.alloc ?_ _) | (with_reducible refine Keeps.setNew ?_ ?_ _))) <;> (dsimp only; omega))⟩
set_option maxHeartbeats 400000 in
theorem rless22_any (x y z t : Int) (w : World) (x0 : -2305843009213693952 ≤ x) (x1 : x ≤ 2305843009213693952) (y0 : -2305843009213693952 ≤ y) (y1 : y ≤ 2305843009213693952) (z0 : -2305843009213693952 ≤ z) (z1 : z ≤ 2305843009213693952) (t0 : -2305843009213693952 ≤ t) (t1 : t ≤ 2305843009213693952) :
    Calls Tryz.prog 76 #[.agg #[.int .i64 x, .int .i64 y], .agg #[.int .i64 z, .int .i64 t]] w fun e w' => e = .returned (.agg #[.int .i64 (x - z), .int .i64 (y - t)]) ∧ Keeps w w' := by
  go_enter Tryz.func76, Tryz.ntmps76
  go_wp2_with fail
  exact bodyPost_ret (v := .agg #[.int .i64 (x - z), .int .i64 (y - t)]) (by simp [results, Tryz.results76, go_sem, *]) rfl ⟨rfl, (by (repeat (first | (with_reducible exact Keeps.refl _) | (with_reducible assumption) | (with_reducible refine Keeps.drewN ?_ _) | (with_reducible refine Keeps.drew ?_) | (with_reducible refine Keeps.alloc ?_ _) | (with_reducible refine Keeps.setNew ?_ ?_ _))) <;> (dsimp only; omega))⟩
set_option maxHeartbeats 400000 in
theorem rmore_any (x y z t : Int) (w : World) (x0 : -2305843009213693952 ≤ x) (x1 : x ≤ 2305843009213693952) (y0 : -2305843009213693952 ≤ y) (y1 : y ≤ 2305843009213693952) (z0 : -2305843009213693952 ≤ z) (z1 : z ≤ 2305843009213693952) (t0 : -2305843009213693952 ≤ t) (t1 : t ≤ 2305843009213693952) :
    Calls Tryz.prog 78 #[.agg #[.int .i64 x, .int .i64 y], .agg #[.int .i64 z, .int .i64 t]] w fun e w' => e = .returned (.agg #[.int .i64 (x + z), .int .i64 (y + t)]) ∧ Keeps w w' := by
  go_enter Tryz.func78, Tryz.ntmps78
  go_wp2_with fail
  exact bodyPost_ret (v := .agg #[.int .i64 (x + z), .int .i64 (y + t)]) (by simp [results, Tryz.results78, go_sem, *]) rfl ⟨rfl, (by (repeat (first | (with_reducible exact Keeps.refl _) | (with_reducible assumption) | (with_reducible refine Keeps.drewN ?_ _) | (with_reducible refine Keeps.drew ?_) | (with_reducible refine Keeps.alloc ?_ _) | (with_reducible refine Keeps.setNew ?_ ?_ _))) <;> (dsimp only; omega))⟩
def subP (p q : Pt) : Pt := (p.1 - q.1, p.2 - q.2)
def addP (p q : Pt) : Pt := (p.1 + q.1, p.2 + q.2)
/-- Both points and the width are valid. -/
def mayB (a b : Pt) (v : Int) : Bool := wideB v && vP a && vP b
def acr (a b : Pt) (v : Int) : Pt := if mayB a b v = true then ofs (subP b a) v else pt0
theorem mayB_bd {a b : Pt} {v : Int} (h : mayB a b v = true) : (-1048576 ≤ a.1 ∧ a.1 ≤ 1048576 ∧ -1048576 ≤ a.2 ∧ a.2 ≤ 1048576) ∧ (-1048576 ≤ b.1 ∧ b.1 ≤ 1048576 ∧ -1048576 ≤ b.2 ∧ b.2 ≤ 1048576) ∧ (1 ≤ v ∧ v ≤ 16384) := by
  unfold mayB at h
  simp only [Bool.and_eq_true] at h
  have h1 := (vP_bd h.1.2).2.2
  have h2 := (vP_bd h.2).2.2
  have h3 := (inB_iff _ _ _).1 h.1.1
  exact ⟨h1, h2, h3⟩
theorem mayB_no {a b : Pt} {v : Int} (h : mayB a b v = false) : wideB v = false ∨ wideB v = true ∧ vP a = false ∨ wideB v = true ∧ vP a = true ∧ vP b = false := by
  unfold mayB at h
  revert h
  cases wideB v <;> cases vP a <;> cases vP b <;> simp
set_option maxRecDepth 100000 in
set_option maxHeartbeats 2000000 in
theorem across_any (a b : Pt) (v : Int) (w : World) :
    Calls Tryz.prog 50 #[.agg #[.int .i64 a.1, .int .i64 a.2], .agg #[.int .i64 b.1, .int .i64 b.2], .int .i64 v] w fun e w' => e = .returned (.tuple #[.agg #[.int .i64 (acr a b v).1, .int .i64 (acr a b v).2], .bool (mayB a b v)]) ∧ Keeps w w' := by
  have KW := Lib.hid (fun w => wide_any v w)
  have KA := Lib.hid (fun w => valid_any a.1 a.2 w)
  have KB := Lib.hid (fun w => valid_any b.1 b.2 w)
  rw [show validB a.1 a.2 = vP a from rfl] at KA
  rw [show validB b.1 b.2 = vP b from rfl] at KB
  have HS := Lib.hid (show ∀ w', Keeps (((w.alloc (.cells #[.int .i64 a.1, .int .i64 a.2] 37)).alloc (.cells #[.int .i64 b.1, .int .i64 b.2] 37)).alloc (.cells #[.int .i64 0, .int .i64 0] 37)) w' → w'.cell? ⟨w.heap.size, 0, none⟩ = some (.int .i64 a.1) ∧ w'.frozen? ⟨w.heap.size, 0, none⟩ = false ∧ w'.cell? ⟨w.heap.size, 1, none⟩ = some (.int .i64 a.2) ∧ w'.frozen? ⟨w.heap.size, 1, none⟩ = false ∧ w'.cell? ⟨w.heap.size + 1, 0, none⟩ = some (.int .i64 b.1) ∧ w'.frozen? ⟨w.heap.size + 1, 0, none⟩ = false ∧ w'.cell? ⟨w.heap.size + 1, 1, none⟩ = some (.int .i64 b.2) ∧ w'.frozen? ⟨w.heap.size + 1, 1, none⟩ = false ∧ w'.cell? ⟨w.heap.size + 1 + 1, 0, none⟩ = some (.int .i64 0) ∧ w'.frozen? ⟨w.heap.size + 1 + 1, 0, none⟩ = false ∧ w'.cell? ⟨w.heap.size + 1 + 1, 1, none⟩ = some (.int .i64 0) ∧ w'.frozen? ⟨w.heap.size + 1 + 1, 1, none⟩ = false from fun w' hk => ⟨(hk.cell (p := ⟨w.heap.size, 0, none⟩) (by first | (simp; done) | (simp; omega))).trans (by simp [go_sem]), (hk.frozen (p := ⟨w.heap.size, 0, none⟩) (by first | (simp; done) | (simp; omega))).trans (by simp [go_sem]), (hk.cell (p := ⟨w.heap.size, 1, none⟩) (by first | (simp; done) | (simp; omega))).trans (by simp [go_sem]), (hk.frozen (p := ⟨w.heap.size, 1, none⟩) (by first | (simp; done) | (simp; omega))).trans (by simp [go_sem]), (hk.cell (p := ⟨w.heap.size + 1, 0, none⟩) (by first | (simp; done) | (simp; omega))).trans (by simp [go_sem]), (hk.frozen (p := ⟨w.heap.size + 1, 0, none⟩) (by first | (simp; done) | (simp; omega))).trans (by simp [go_sem]), (hk.cell (p := ⟨w.heap.size + 1, 1, none⟩) (by first | (simp; done) | (simp; omega))).trans (by simp [go_sem]), (hk.frozen (p := ⟨w.heap.size + 1, 1, none⟩) (by first | (simp; done) | (simp; omega))).trans (by simp [go_sem]), (hk.cell (p := ⟨w.heap.size + 1 + 1, 0, none⟩) (by first | (simp; done) | (simp; omega))).trans (by simp [go_sem]), (hk.frozen (p := ⟨w.heap.size + 1 + 1, 0, none⟩) (by first | (simp; done) | (simp; omega))).trans (by simp [go_sem]), (hk.cell (p := ⟨w.heap.size + 1 + 1, 1, none⟩) (by first | (simp; done) | (simp; omega))).trans (by simp [go_sem]), (hk.frozen (p := ⟨w.heap.size + 1 + 1, 1, none⟩) (by first | (simp; done) | (simp; omega))).trans (by simp [go_sem])⟩)
  have HB := Lib.hid (show Keeps w (((w.alloc (.cells #[.int .i64 a.1, .int .i64 a.2] 37)).alloc (.cells #[.int .i64 b.1, .int .i64 b.2] 37)).alloc (.cells #[.int .i64 0, .int .i64 0] 37)) from (by (repeat (first | (with_reducible exact Keeps.refl _) | (with_reducible assumption) | (with_reducible refine Keeps.drewN ?_ _) | (with_reducible refine Keeps.drew ?_) | (with_reducible refine Keeps.alloc ?_ _) | (with_reducible refine Keeps.setNew ?_ ?_ _))) <;> (dsimp only; omega)))
  have hk0 := Keeps.refl (((w.alloc (.cells #[.int .i64 a.1, .int .i64 a.2] 37)).alloc (.cells #[.int .i64 b.1, .int .i64 b.2] 37)).alloc (.cells #[.int .i64 0, .int .i64 0] 37))
  unfold acr
  cases hm : mayB a b v with
  | false =>
    rw [if_neg (by decide)]
    rcases mayB_no hm with h3 | ⟨h3, h4⟩ | ⟨h3, h4, h5⟩
    · rw [h3] at KW
      clear h3 hm
      go_enter Tryz.func50, Tryz.ntmps50
      go_wp2_with (first | (go_at_call 24; (with_reducible refine (KW.out _).mono ?_); rintro e w1 ⟨rfl, rfl⟩))
      exact bodyPost_ret (v := .tuple #[.agg #[.int .i64 0, .int .i64 0], .bool false]) (by simp [results, Tryz.results50, go_sem, *]) rfl ⟨rfl, (by (repeat (first | (with_reducible exact Keeps.refl _) | (with_reducible assumption) | (with_reducible refine Keeps.drewN ?_ _) | (with_reducible refine Keeps.drew ?_) | (with_reducible refine Keeps.alloc ?_ _) | (with_reducible refine Keeps.setNew ?_ ?_ _))) <;> (dsimp only; omega))⟩
    · rw [h3] at KW
      rw [h4] at KA
      clear h3 h4 hm
      go_enter Tryz.func50, Tryz.ntmps50
      go_wp2_with (first | (go_at_call 24; (with_reducible refine (KW.out _).mono ?_); rintro e w1 ⟨rfl, rfl⟩) | (go_at_call 28; (with_reducible refine (keepk (KA.out _) (by first | assumption | exact Keeps.drew (by assumption) | exact Keeps.drewN (by assumption) _)).mono ?_); rintro e w1 ⟨rfl, hk⟩; have hj := Keeps.trans HB.out hk; have hk := hk; obtain ⟨y0, y1, y2, y3, y4, y5, y6, y7, y8, y9, y10, y11⟩ := HS.out _ hk))
      exact bodyPost_ret (v := .tuple #[.agg #[.int .i64 0, .int .i64 0], .bool false]) (by simp [results, Tryz.results50, go_sem, *]) rfl ⟨rfl, (by (repeat (first | (with_reducible exact Keeps.refl _) | (with_reducible assumption) | (with_reducible refine Keeps.drewN ?_ _) | (with_reducible refine Keeps.drew ?_) | (with_reducible refine Keeps.alloc ?_ _) | (with_reducible refine Keeps.setNew ?_ ?_ _))) <;> (dsimp only; omega))⟩
    · rw [h3] at KW
      rw [h4] at KA
      rw [h5] at KB
      clear h3 h4 h5 hm
      go_enter Tryz.func50, Tryz.ntmps50
      go_wp2_with (first | (go_at_call 24; (with_reducible refine (KW.out _).mono ?_); rintro e w1 ⟨rfl, rfl⟩) | (go_at_call 28; (first | (with_reducible refine (keepk (KA.out _) (by first | assumption | exact Keeps.drew (by assumption) | exact Keeps.drewN (by assumption) _)).mono ?_) | (with_reducible refine (keepk (KB.out _) (by first | assumption | exact Keeps.drew (by assumption) | exact Keeps.drewN (by assumption) _)).mono ?_)); rintro e w1 ⟨rfl, hk⟩; have hj := Keeps.trans HB.out hk; have hk := hk; obtain ⟨y0, y1, y2, y3, y4, y5, y6, y7, y8, y9, y10, y11⟩ := HS.out _ hk))
      exact bodyPost_ret (v := .tuple #[.agg #[.int .i64 0, .int .i64 0], .bool false]) (by simp [results, Tryz.results50, go_sem, *]) rfl ⟨rfl, (by (repeat (first | (with_reducible exact Keeps.refl _) | (with_reducible assumption) | (with_reducible refine Keeps.drewN ?_ _) | (with_reducible refine Keeps.drew ?_) | (with_reducible refine Keeps.alloc ?_ _) | (with_reducible refine Keeps.setNew ?_ ?_ _))) <;> (dsimp only; omega))⟩
  | true =>
    rw [if_pos rfl]
    obtain ⟨⟨b0, b1, b2, b3⟩, ⟨b4, b5, b6, b7⟩, bv⟩ := mayB_bd hm
    unfold mayB at hm
    simp only [Bool.and_eq_true] at hm
    obtain ⟨⟨h3, h4⟩, h5⟩ := hm
    rw [h3] at KW
    rw [h4] at KA
    rw [h5] at KB
    clear h3 h4 h5 bv
    have KL := Lib.hid (fun w => sless_any b.1 b.2 a.1 a.2 w (by omega) (by omega) (by omega) (by omega) (by omega) (by omega) (by omega) (by omega))
    have KO := Lib.hid (fun w => ofs_any (b.1 - a.1) (b.2 - a.2) v w)
    rw [show ((b.1 - a.1, b.2 - a.2) : Pt) = subP b a from rfl] at KO
    generalize ofs (subP b a) v = n at *
    go_enter Tryz.func50, Tryz.ntmps50
    go_wp2_with (first | (go_at_call 24; (with_reducible refine (KW.out _).mono ?_); rintro e w1 ⟨rfl, rfl⟩) | (go_at_call 28; (first | (with_reducible refine (keepk (KA.out _) (by first | assumption | exact Keeps.drew (by assumption) | exact Keeps.drewN (by assumption) _)).mono ?_) | (with_reducible refine (keepk (KB.out _) (by first | assumption | exact Keeps.drew (by assumption) | exact Keeps.drewN (by assumption) _)).mono ?_)); rintro e w1 ⟨rfl, hk⟩; have hj := Keeps.trans HB.out hk; have hk := hk; obtain ⟨y0, y1, y2, y3, y4, y5, y6, y7, y8, y9, y10, y11⟩ := HS.out _ hk) | (go_at_call 52; (with_reducible refine (keepk (KL.out _) (by first | assumption | exact Keeps.drew (by assumption) | exact Keeps.drewN (by assumption) _)).mono ?_); rintro e w1 ⟨rfl, hk⟩; have hj := Keeps.trans HB.out hk; have hk := hk; obtain ⟨y0, y1, y2, y3, y4, y5, y6, y7, y8, y9, y10, y11⟩ := HS.out _ hk) | (go_at_call 67; (with_reducible refine (keepk (KO.out _) (by first | assumption | exact Keeps.drew (by assumption) | exact Keeps.drewN (by assumption) _)).mono ?_); rintro e w1 ⟨rfl, hk⟩; have hj := Keeps.trans HB.out hk; have hk := hk; obtain ⟨y0, y1, y2, y3, y4, y5, y6, y7, y8, y9, y10, y11⟩ := HS.out _ hk))
    exact bodyPost_ret (v := .tuple #[.agg #[.int .i64 n.1, .int .i64 n.2], .bool true]) (by simp [results, Tryz.results50, go_sem, *]) rfl ⟨rfl, (by (repeat (first | (with_reducible exact Keeps.refl _) | (with_reducible assumption) | (with_reducible refine Keeps.drewN ?_ _) | (with_reducible refine Keeps.drew ?_) | (with_reducible refine Keeps.alloc ?_ _) | (with_reducible refine Keeps.setNew ?_ ?_ _))) <;> (dsimp only; omega))⟩
set_option maxRecDepth 100000 in
set_option maxHeartbeats 2000000 in
theorem rmay_any (a b : Pt) (v : Int) (w : World) :
    Calls Tryz.prog 74 #[.agg #[.int .i64 a.1, .int .i64 a.2], .agg #[.int .i64 b.1, .int .i64 b.2], .int .i64 v] w fun e w' => e = .returned (.bool (mayB a b v)) ∧ Keeps w w' := by
  have KW := Lib.hid (fun w => rwidth_any v w)
  have KA := Lib.hid (fun w => rvalid_any a.1 a.2 w)
  have KB := Lib.hid (fun w => rvalid_any b.1 b.2 w)
  rw [show validB a.1 a.2 = vP a from rfl] at KA
  rw [show validB b.1 b.2 = vP b from rfl] at KB
  have HS := Lib.hid (show ∀ w', Keeps ((w.alloc (.cells #[.int .i64 a.1, .int .i64 a.2] 37)).alloc (.cells #[.int .i64 b.1, .int .i64 b.2] 37)) w' → w'.cell? ⟨w.heap.size, 0, none⟩ = some (.int .i64 a.1) ∧ w'.frozen? ⟨w.heap.size, 0, none⟩ = false ∧ w'.cell? ⟨w.heap.size, 1, none⟩ = some (.int .i64 a.2) ∧ w'.frozen? ⟨w.heap.size, 1, none⟩ = false ∧ w'.cell? ⟨w.heap.size + 1, 0, none⟩ = some (.int .i64 b.1) ∧ w'.frozen? ⟨w.heap.size + 1, 0, none⟩ = false ∧ w'.cell? ⟨w.heap.size + 1, 1, none⟩ = some (.int .i64 b.2) ∧ w'.frozen? ⟨w.heap.size + 1, 1, none⟩ = false from fun w' hk => ⟨(hk.cell (p := ⟨w.heap.size, 0, none⟩) (by first | (simp; done) | (simp; omega))).trans (by simp [go_sem]), (hk.frozen (p := ⟨w.heap.size, 0, none⟩) (by first | (simp; done) | (simp; omega))).trans (by simp [go_sem]), (hk.cell (p := ⟨w.heap.size, 1, none⟩) (by first | (simp; done) | (simp; omega))).trans (by simp [go_sem]), (hk.frozen (p := ⟨w.heap.size, 1, none⟩) (by first | (simp; done) | (simp; omega))).trans (by simp [go_sem]), (hk.cell (p := ⟨w.heap.size + 1, 0, none⟩) (by first | (simp; done) | (simp; omega))).trans (by simp [go_sem]), (hk.frozen (p := ⟨w.heap.size + 1, 0, none⟩) (by first | (simp; done) | (simp; omega))).trans (by simp [go_sem]), (hk.cell (p := ⟨w.heap.size + 1, 1, none⟩) (by first | (simp; done) | (simp; omega))).trans (by simp [go_sem]), (hk.frozen (p := ⟨w.heap.size + 1, 1, none⟩) (by first | (simp; done) | (simp; omega))).trans (by simp [go_sem])⟩)
  have HB := Lib.hid (show Keeps w ((w.alloc (.cells #[.int .i64 a.1, .int .i64 a.2] 37)).alloc (.cells #[.int .i64 b.1, .int .i64 b.2] 37)) from (by (repeat (first | (with_reducible exact Keeps.refl _) | (with_reducible assumption) | (with_reducible refine Keeps.drewN ?_ _) | (with_reducible refine Keeps.drew ?_) | (with_reducible refine Keeps.alloc ?_ _) | (with_reducible refine Keeps.setNew ?_ ?_ _))) <;> (dsimp only; omega)))
  have hk0 := Keeps.refl ((w.alloc (.cells #[.int .i64 a.1, .int .i64 a.2] 37)).alloc (.cells #[.int .i64 b.1, .int .i64 b.2] 37))
  unfold mayB
  cases h4 : vP a with
  | false =>
    rw [h4] at KA
    rw [Bool.and_false, Bool.false_and]
    clear h4
    go_enter Tryz.func74, Tryz.ntmps74
    go_wp2_with (go_at_call 40; (with_reducible refine (keepk (KA.out _) (by first | assumption | exact Keeps.drew (by assumption) | exact Keeps.drewN (by assumption) _)).mono ?_); rintro e w1 ⟨rfl, hk⟩; have hj := Keeps.trans HB.out hk; have hk := hk; obtain ⟨y0, y1, y2, y3, y4, y5, y6, y7⟩ := HS.out _ hk)
    go_ret
    exact ⟨rfl, hj⟩
  | true =>
    rw [h4] at KA
    cases h5 : vP b with
    | false =>
      rw [h5] at KB
      rw [Bool.and_false]
      clear h4 h5
      go_enter Tryz.func74, Tryz.ntmps74
      go_wp2_with (go_at_call 40; (first | (with_reducible refine (keepk (KA.out _) (by first | assumption | exact Keeps.drew (by assumption) | exact Keeps.drewN (by assumption) _)).mono ?_) | (with_reducible refine (keepk (KB.out _) (by first | assumption | exact Keeps.drew (by assumption) | exact Keeps.drewN (by assumption) _)).mono ?_)); rintro e w1 ⟨rfl, hk⟩; have hj := Keeps.trans HB.out hk; have hk := hk; obtain ⟨y0, y1, y2, y3, y4, y5, y6, y7⟩ := HS.out _ hk)
      go_ret
      exact ⟨rfl, hj⟩
    | true =>
      rw [h5] at KB
      rw [Bool.and_true, Bool.and_true]
      clear h4 h5
      generalize wideB v = u at *
      go_enter Tryz.func74, Tryz.ntmps74
      go_wp2_with (first | (go_at_call 37; (with_reducible refine (KW.out _).mono ?_); rintro e w1 ⟨rfl, rfl⟩) | (go_at_call 40; (first | (with_reducible refine (keepk (KA.out _) (by first | assumption | exact Keeps.drew (by assumption) | exact Keeps.drewN (by assumption) _)).mono ?_) | (with_reducible refine (keepk (KB.out _) (by first | assumption | exact Keeps.drew (by assumption) | exact Keeps.drewN (by assumption) _)).mono ?_)); rintro e w1 ⟨rfl, hk⟩; have hj := Keeps.trans HB.out hk; have hk := hk; obtain ⟨y0, y1, y2, y3, y4, y5, y6, y7⟩ := HS.out _ hk))
      go_ret
      exact ⟨rfl, hj⟩
end Go.Proofs.YtdodgnpjlicnoaaGreat
