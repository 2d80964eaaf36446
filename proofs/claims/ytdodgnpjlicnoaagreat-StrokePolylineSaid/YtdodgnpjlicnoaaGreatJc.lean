/- Contract of linejoin.MiterTip. -/
import Derived.Test.YtdodgnpjlicnoaaGreatJb
import Derived.Deep.RegionHeld3
namespace Go.Proofs.YtdodgnpjlicnoaaGreat
open Go.RowKit
attribute [local go_sem ↓] Go.wp_at_zero Go.wp_at_succ
set_option linter.unusedVariables false
set_option linter.unusedSimpArgs false
set_option maxRecDepth 100000 in
set_option maxHeartbeats 8000000 in
theorem ltip_any (n m : Pt) (v l : Int) (w : World) :
    Calls Tryz.prog 57 #[.agg #[.int .i64 n.1, .int .i64 n.2], .agg #[.int .i64 m.1, .int .i64 m.2], .int .i64 v, .int .i64 l] w fun e w' => e = .returned (.tuple #[.agg #[.int .i64 (tipP n m v l).1, .int .i64 (tipP n m v l).2], .bool (tipB n m v l)]) ∧ Keeps w w' := by
  have KN := Lib.hid (fun w => valid_any n.1 n.2 w)
  have KM := Lib.hid (fun w => valid_any m.1 m.2 w)
  have KV := Lib.hid (fun w => lwide_any v w)
  rw [show validB n.1 n.2 = vP n from rfl] at KN
  rw [show validB m.1 m.2 = vP m from rfl] at KM
  have HS := Lib.hid (show ∀ w', Keeps ((((w.alloc (.cells #[.int .i64 n.1, .int .i64 n.2] 37)).alloc (.cells #[.int .i64 m.1, .int .i64 m.2] 37)).alloc (.cells #[.int .i64 v] 3)).alloc (.cells #[.int .i64 0, .int .i64 0] 37)) w' → w'.cell? ⟨w.heap.size, 0, none⟩ = some (.int .i64 n.1) ∧ w'.frozen? ⟨w.heap.size, 0, none⟩ = false ∧ w'.cell? ⟨w.heap.size, 1, none⟩ = some (.int .i64 n.2) ∧ w'.frozen? ⟨w.heap.size, 1, none⟩ = false ∧ w'.cell? ⟨w.heap.size + 1, 0, none⟩ = some (.int .i64 m.1) ∧ w'.frozen? ⟨w.heap.size + 1, 0, none⟩ = false ∧ w'.cell? ⟨w.heap.size + 1, 1, none⟩ = some (.int .i64 m.2) ∧ w'.frozen? ⟨w.heap.size + 1, 1, none⟩ = false ∧ w'.cell? ⟨w.heap.size + 1 + 1, 0, none⟩ = some (.int .i64 v) ∧ w'.frozen? ⟨w.heap.size + 1 + 1, 0, none⟩ = false ∧ w'.cell? ⟨w.heap.size + 1 + 1 + 1, 0, none⟩ = some (.int .i64 0) ∧ w'.frozen? ⟨w.heap.size + 1 + 1 + 1, 0, none⟩ = false ∧ w'.cell? ⟨w.heap.size + 1 + 1 + 1, 1, none⟩ = some (.int .i64 0) ∧ w'.frozen? ⟨w.heap.size + 1 + 1 + 1, 1, none⟩ = false from fun w' hk => ⟨(hk.cell (p := ⟨w.heap.size, 0, none⟩) (by first | (simp; done) | (simp; omega))).trans (by simp [go_sem]), (hk.frozen (p := ⟨w.heap.size, 0, none⟩) (by first | (simp; done) | (simp; omega))).trans (by simp [go_sem]), (hk.cell (p := ⟨w.heap.size, 1, none⟩) (by first | (simp; done) | (simp; omega))).trans (by simp [go_sem]), (hk.frozen (p := ⟨w.heap.size, 1, none⟩) (by first | (simp; done) | (simp; omega))).trans (by simp [go_sem]), (hk.cell (p := ⟨w.heap.size + 1, 0, none⟩) (by first | (simp; done) | (simp; omega))).trans (by simp [go_sem]), (hk.frozen (p := ⟨w.heap.size + 1, 0, none⟩) (by first | (simp; done) | (simp; omega))).trans (by simp [go_sem]), (hk.cell (p := ⟨w.heap.size + 1, 1, none⟩) (by first | (simp; done) | (simp; omega))).trans (by simp [go_sem]), (hk.frozen (p := ⟨w.heap.size + 1, 1, none⟩) (by first | (simp; done) | (simp; omega))).trans (by simp [go_sem]), (hk.cell (p := ⟨w.heap.size + 1 + 1, 0, none⟩) (by first | (simp; done) | (simp; omega))).trans (by simp [go_sem]), (hk.frozen (p := ⟨w.heap.size + 1 + 1, 0, none⟩) (by first | (simp; done) | (simp; omega))).trans (by simp [go_sem]), (hk.cell (p := ⟨w.heap.size + 1 + 1 + 1, 0, none⟩) (by first | (simp; done) | (simp; omega))).trans (by simp [go_sem]), (hk.frozen (p := ⟨w.heap.size + 1 + 1 + 1, 0, none⟩) (by first | (simp; done) | (simp; omega))).trans (by simp [go_sem]), (hk.cell (p := ⟨w.heap.size + 1 + 1 + 1, 1, none⟩) (by first | (simp; done) | (simp; omega))).trans (by simp [go_sem]), (hk.frozen (p := ⟨w.heap.size + 1 + 1 + 1, 1, none⟩) (by first | (simp; done) | (simp; omega))).trans (by simp [go_sem])⟩)
  have HB := Lib.hid (show Keeps w ((((w.alloc (.cells #[.int .i64 n.1, .int .i64 n.2] 37)).alloc (.cells #[.int .i64 m.1, .int .i64 m.2] 37)).alloc (.cells #[.int .i64 v] 3)).alloc (.cells #[.int .i64 0, .int .i64 0] 37)) from (by (repeat (first | (with_reducible exact Keeps.refl _) | (with_reducible assumption) | (with_reducible refine Keeps.drewN ?_ _) | (with_reducible refine Keeps.drew ?_) | (with_reducible refine Keeps.alloc ?_ _) | (with_reducible refine Keeps.setNew ?_ ?_ _))) <;> (dsimp only; omega)))
  have hk0 := Keeps.refl ((((w.alloc (.cells #[.int .i64 n.1, .int .i64 n.2] 37)).alloc (.cells #[.int .i64 m.1, .int .i64 m.2] 37)).alloc (.cells #[.int .i64 v] 3)).alloc (.cells #[.int .i64 0, .int .i64 0] 37))
  unfold tipP
  cases hb : tipB n m v l with
  | false =>
    rw [if_neg (by decide)]
    rcases tip_no hb with h1 | ⟨h1, h2⟩ | ⟨h1, h2, h3⟩ | ⟨h1, h2, h3, h4⟩ | ⟨h1, h2, h3, h4, h5⟩ | ⟨h1, h2, h3, h4, h5, h6⟩ | ⟨h1, h2, h3, h4, h5, h6, h7⟩
    · rw [h1] at KN
      clear hb h1
      go_enter Tryz.func57, Tryz.ntmps57
      go_wp2_with (first | (go_at_call 28; (first | (with_reducible refine (keepk (KN.out _) (by first | assumption | exact Keeps.drew (by assumption) | exact Keeps.drewN (by assumption) _)).mono ?_) | (with_reducible refine (keepk (KM.out _) (by first | assumption | exact Keeps.drew (by assumption) | exact Keeps.drewN (by assumption) _)).mono ?_) | fail "V"); rintro e w1 ⟨rfl, hk⟩; have hj := Keeps.trans HB.out hk; have hk := hk; obtain ⟨y0, y1, y2, y3, y4, y5, y6, y7, y8, y9, y10, y11, y12, y13⟩ := HS.out _ hk) | (go_at_call 70; (with_reducible refine (KV.out _).mono ?_); rintro e w1 ⟨rfl, rfl⟩) | (go_at_call 56; (with_reducible refine (keepk (KP.out _) (by first | assumption | exact Keeps.drew (by assumption) | exact Keeps.drewN (by assumption) _)).mono ?_); rintro e w2 ⟨rfl, hk⟩; have hj := Keeps.trans HB.out hk; have hk := hk; obtain ⟨y0, y1, y2, y3, y4, y5, y6, y7, y8, y9, y10, y11, y12, y13⟩ := HS.out _ hk; have hs2 : w.heap.size + 1 + 1 + 1 < w2.heap.size := (by have h := hk.size; simp at h; omega); have hs3 : w.heap.size + 1 + 1 < w2.heap.size := (by omega); have hs4 : w.heap.size + 1 + 1 < w2.heap.size + 1 := (by omega); have hs5 : w.heap.size + 1 + 1 + 1 < w2.heap.size + 1 := (by omega)) | (go_at_call 72; (with_reducible refine (KX.out _).mono ?_); rintro e w4 ⟨rfl, rfl⟩) | fail "ARM")
      exact bodyPost_ret (v := .tuple #[.agg #[.int .i64 0, .int .i64 0], .bool false]) (by simp [results, Tryz.results57, go_sem, *]) rfl ⟨rfl, (by (repeat (first | (with_reducible exact Keeps.refl _) | (with_reducible assumption) | (with_reducible refine Keeps.drewN ?_ _) | (with_reducible refine Keeps.drew ?_) | (with_reducible refine Keeps.alloc ?_ _) | (with_reducible refine Keeps.setNew ?_ ?_ _))) <;> (dsimp only; omega))⟩
    · rw [h1] at KN
      rw [h2] at KM
      clear hb h1 h2
      go_enter Tryz.func57, Tryz.ntmps57
      go_wp2_with (first | (go_at_call 28; (first | (with_reducible refine (keepk (KN.out _) (by first | assumption | exact Keeps.drew (by assumption) | exact Keeps.drewN (by assumption) _)).mono ?_) | (with_reducible refine (keepk (KM.out _) (by first | assumption | exact Keeps.drew (by assumption) | exact Keeps.drewN (by assumption) _)).mono ?_) | fail "V"); rintro e w1 ⟨rfl, hk⟩; have hj := Keeps.trans HB.out hk; have hk := hk; obtain ⟨y0, y1, y2, y3, y4, y5, y6, y7, y8, y9, y10, y11, y12, y13⟩ := HS.out _ hk) | (go_at_call 70; (with_reducible refine (KV.out _).mono ?_); rintro e w1 ⟨rfl, rfl⟩) | (go_at_call 56; (with_reducible refine (keepk (KP.out _) (by first | assumption | exact Keeps.drew (by assumption) | exact Keeps.drewN (by assumption) _)).mono ?_); rintro e w2 ⟨rfl, hk⟩; have hj := Keeps.trans HB.out hk; have hk := hk; obtain ⟨y0, y1, y2, y3, y4, y5, y6, y7, y8, y9, y10, y11, y12, y13⟩ := HS.out _ hk; have hs2 : w.heap.size + 1 + 1 + 1 < w2.heap.size := (by have h := hk.size; simp at h; omega); have hs3 : w.heap.size + 1 + 1 < w2.heap.size := (by omega); have hs4 : w.heap.size + 1 + 1 < w2.heap.size + 1 := (by omega); have hs5 : w.heap.size + 1 + 1 + 1 < w2.heap.size + 1 := (by omega)) | (go_at_call 72; (with_reducible refine (KX.out _).mono ?_); rintro e w4 ⟨rfl, rfl⟩) | fail "ARM")
      exact bodyPost_ret (v := .tuple #[.agg #[.int .i64 0, .int .i64 0], .bool false]) (by simp [results, Tryz.results57, go_sem, *]) rfl ⟨rfl, (by (repeat (first | (with_reducible exact Keeps.refl _) | (with_reducible assumption) | (with_reducible refine Keeps.drewN ?_ _) | (with_reducible refine Keeps.drew ?_) | (with_reducible refine Keeps.alloc ?_ _) | (with_reducible refine Keeps.setNew ?_ ?_ _))) <;> (dsimp only; omega))⟩
    · rw [h1] at KN
      rw [h2] at KM
      rw [h3] at KV
      clear hb h1 h2 h3
      go_enter Tryz.func57, Tryz.ntmps57
      go_wp2_with (first | (go_at_call 28; (first | (with_reducible refine (keepk (KN.out _) (by first | assumption | exact Keeps.drew (by assumption) | exact Keeps.drewN (by assumption) _)).mono ?_) | (with_reducible refine (keepk (KM.out _) (by first | assumption | exact Keeps.drew (by assumption) | exact Keeps.drewN (by assumption) _)).mono ?_) | fail "V"); rintro e w1 ⟨rfl, hk⟩; have hj := Keeps.trans HB.out hk; have hk := hk; obtain ⟨y0, y1, y2, y3, y4, y5, y6, y7, y8, y9, y10, y11, y12, y13⟩ := HS.out _ hk) | (go_at_call 70; (with_reducible refine (KV.out _).mono ?_); rintro e w1 ⟨rfl, rfl⟩) | (go_at_call 56; (with_reducible refine (keepk (KP.out _) (by first | assumption | exact Keeps.drew (by assumption) | exact Keeps.drewN (by assumption) _)).mono ?_); rintro e w2 ⟨rfl, hk⟩; have hj := Keeps.trans HB.out hk; have hk := hk; obtain ⟨y0, y1, y2, y3, y4, y5, y6, y7, y8, y9, y10, y11, y12, y13⟩ := HS.out _ hk; have hs2 : w.heap.size + 1 + 1 + 1 < w2.heap.size := (by have h := hk.size; simp at h; omega); have hs3 : w.heap.size + 1 + 1 < w2.heap.size := (by omega); have hs4 : w.heap.size + 1 + 1 < w2.heap.size + 1 := (by omega); have hs5 : w.heap.size + 1 + 1 + 1 < w2.heap.size + 1 := (by omega)) | (go_at_call 72; (with_reducible refine (KX.out _).mono ?_); rintro e w4 ⟨rfl, rfl⟩) | fail "ARM")
      exact bodyPost_ret (v := .tuple #[.agg #[.int .i64 0, .int .i64 0], .bool false]) (by simp [results, Tryz.results57, go_sem, *]) rfl ⟨rfl, (by (repeat (first | (with_reducible exact Keeps.refl _) | (with_reducible assumption) | (with_reducible refine Keeps.drewN ?_ _) | (with_reducible refine Keeps.drew ?_) | (with_reducible refine Keeps.alloc ?_ _) | (with_reducible refine Keeps.setNew ?_ ?_ _))) <;> (dsimp only; omega))⟩
    · rw [h1] at KN
      rw [h2] at KM
      rw [h3] at KV
      have t4 : decide (l < 256) = true := decide_eq_true (by omega)
      clear hb h1 h2 h3
      go_enter Tryz.func57, Tryz.ntmps57
      go_wp2_with (first | (go_at_call 28; (first | (with_reducible refine (keepk (KN.out _) (by first | assumption | exact Keeps.drew (by assumption) | exact Keeps.drewN (by assumption) _)).mono ?_) | (with_reducible refine (keepk (KM.out _) (by first | assumption | exact Keeps.drew (by assumption) | exact Keeps.drewN (by assumption) _)).mono ?_) | fail "V"); rintro e w1 ⟨rfl, hk⟩; have hj := Keeps.trans HB.out hk; have hk := hk; obtain ⟨y0, y1, y2, y3, y4, y5, y6, y7, y8, y9, y10, y11, y12, y13⟩ := HS.out _ hk) | (go_at_call 70; (with_reducible refine (KV.out _).mono ?_); rintro e w1 ⟨rfl, rfl⟩) | (go_at_call 56; (with_reducible refine (keepk (KP.out _) (by first | assumption | exact Keeps.drew (by assumption) | exact Keeps.drewN (by assumption) _)).mono ?_); rintro e w2 ⟨rfl, hk⟩; have hj := Keeps.trans HB.out hk; have hk := hk; obtain ⟨y0, y1, y2, y3, y4, y5, y6, y7, y8, y9, y10, y11, y12, y13⟩ := HS.out _ hk; have hs2 : w.heap.size + 1 + 1 + 1 < w2.heap.size := (by have h := hk.size; simp at h; omega); have hs3 : w.heap.size + 1 + 1 < w2.heap.size := (by omega); have hs4 : w.heap.size + 1 + 1 < w2.heap.size + 1 := (by omega); have hs5 : w.heap.size + 1 + 1 + 1 < w2.heap.size + 1 := (by omega)) | (go_at_call 72; (with_reducible refine (KX.out _).mono ?_); rintro e w4 ⟨rfl, rfl⟩) | fail "ARM")
      exact bodyPost_ret (v := .tuple #[.agg #[.int .i64 0, .int .i64 0], .bool false]) (by simp [results, Tryz.results57, go_sem, *]) rfl ⟨rfl, (by (repeat (first | (with_reducible exact Keeps.refl _) | (with_reducible assumption) | (with_reducible refine Keeps.drewN ?_ _) | (with_reducible refine Keeps.drew ?_) | (with_reducible refine Keeps.alloc ?_ _) | (with_reducible refine Keeps.setNew ?_ ?_ _))) <;> (dsimp only; omega))⟩
    · rw [h1] at KN
      rw [h2] at KM
      rw [h3] at KV
      have t4 : decide (l < 256) = false := decide_eq_false (by omega)
      have t5 : decide (65536 < l) = true := decide_eq_true (by omega)
      clear hb h1 h2 h3
      go_enter Tryz.func57, Tryz.ntmps57
      go_wp2_with (first | (go_at_call 28; (first | (with_reducible refine (keepk (KN.out _) (by first | assumption | exact Keeps.drew (by assumption) | exact Keeps.drewN (by assumption) _)).mono ?_) | (with_reducible refine (keepk (KM.out _) (by first | assumption | exact Keeps.drew (by assumption) | exact Keeps.drewN (by assumption) _)).mono ?_) | fail "V"); rintro e w1 ⟨rfl, hk⟩; have hj := Keeps.trans HB.out hk; have hk := hk; obtain ⟨y0, y1, y2, y3, y4, y5, y6, y7, y8, y9, y10, y11, y12, y13⟩ := HS.out _ hk) | (go_at_call 70; (with_reducible refine (KV.out _).mono ?_); rintro e w1 ⟨rfl, rfl⟩) | (go_at_call 56; (with_reducible refine (keepk (KP.out _) (by first | assumption | exact Keeps.drew (by assumption) | exact Keeps.drewN (by assumption) _)).mono ?_); rintro e w2 ⟨rfl, hk⟩; have hj := Keeps.trans HB.out hk; have hk := hk; obtain ⟨y0, y1, y2, y3, y4, y5, y6, y7, y8, y9, y10, y11, y12, y13⟩ := HS.out _ hk; have hs2 : w.heap.size + 1 + 1 + 1 < w2.heap.size := (by have h := hk.size; simp at h; omega); have hs3 : w.heap.size + 1 + 1 < w2.heap.size := (by omega); have hs4 : w.heap.size + 1 + 1 < w2.heap.size + 1 := (by omega); have hs5 : w.heap.size + 1 + 1 + 1 < w2.heap.size + 1 := (by omega)) | (go_at_call 72; (with_reducible refine (KX.out _).mono ?_); rintro e w4 ⟨rfl, rfl⟩) | fail "ARM")
      exact bodyPost_ret (v := .tuple #[.agg #[.int .i64 0, .int .i64 0], .bool false]) (by simp [results, Tryz.results57, go_sem, *]) rfl ⟨rfl, (by (repeat (first | (with_reducible exact Keeps.refl _) | (with_reducible assumption) | (with_reducible refine Keeps.drewN ?_ _) | (with_reducible refine Keeps.drew ?_) | (with_reducible refine Keeps.alloc ?_ _) | (with_reducible refine Keeps.setNew ?_ ?_ _))) <;> (dsimp only; omega))⟩
    · obtain ⟨a, b, aa, bb, v2, l2, ea, eb, eaa, ebb, ev2, el2, ba, bb1, baa, bbb, bv2, bl2, bv, bav, bbv, bav1, bbv1, eq⟩ := tip_bd n m v l h1 h2 h3 h4 h5
      have bn := (vP_bd h1).2.2
      have bm := (vP_bd h2).2.2
      have KP := fun w => lplus_any n.1 n.2 m.1 m.2 w (by omega) (by omega) (by omega) (by omega) (by omega) (by omega) (by omega) (by omega)
      rw [ea, eb] at KP
      have KP := Lib.hid KP
      clear bn bm
      obtain ⟨Q, hQ⟩ : ∃ Q : Nat, tipQ n m = Q := Int.eq_ofNat_of_zero_le (by omega)
      obtain ⟨L2, rfl⟩ : ∃ L2 : Nat, l2 = L2 := Int.eq_ofNat_of_zero_le (by omega)
      have eQ : aa + bb = (Q : Int) := by omega
      have bQ : (Q : Int) ≤ 8796093022208 := by omega
      obtain ⟨W, hW⟩ : ∃ W : Nat, (256 * v) * (256 * v) = W := Int.eq_ofNat_of_zero_le (Int.mul_nonneg (by omega) (by omega))
      have eW : 256 * v * 256 * v = (W : Int) := by rw [← hW]; grind
      have eW2 : (W : Int) = 65536 * v2 := by rw [← hW, ← ev2]; grind
      have bW : (W : Int) ≤ 17592186044416 := by omega
      have KX := fun w => Tryz.bits_Mul64 L2 Q (by omega) (by omega) w
      obtain ⟨H, hH⟩ : ∃ H, L2 * Q / 18446744073709551616 = H := ⟨_, rfl⟩
      obtain ⟨Lo, hLo⟩ : ∃ Lo, L2 * Q % 18446744073709551616 = Lo := ⟨_, rfl⟩
      rw [hH, hLo] at KX
      have KX := Lib.hid (fun w => (KX w).mono (fun e w' hh => (⟨hh.1, hh.2.symm⟩ : _ ∧ w = w')))
      have hHL := Nat.div_add_mod (L2 * Q) 18446744073709551616
      rw [hH, hLo] at hHL
      have bLo : Lo < 18446744073709551616 := by rw [← hLo]; exact Nat.mod_lt _ (by omega)
      have w1 : IntKind.i64.wrap aa = aa := i64_in _ (by omega)
      have w2 : IntKind.i64.wrap bb = bb := i64_in _ (by omega)
      have w3 : IntKind.i64.wrap (Q : Int) = Q := i64_in _ (by omega)
      have w4 : IntKind.i64.wrap (L2 : Int) = L2 := i64_in _ (by omega)
      have w5 : IntKind.u64.wrap (L2 : Int) = L2 := u64_in _ (by omega)
      have w6 : IntKind.u64.wrap (Q : Int) = Q := u64_in _ (by omega)
      have w7 : IntKind.i64.wrap (256 * v) = 256 * v := i64_in _ (by omega)
      have w8 : IntKind.i64.wrap (256 * v * 256) = 256 * v * 256 := i64_in _ (by omega)
      have w9 : IntKind.i64.wrap (W : Int) = W := i64_in _ (by omega)
      have w10 : IntKind.u64.wrap (W : Int) = W := u64_in _ (by omega)
      have t4 : decide (l < 256) = false := decide_eq_false (by omega)
      have t5 : decide (65536 < l) = false := decide_eq_false (by omega)
      have hLQ : (l * l * (Q : Int)) = ((L2 * Q : Nat) : Int) := by rw [el2, Int.natCast_mul]
      rw [hQ] at h6
      rw [h1] at KN
      rw [h2] at KM
      rw [h3] at KV
      have hq0 : (Q : Int) = 0 := h6
      have q1 : ((Q : Int) == 0) = true := by rw [hq0]; rfl
      clear hb h1 h2 h3 eq hQ hW eW2 hHL hLo hH hLQ h6 hq0
      go_enter Tryz.func57, Tryz.ntmps57
      go_wp2_with (first | (go_at_call 28; (first | (with_reducible refine (keepk (KN.out _) (by first | assumption | exact Keeps.drew (by assumption) | exact Keeps.drewN (by assumption) _)).mono ?_) | (with_reducible refine (keepk (KM.out _) (by first | assumption | exact Keeps.drew (by assumption) | exact Keeps.drewN (by assumption) _)).mono ?_) | fail "V"); rintro e w1 ⟨rfl, hk⟩; have hj := Keeps.trans HB.out hk; have hk := hk; obtain ⟨y0, y1, y2, y3, y4, y5, y6, y7, y8, y9, y10, y11, y12, y13⟩ := HS.out _ hk) | (go_at_call 70; (with_reducible refine (KV.out _).mono ?_); rintro e w1 ⟨rfl, rfl⟩) | (go_at_call 56; (with_reducible refine (keepk (KP.out _) (by first | assumption | exact Keeps.drew (by assumption) | exact Keeps.drewN (by assumption) _)).mono ?_); rintro e w2 ⟨rfl, hk⟩; have hj := Keeps.trans HB.out hk; have hk := hk; obtain ⟨y0, y1, y2, y3, y4, y5, y6, y7, y8, y9, y10, y11, y12, y13⟩ := HS.out _ hk; have hs2 : w.heap.size + 1 + 1 + 1 < w2.heap.size := (by have h := hk.size; simp at h; omega); have hs3 : w.heap.size + 1 + 1 < w2.heap.size := (by omega); have hs4 : w.heap.size + 1 + 1 < w2.heap.size + 1 := (by omega); have hs5 : w.heap.size + 1 + 1 + 1 < w2.heap.size + 1 := (by omega)) | (go_at_call 72; (with_reducible refine (KX.out _).mono ?_); rintro e w4 ⟨rfl, rfl⟩) | fail "ARM")
      exact bodyPost_ret (v := .tuple #[.agg #[.int .i64 0, .int .i64 0], .bool false]) (by simp [results, Tryz.results57, go_sem, *]) rfl ⟨rfl, (by (repeat (first | (with_reducible exact Keeps.refl _) | (with_reducible assumption) | (with_reducible refine Keeps.drewN ?_ _) | (with_reducible refine Keeps.drew ?_) | (with_reducible refine Keeps.alloc ?_ _) | (with_reducible refine Keeps.setNew ?_ ?_ _))) <;> (dsimp only; omega))⟩
    · obtain ⟨a, b, aa, bb, v2, l2, ea, eb, eaa, ebb, ev2, el2, ba, bb1, baa, bbb, bv2, bl2, bv, bav, bbv, bav1, bbv1, eq⟩ := tip_bd n m v l h1 h2 h3 h4 h5
      have bn := (vP_bd h1).2.2
      have bm := (vP_bd h2).2.2
      have KP := fun w => lplus_any n.1 n.2 m.1 m.2 w (by omega) (by omega) (by omega) (by omega) (by omega) (by omega) (by omega) (by omega)
      rw [ea, eb] at KP
      have KP := Lib.hid KP
      clear bn bm
      obtain ⟨Q, hQ⟩ : ∃ Q : Nat, tipQ n m = Q := Int.eq_ofNat_of_zero_le (by omega)
      obtain ⟨L2, rfl⟩ : ∃ L2 : Nat, l2 = L2 := Int.eq_ofNat_of_zero_le (by omega)
      have eQ : aa + bb = (Q : Int) := by omega
      have bQ : (Q : Int) ≤ 8796093022208 := by omega
      obtain ⟨W, hW⟩ : ∃ W : Nat, (256 * v) * (256 * v) = W := Int.eq_ofNat_of_zero_le (Int.mul_nonneg (by omega) (by omega))
      have eW : 256 * v * 256 * v = (W : Int) := by rw [← hW]; grind
      have eW2 : (W : Int) = 65536 * v2 := by rw [← hW, ← ev2]; grind
      have bW : (W : Int) ≤ 17592186044416 := by omega
      have KX := fun w => Tryz.bits_Mul64 L2 Q (by omega) (by omega) w
      obtain ⟨H, hH⟩ : ∃ H, L2 * Q / 18446744073709551616 = H := ⟨_, rfl⟩
      obtain ⟨Lo, hLo⟩ : ∃ Lo, L2 * Q % 18446744073709551616 = Lo := ⟨_, rfl⟩
      rw [hH, hLo] at KX
      have KX := Lib.hid (fun w => (KX w).mono (fun e w' hh => (⟨hh.1, hh.2.symm⟩ : _ ∧ w = w')))
      have hHL := Nat.div_add_mod (L2 * Q) 18446744073709551616
      rw [hH, hLo] at hHL
      have bLo : Lo < 18446744073709551616 := by rw [← hLo]; exact Nat.mod_lt _ (by omega)
      have w1 : IntKind.i64.wrap aa = aa := i64_in _ (by omega)
      have w2 : IntKind.i64.wrap bb = bb := i64_in _ (by omega)
      have w3 : IntKind.i64.wrap (Q : Int) = Q := i64_in _ (by omega)
      have w4 : IntKind.i64.wrap (L2 : Int) = L2 := i64_in _ (by omega)
      have w5 : IntKind.u64.wrap (L2 : Int) = L2 := u64_in _ (by omega)
      have w6 : IntKind.u64.wrap (Q : Int) = Q := u64_in _ (by omega)
      have w7 : IntKind.i64.wrap (256 * v) = 256 * v := i64_in _ (by omega)
      have w8 : IntKind.i64.wrap (256 * v * 256) = 256 * v * 256 := i64_in _ (by omega)
      have w9 : IntKind.i64.wrap (W : Int) = W := i64_in _ (by omega)
      have w10 : IntKind.u64.wrap (W : Int) = W := u64_in _ (by omega)
      have t4 : decide (l < 256) = false := decide_eq_false (by omega)
      have t5 : decide (65536 < l) = false := decide_eq_false (by omega)
      have hLQ : (l * l * (Q : Int)) = ((L2 * Q : Nat) : Int) := by rw [el2, Int.natCast_mul]
      rw [hQ, hLQ, hW] at h7
      rw [hQ] at h6
      rw [h1] at KN
      rw [h2] at KM
      rw [h3] at KV
      have q1 : ((Q : Int) == 0) = false := by rw [beq_eq_false_iff_ne]; exact h6
      have hlt : L2 * Q < W := by omega
      obtain rfl : H = 0 := by omega
      have q2 : decide ((Lo : Int) < W) = true := decide_eq_true (by omega)
      have q3 : decide (Lo < W) = true := decide_eq_true (by omega)
      have q4 : Lo < W := by omega
      have q5 : (Lo : Int) < W := by omega
      clear hb h1 h2 h3 eq hQ hW eW2 hHL hLo hH hLQ h6 h7 hlt
      go_enter Tryz.func57, Tryz.ntmps57
      go_wp2_with (first | (go_at_call 28; (first | (with_reducible refine (keepk (KN.out _) (by first | assumption | exact Keeps.drew (by assumption) | exact Keeps.drewN (by assumption) _)).mono ?_) | (with_reducible refine (keepk (KM.out _) (by first | assumption | exact Keeps.drew (by assumption) | exact Keeps.drewN (by assumption) _)).mono ?_) | fail "V"); rintro e w1 ⟨rfl, hk⟩; have hj := Keeps.trans HB.out hk; have hk := hk; obtain ⟨y0, y1, y2, y3, y4, y5, y6, y7, y8, y9, y10, y11, y12, y13⟩ := HS.out _ hk) | (go_at_call 70; (with_reducible refine (KV.out _).mono ?_); rintro e w1 ⟨rfl, rfl⟩) | (go_at_call 56; (with_reducible refine (keepk (KP.out _) (by first | assumption | exact Keeps.drew (by assumption) | exact Keeps.drewN (by assumption) _)).mono ?_); rintro e w2 ⟨rfl, hk⟩; have hj := Keeps.trans HB.out hk; have hk := hk; obtain ⟨y0, y1, y2, y3, y4, y5, y6, y7, y8, y9, y10, y11, y12, y13⟩ := HS.out _ hk; have hs2 : w.heap.size + 1 + 1 + 1 < w2.heap.size := (by have h := hk.size; simp at h; omega); have hs3 : w.heap.size + 1 + 1 < w2.heap.size := (by omega); have hs4 : w.heap.size + 1 + 1 < w2.heap.size + 1 := (by omega); have hs5 : w.heap.size + 1 + 1 + 1 < w2.heap.size + 1 := (by omega)) | (go_at_call 72; (with_reducible refine (KX.out _).mono ?_); rintro e w4 ⟨rfl, rfl⟩) | fail "ARM")
      exact bodyPost_ret (v := .tuple #[.agg #[.int .i64 0, .int .i64 0], .bool false]) (by simp [results, Tryz.results57, go_sem, *]) rfl ⟨rfl, (by (repeat (first | (with_reducible exact Keeps.refl _) | (with_reducible assumption) | (with_reducible refine Keeps.drewN ?_ _) | (with_reducible refine Keeps.drew ?_) | (with_reducible refine Keeps.alloc ?_ _) | (with_reducible refine Keeps.setNew ?_ ?_ _))) <;> (dsimp only; omega))⟩
  | true =>
    rw [if_pos rfl]
    obtain ⟨h1, h2, h3, h4, h5, h6, h7⟩ := tip_yes hb
    obtain ⟨a, b, aa, bb, v2, l2, ea, eb, eaa, ebb, ev2, el2, ba, bb1, baa, bbb, bv2, bl2, bv, bav, bbv, bav1, bbv1, eq⟩ := tip_bd n m v l h1 h2 h3 h4 h5
    have bn := (vP_bd h1).2.2
    have bm := (vP_bd h2).2.2
    have KP := fun w => lplus_any n.1 n.2 m.1 m.2 w (by omega) (by omega) (by omega) (by omega) (by omega) (by omega) (by omega) (by omega)
    rw [ea, eb] at KP
    have KP := Lib.hid KP
    clear bn bm
    obtain ⟨Q, hQ⟩ : ∃ Q : Nat, tipQ n m = Q := Int.eq_ofNat_of_zero_le (by omega)
    obtain ⟨L2, rfl⟩ : ∃ L2 : Nat, l2 = L2 := Int.eq_ofNat_of_zero_le (by omega)
    have eQ : aa + bb = (Q : Int) := by omega
    have bQ : (Q : Int) ≤ 8796093022208 := by omega
    obtain ⟨W, hW⟩ : ∃ W : Nat, (256 * v) * (256 * v) = W := Int.eq_ofNat_of_zero_le (Int.mul_nonneg (by omega) (by omega))
    have eW : 256 * v * 256 * v = (W : Int) := by rw [← hW]; grind
    have eW2 : (W : Int) = 65536 * v2 := by rw [← hW, ← ev2]; grind
    have bW : (W : Int) ≤ 17592186044416 := by omega
    have KX := fun w => Tryz.bits_Mul64 L2 Q (by omega) (by omega) w
    obtain ⟨H, hH⟩ : ∃ H, L2 * Q / 18446744073709551616 = H := ⟨_, rfl⟩
    obtain ⟨Lo, hLo⟩ : ∃ Lo, L2 * Q % 18446744073709551616 = Lo := ⟨_, rfl⟩
    rw [hH, hLo] at KX
    have KX := Lib.hid (fun w => (KX w).mono (fun e w' hh => (⟨hh.1, hh.2.symm⟩ : _ ∧ w = w')))
    have hHL := Nat.div_add_mod (L2 * Q) 18446744073709551616
    rw [hH, hLo] at hHL
    have bLo : Lo < 18446744073709551616 := by rw [← hLo]; exact Nat.mod_lt _ (by omega)
    have w1 : IntKind.i64.wrap aa = aa := i64_in _ (by omega)
    have w2 : IntKind.i64.wrap bb = bb := i64_in _ (by omega)
    have w3 : IntKind.i64.wrap (Q : Int) = Q := i64_in _ (by omega)
    have w4 : IntKind.i64.wrap (L2 : Int) = L2 := i64_in _ (by omega)
    have w5 : IntKind.u64.wrap (L2 : Int) = L2 := u64_in _ (by omega)
    have w6 : IntKind.u64.wrap (Q : Int) = Q := u64_in _ (by omega)
    have w7 : IntKind.i64.wrap (256 * v) = 256 * v := i64_in _ (by omega)
    have w8 : IntKind.i64.wrap (256 * v * 256) = 256 * v * 256 := i64_in _ (by omega)
    have w9 : IntKind.i64.wrap (W : Int) = W := i64_in _ (by omega)
    have w10 : IntKind.u64.wrap (W : Int) = W := u64_in _ (by omega)
    have t4 : decide (l < 256) = false := decide_eq_false (by omega)
    have t5 : decide (65536 < l) = false := decide_eq_false (by omega)
    have hLQ : (l * l * (Q : Int)) = ((L2 * Q : Nat) : Int) := by rw [el2, Int.natCast_mul]
    rw [hQ, hLQ, hW] at h7
    rw [hQ] at h6
    rw [h1] at KN
    rw [h2] at KM
    rw [h3] at KV
    have q1 : ((Q : Int) == 0) = false := by rw [beq_eq_false_iff_ne]; exact h6
    rw [hQ, ea, eb, ev2]
    have b1 := bav1
    have b2 := bbv1
    have KT := fun (x : Int) (hx : -2097152 ≤ x ∧ x ≤ 2097152) (h1 : -34359738368 ≤ x * v ∧ x * v ≤ 34359738368) (h2 : -562949953421312 ≤ x * v2 ∧ x * v2 ≤ 562949953421312) (g1 g2 : Nat) (w : World) (k1 : w.cell? ⟨g1, 0, none⟩ = some (.int .i64 v)) (k2 : w.cell? ⟨g2, 0, none⟩ = some (.int .i64 Q)) => tip1_any x v Q g1 g2 w k1 k2 (by omega) (by rw [Int.mul_assoc, ev2]; omega) (by omega)
    rw [ev2] at KT
    have KA := Lib.hid (KT a ba bav1 bav)
    have KB := Lib.hid (KT b bb1 bbv1 bbv)
    generalize dvr (a * v2) (2 * (Q : Int)) = ra at *
    generalize dvr (b * v2) (2 * (Q : Int)) = rb at *
    have qq : (H : Int) ≠ 0 ∨ H = 0 ∧ ¬ (Lo : Int) < W := by omega
    clear hb h1 h2 h3 eq hQ hW eW2 hHL hLo hH hLQ h6 h7 KT b1 b2 bav bbv bav1 bbv1
    rcases qq with qa | ⟨rfl, qa⟩
    · have q2 : ((H : Int) == 0) = false := by rw [beq_eq_false_iff_ne]; exact qa
      have q2n : (H == 0) = false := by rw [beq_eq_false_iff_ne]; omega
      clear qa
      go_enter Tryz.func57, Tryz.ntmps57
      go_wp2_with (first | (go_at_call 28; (first | (with_reducible refine (keepk (KN.out _) (by first | assumption | exact Keeps.drew (by assumption) | exact Keeps.drewN (by assumption) _)).mono ?_) | (with_reducible refine (keepk (KM.out _) (by first | assumption | exact Keeps.drew (by assumption) | exact Keeps.drewN (by assumption) _)).mono ?_) | fail "V"); rintro e w1 ⟨rfl, hk⟩; have hj := Keeps.trans HB.out hk; have hk := hk; obtain ⟨y0, y1, y2, y3, y4, y5, y6, y7, y8, y9, y10, y11, y12, y13⟩ := HS.out _ hk) | (go_at_call 70; (with_reducible refine (KV.out _).mono ?_); rintro e w1 ⟨rfl, rfl⟩) | (go_at_call 56; (with_reducible refine (keepk (KP.out _) (by first | assumption | exact Keeps.drew (by assumption) | exact Keeps.drewN (by assumption) _)).mono ?_); rintro e w2 ⟨rfl, hk⟩; have hj := Keeps.trans HB.out hk; have hk := hk; obtain ⟨y0, y1, y2, y3, y4, y5, y6, y7, y8, y9, y10, y11, y12, y13⟩ := HS.out _ hk; have hs2 : w.heap.size + 1 + 1 + 1 < w2.heap.size := (by have h := hk.size; simp at h; omega); have hs3 : w.heap.size + 1 + 1 < w2.heap.size := (by omega); have hs4 : w.heap.size + 1 + 1 < w2.heap.size + 1 := (by omega); have hs5 : w.heap.size + 1 + 1 + 1 < w2.heap.size + 1 := (by omega)) | (go_at_call 72; (with_reducible refine (KX.out _).mono ?_); rintro e w4 ⟨rfl, rfl⟩) | fail "ARM")
      refine name_world (fun W9 hW9 => ?_)
      have hF : W9.cell? ⟨w2.heap.size, 0, none⟩ = some (.int .i64 a) ∧ W9.cell? ⟨w2.heap.size, 1, none⟩ = some (.int .i64 b) ∧ W9.cell? ⟨w2.heap.size + 1, 0, none⟩ = some (.int .i64 Q) ∧ w2.heap.size + 1 < W9.heap.size := by rw [hW9]; refine ⟨?_, ?_, ?_, ?_⟩ <;> go_simp
      have hk9 : Keeps ((((w.alloc (.cells #[.int .i64 n.1, .int .i64 n.2] 37)).alloc (.cells #[.int .i64 m.1, .int .i64 m.2] 37)).alloc (.cells #[.int .i64 v] 3)).alloc (.cells #[.int .i64 0, .int .i64 0] 37)) W9 := by rw [hW9]; exact (hk.alloc _).alloc _
      clear hW9 hk hj y0 y1 y2 y3 y4 y5 y6 y7 y8 y9 y10 y11 y12 y13
      obtain ⟨f0, f1, f2, f3⟩ := hF
      have HSC := Lib.hid (show ∀ w', Keeps W9 w' → w'.cell? ⟨w2.heap.size, 0, none⟩ = some (.int .i64 a) ∧ w'.cell? ⟨w2.heap.size, 1, none⟩ = some (.int .i64 b) from fun w' hk => ⟨(hk.cell (p := ⟨w2.heap.size, 0, none⟩) (by dsimp only; omega)).trans f0, (hk.cell (p := ⟨w2.heap.size, 1, none⟩) (by dsimp only; omega)).trans f1⟩)
      have KC := Lib.hid (show ∀ w', Keeps W9 w' → w'.cell? ⟨w.heap.size + 1 + 1, 0, none⟩ = some (.int .i64 v) ∧ w'.cell? ⟨w2.heap.size + 1, 0, none⟩ = some (.int .i64 Q) from fun w' hk => ⟨by obtain ⟨y0, y1, y2, y3, y4, y5, y6, y7, y8, y9, y10, y11, y12, y13⟩ := HS.out _ (hk9.trans hk); exact y8, (hk.cell (p := ⟨w2.heap.size + 1, 0, none⟩) (by dsimp only; omega)).trans f2⟩)
      have KA2 := Lib.hid (fun w' (hk : Keeps W9 w') => keepk (KA.out _ _ w' (KC.out w' hk).1 (KC.out w' hk).2) hk)
      have KB2 := Lib.hid (fun w' (hk : Keeps W9 w') => keepk (KB.out _ _ w' (KC.out w' hk).1 (KC.out w' hk).2) hk)
      have HU := Lib.hid (show ∀ w' u v, Keeps W9 w' → ((w'.setCell ⟨w.heap.size + 1 + 1 + 1, 0, none⟩ u).setCell ⟨w.heap.size + 1 + 1 + 1, 1, none⟩ v).cell? ⟨w2.heap.size, 0, none⟩ = some (.int .i64 a) ∧ ((w'.setCell ⟨w.heap.size + 1 + 1 + 1, 0, none⟩ u).setCell ⟨w.heap.size + 1 + 1 + 1, 1, none⟩ v).cell? ⟨w2.heap.size, 1, none⟩ = some (.int .i64 b) from fun w' u v hk => ⟨((setFar _ _ _ _ _ _ (by omega)).trans (setFar _ _ _ _ _ _ (by omega))).trans (HSC.out w' hk).1, ((setFar _ _ _ _ _ _ (by omega)).trans (setFar _ _ _ _ _ _ (by omega))).trans (HSC.out w' hk).2⟩)
      have hk := Keeps.refl W9
      clear KA KB
      go_region_held3 (fun w' => w'.cell? ⟨w2.heap.size, 0, none⟩ = some (.int .i64 a) ∧ w'.cell? ⟨w2.heap.size, 1, none⟩ = some (.int .i64 b)) (first | exact HSC.out _ hk | exact HSC.out _ hk.drew | exact HU.out _ _ _ hk | go_keep) (first | (go_at_call 73; (first | (with_reducible refine (KA2.out _ (by first | assumption | exact Keeps.drew (by assumption) | exact Keeps.drewN (by assumption) _)).mono ?_) | (with_reducible refine (KB2.out _ (by first | assumption | exact Keeps.drew (by assumption) | exact Keeps.drewN (by assumption) _)).mono ?_) | fail "C"); rintro e w5 ⟨rfl, hk⟩; obtain ⟨y0, y1, y2, y3, y4, y5, y6, y7, y8, y9, y10, y11, y12, y13⟩ := HS.out _ (hk9.trans hk)) | fail "ARM")
      all_goals
        go_wp2
        have hkf := (HB.out.trans hk9).trans hk
        exact bodyPost_ret (v := .tuple #[.agg #[.int .i64 ra, .int .i64 rb], .bool true]) (by simp [results, Tryz.results57, go_sem, *]) rfl ⟨rfl, hkf.far2 (by omega) _ _⟩
    · have q2 : decide ((Lo : Int) < W) = false := decide_eq_false qa
      have q3 : decide (Lo < W) = false := decide_eq_false (by omega)
      have q5 : ¬ Lo < W := by omega
      go_enter Tryz.func57, Tryz.ntmps57
      go_wp2_with (first | (go_at_call 28; (first | (with_reducible refine (keepk (KN.out _) (by first | assumption | exact Keeps.drew (by assumption) | exact Keeps.drewN (by assumption) _)).mono ?_) | (with_reducible refine (keepk (KM.out _) (by first | assumption | exact Keeps.drew (by assumption) | exact Keeps.drewN (by assumption) _)).mono ?_) | fail "V"); rintro e w1 ⟨rfl, hk⟩; have hj := Keeps.trans HB.out hk; have hk := hk; obtain ⟨y0, y1, y2, y3, y4, y5, y6, y7, y8, y9, y10, y11, y12, y13⟩ := HS.out _ hk) | (go_at_call 70; (with_reducible refine (KV.out _).mono ?_); rintro e w1 ⟨rfl, rfl⟩) | (go_at_call 56; (with_reducible refine (keepk (KP.out _) (by first | assumption | exact Keeps.drew (by assumption) | exact Keeps.drewN (by assumption) _)).mono ?_); rintro e w2 ⟨rfl, hk⟩; have hj := Keeps.trans HB.out hk; have hk := hk; obtain ⟨y0, y1, y2, y3, y4, y5, y6, y7, y8, y9, y10, y11, y12, y13⟩ := HS.out _ hk; have hs2 : w.heap.size + 1 + 1 + 1 < w2.heap.size := (by have h := hk.size; simp at h; omega); have hs3 : w.heap.size + 1 + 1 < w2.heap.size := (by omega); have hs4 : w.heap.size + 1 + 1 < w2.heap.size + 1 := (by omega); have hs5 : w.heap.size + 1 + 1 + 1 < w2.heap.size + 1 := (by omega)) | (go_at_call 72; (with_reducible refine (KX.out _).mono ?_); rintro e w4 ⟨rfl, rfl⟩) | fail "ARM")
      refine name_world (fun W9 hW9 => ?_)
      have hF : W9.cell? ⟨w2.heap.size, 0, none⟩ = some (.int .i64 a) ∧ W9.cell? ⟨w2.heap.size, 1, none⟩ = some (.int .i64 b) ∧ W9.cell? ⟨w2.heap.size + 1, 0, none⟩ = some (.int .i64 Q) ∧ w2.heap.size + 1 < W9.heap.size := by rw [hW9]; refine ⟨?_, ?_, ?_, ?_⟩ <;> go_simp
      have hk9 : Keeps ((((w.alloc (.cells #[.int .i64 n.1, .int .i64 n.2] 37)).alloc (.cells #[.int .i64 m.1, .int .i64 m.2] 37)).alloc (.cells #[.int .i64 v] 3)).alloc (.cells #[.int .i64 0, .int .i64 0] 37)) W9 := by rw [hW9]; exact (hk.alloc _).alloc _
      clear hW9 hk hj y0 y1 y2 y3 y4 y5 y6 y7 y8 y9 y10 y11 y12 y13
      obtain ⟨f0, f1, f2, f3⟩ := hF
      have HSC := Lib.hid (show ∀ w', Keeps W9 w' → w'.cell? ⟨w2.heap.size, 0, none⟩ = some (.int .i64 a) ∧ w'.cell? ⟨w2.heap.size, 1, none⟩ = some (.int .i64 b) from fun w' hk => ⟨(hk.cell (p := ⟨w2.heap.size, 0, none⟩) (by dsimp only; omega)).trans f0, (hk.cell (p := ⟨w2.heap.size, 1, none⟩) (by dsimp only; omega)).trans f1⟩)
      have KC := Lib.hid (show ∀ w', Keeps W9 w' → w'.cell? ⟨w.heap.size + 1 + 1, 0, none⟩ = some (.int .i64 v) ∧ w'.cell? ⟨w2.heap.size + 1, 0, none⟩ = some (.int .i64 Q) from fun w' hk => ⟨by obtain ⟨y0, y1, y2, y3, y4, y5, y6, y7, y8, y9, y10, y11, y12, y13⟩ := HS.out _ (hk9.trans hk); exact y8, (hk.cell (p := ⟨w2.heap.size + 1, 0, none⟩) (by dsimp only; omega)).trans f2⟩)
      have KA2 := Lib.hid (fun w' (hk : Keeps W9 w') => keepk (KA.out _ _ w' (KC.out w' hk).1 (KC.out w' hk).2) hk)
      have KB2 := Lib.hid (fun w' (hk : Keeps W9 w') => keepk (KB.out _ _ w' (KC.out w' hk).1 (KC.out w' hk).2) hk)
      have HU := Lib.hid (show ∀ w' u v, Keeps W9 w' → ((w'.setCell ⟨w.heap.size + 1 + 1 + 1, 0, none⟩ u).setCell ⟨w.heap.size + 1 + 1 + 1, 1, none⟩ v).cell? ⟨w2.heap.size, 0, none⟩ = some (.int .i64 a) ∧ ((w'.setCell ⟨w.heap.size + 1 + 1 + 1, 0, none⟩ u).setCell ⟨w.heap.size + 1 + 1 + 1, 1, none⟩ v).cell? ⟨w2.heap.size, 1, none⟩ = some (.int .i64 b) from fun w' u v hk => ⟨((setFar _ _ _ _ _ _ (by omega)).trans (setFar _ _ _ _ _ _ (by omega))).trans (HSC.out w' hk).1, ((setFar _ _ _ _ _ _ (by omega)).trans (setFar _ _ _ _ _ _ (by omega))).trans (HSC.out w' hk).2⟩)
      have hk := Keeps.refl W9
      clear KA KB
      go_region_held3 (fun w' => w'.cell? ⟨w2.heap.size, 0, none⟩ = some (.int .i64 a) ∧ w'.cell? ⟨w2.heap.size, 1, none⟩ = some (.int .i64 b)) (first | exact HSC.out _ hk | exact HSC.out _ hk.drew | exact HU.out _ _ _ hk | go_keep) (first | (go_at_call 73; (first | (with_reducible refine (KA2.out _ (by first | assumption | exact Keeps.drew (by assumption) | exact Keeps.drewN (by assumption) _)).mono ?_) | (with_reducible refine (KB2.out _ (by first | assumption | exact Keeps.drew (by assumption) | exact Keeps.drewN (by assumption) _)).mono ?_) | fail "C"); rintro e w5 ⟨rfl, hk⟩; obtain ⟨y0, y1, y2, y3, y4, y5, y6, y7, y8, y9, y10, y11, y12, y13⟩ := HS.out _ (hk9.trans hk)) | fail "ARM")
      all_goals
        go_wp2
        have hkf := (HB.out.trans hk9).trans hk
        exact bodyPost_ret (v := .tuple #[.agg #[.int .i64 ra, .int .i64 rb], .bool true]) (by simp [results, Tryz.results57, go_sem, *]) rfl ⟨rfl, hkf.far2 (by omega) _ _⟩
end Go.Proofs.YtdodgnpjlicnoaaGreat
