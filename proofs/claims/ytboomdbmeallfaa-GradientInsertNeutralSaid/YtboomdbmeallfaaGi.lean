/- Contracts of SpreadColorAt, of package gradient and of reference 31. -/
import Derived.Test.YtboomdbmeallfaaGh
namespace Go.Proofs.Ytboomdbmeallfaa
open Go.RowKit
set_option linter.unusedVariables false
set_option linter.unusedSimpArgs false
def scAt (L : List St) (s t : Int) : Int × Int × Int × Int := if s < 1 ∨ 3 < s then (0, 0, 0, 0) else cAt L (spI t s)
set_option maxRecDepth 100000 in
set_option maxHeartbeats 2000000 in
theorem spreadCol_any (A : Option Addr) (n c : Nat) (L : List St) (s t : Int) (w : World) (h : Sts w A n c L) (l : -9223372036854775808 ≤ t) (u : t ≤ 9223372036854775807) :
    Calls Try.prog 20 #[.slice A n c, .int .i64 s, .int .i64 t] w fun e w' => e = .returned (colV (scAt L s t)) ∧ Keeps w w' := by
  have HS := Lib.hid (show ∀ w', Keeps (w.alloc (.cells #[.int .u8 0, .int .u8 0, .int .u8 0, .int .u8 0] 28)) w' → w'.cell? ⟨w.heap.size, 0, none⟩ = some (.int .u8 0) ∧ w'.frozen? ⟨w.heap.size, 0, none⟩ = false ∧ w'.cell? ⟨w.heap.size, 1, none⟩ = some (.int .u8 0) ∧ w'.frozen? ⟨w.heap.size, 1, none⟩ = false ∧ w'.cell? ⟨w.heap.size, 2, none⟩ = some (.int .u8 0) ∧ w'.frozen? ⟨w.heap.size, 2, none⟩ = false ∧ w'.cell? ⟨w.heap.size, 3, none⟩ = some (.int .u8 0) ∧ w'.frozen? ⟨w.heap.size, 3, none⟩ = false from fun w' hk => ⟨(hk.cell (p := ⟨w.heap.size, 0, none⟩) (by first | (simp; done) | (simp; omega))).trans (by simp [go_sem]), (hk.frozen (p := ⟨w.heap.size, 0, none⟩) (by first | (simp; done) | (simp; omega))).trans (by simp [go_sem]), (hk.cell (p := ⟨w.heap.size, 1, none⟩) (by first | (simp; done) | (simp; omega))).trans (by simp [go_sem]), (hk.frozen (p := ⟨w.heap.size, 1, none⟩) (by first | (simp; done) | (simp; omega))).trans (by simp [go_sem]), (hk.cell (p := ⟨w.heap.size, 2, none⟩) (by first | (simp; done) | (simp; omega))).trans (by simp [go_sem]), (hk.frozen (p := ⟨w.heap.size, 2, none⟩) (by first | (simp; done) | (simp; omega))).trans (by simp [go_sem]), (hk.cell (p := ⟨w.heap.size, 3, none⟩) (by first | (simp; done) | (simp; omega))).trans (by simp [go_sem]), (hk.frozen (p := ⟨w.heap.size, 3, none⟩) (by first | (simp; done) | (simp; omega))).trans (by simp [go_sem])⟩)
  have HB := Lib.hid (show Keeps w (w.alloc (.cells #[.int .u8 0, .int .u8 0, .int .u8 0, .int .u8 0] 28)) from (by (repeat (first | (with_reducible exact Keeps.refl _) | (with_reducible assumption) | (with_reducible refine Keeps.drewN ?_ _) | (with_reducible refine Keeps.drew ?_) | (with_reducible refine Keeps.alloc ?_ _) | (with_reducible refine Keeps.setNew ?_ ?_ _))) <;> (dsimp only; omega)))
  have hk0 := Keeps.refl (w.alloc (.cells #[.int .u8 0, .int .u8 0, .int .u8 0, .int .u8 0] 28))
  have b := spI_bd t s
  have K1 := Lib.hid (fun w => spread_any t s w l u)
  have K2 := Lib.hid (fun w' hk => keepk (w0 := (w.alloc (.cells #[.int .u8 0, .int .u8 0, .int .u8 0, .int .u8 0] 28))) (colorAt_any A n c L (spI t s) w' (h.keep (HB.out.trans hk)) (by omega) (by omega)) hk)
  unfold scAt
  generalize spI t s = x at *
  clear h l u b
  by_cases hb : s < 1 ∨ 3 < s
  · rw [if_pos hb]
    clear K1 K2
    rcases hb with hb | hb
    all_goals
      go_enter Try.func20, Try.ntmps20
      go_wp2_with fail
      all_goals
        exact bodyPost_ret (v := .agg #[.int .u8 0, .int .u8 0, .int .u8 0, .int .u8 0]) (by simp [results, Try.results20, go_sem, *]) rfl ⟨rfl, HB.out⟩
  · rw [if_neg hb]
    have hq : s = 1 ∨ s = 2 ∨ s = 3 := by omega
    clear hb
    generalize cAt L x = y at *
    unfold colV at K2
    rcases hq with rfl | rfl | rfl
    all_goals
      go_enter Try.func20, Try.ntmps20
      go_wp2_with (first | (go_at_call 13; (with_reducible refine (K1.out _).mono ?_); rintro e w2 ⟨rfl, rfl⟩) | (go_at_call 17; (with_reducible refine (K2.out _ (by assumption)).mono ?_); rintro e w3 ⟨rfl, hk⟩; obtain ⟨y0, y1, y2, y3, y4, y5, y6, y7⟩ := HS.out _ hk))
      exact bodyPost_ret (v := .agg #[.int .u8 y.1, .int .u8 y.2.1, .int .u8 y.2.2.1, .int .u8 y.2.2.2]) (by simp [results, Try.results20, go_sem, colV, *]) rfl ⟨rfl, (HB.out.trans hk).far4 (by omega) _ _ _ _⟩
set_option maxRecDepth 100000 in
set_option maxHeartbeats 2000000 in
theorem rspreadCol_any (A : Option Addr) (n c : Nat) (L : List St) (s t : Int) (w : World) (h : Sts w A n c L) (l : -9223372036854775808 ≤ t) (u : t ≤ 9223372036854775807) :
    Calls Try.prog 21 #[.slice A n c, .int .i64 s, .int .i64 t] w fun e w' => e = .returned (colV (scAt L s t)) ∧ Keeps w w' := by
  have HS := Lib.hid (show ∀ w', Keeps (w.alloc (.cells #[.int .u8 0, .int .u8 0, .int .u8 0, .int .u8 0] 28)) w' → w'.cell? ⟨w.heap.size, 0, none⟩ = some (.int .u8 0) ∧ w'.frozen? ⟨w.heap.size, 0, none⟩ = false ∧ w'.cell? ⟨w.heap.size, 1, none⟩ = some (.int .u8 0) ∧ w'.frozen? ⟨w.heap.size, 1, none⟩ = false ∧ w'.cell? ⟨w.heap.size, 2, none⟩ = some (.int .u8 0) ∧ w'.frozen? ⟨w.heap.size, 2, none⟩ = false ∧ w'.cell? ⟨w.heap.size, 3, none⟩ = some (.int .u8 0) ∧ w'.frozen? ⟨w.heap.size, 3, none⟩ = false from fun w' hk => ⟨(hk.cell (p := ⟨w.heap.size, 0, none⟩) (by first | (simp; done) | (simp; omega))).trans (by simp [go_sem]), (hk.frozen (p := ⟨w.heap.size, 0, none⟩) (by first | (simp; done) | (simp; omega))).trans (by simp [go_sem]), (hk.cell (p := ⟨w.heap.size, 1, none⟩) (by first | (simp; done) | (simp; omega))).trans (by simp [go_sem]), (hk.frozen (p := ⟨w.heap.size, 1, none⟩) (by first | (simp; done) | (simp; omega))).trans (by simp [go_sem]), (hk.cell (p := ⟨w.heap.size, 2, none⟩) (by first | (simp; done) | (simp; omega))).trans (by simp [go_sem]), (hk.frozen (p := ⟨w.heap.size, 2, none⟩) (by first | (simp; done) | (simp; omega))).trans (by simp [go_sem]), (hk.cell (p := ⟨w.heap.size, 3, none⟩) (by first | (simp; done) | (simp; omega))).trans (by simp [go_sem]), (hk.frozen (p := ⟨w.heap.size, 3, none⟩) (by first | (simp; done) | (simp; omega))).trans (by simp [go_sem])⟩)
  have HB := Lib.hid (show Keeps w (w.alloc (.cells #[.int .u8 0, .int .u8 0, .int .u8 0, .int .u8 0] 28)) from (by (repeat (first | (with_reducible exact Keeps.refl _) | (with_reducible assumption) | (with_reducible refine Keeps.drewN ?_ _) | (with_reducible refine Keeps.drew ?_) | (with_reducible refine Keeps.alloc ?_ _) | (with_reducible refine Keeps.setNew ?_ ?_ _))) <;> (dsimp only; omega)))
  have hk0 := Keeps.refl (w.alloc (.cells #[.int .u8 0, .int .u8 0, .int .u8 0, .int .u8 0] 28))
  have b := spI_bd t s
  have K1 := Lib.hid (fun w => rspread_any t s w l u)
  have K2 := Lib.hid (fun w' hk => keepk (w0 := (w.alloc (.cells #[.int .u8 0, .int .u8 0, .int .u8 0, .int .u8 0] 28))) (rcolorAt_any A n c L (spI t s) w' (h.keep (HB.out.trans hk)) (by omega) (by omega)) hk)
  unfold scAt
  generalize spI t s = x at *
  clear h l u b
  by_cases hb : s < 1 ∨ 3 < s
  · rw [if_pos hb]
    clear K1 K2
    have t1 : (s != 1) = true := bne_iff_ne.2 (by omega)
    have t2 : (s != 2) = true := bne_iff_ne.2 (by omega)
    have t3 : (s != 3) = true := bne_iff_ne.2 (by omega)
    have u1 : ¬ s = 1 := by omega
    have u2 : ¬ s = 2 := by omega
    have u3 : ¬ s = 3 := by omega
    clear hb
    go_enter Try.func21, Try.ntmps21
    go_wp2_with fail
    exact bodyPost_ret (v := .agg #[.int .u8 0, .int .u8 0, .int .u8 0, .int .u8 0]) (by simp [results, Try.results21, go_sem, *]) rfl ⟨rfl, HB.out⟩
  · rw [if_neg hb]
    have hq : s = 1 ∨ s = 2 ∨ s = 3 := by omega
    clear hb
    generalize cAt L x = y at *
    unfold colV at K2
    rcases hq with rfl | rfl | rfl
    all_goals
      go_enter Try.func21, Try.ntmps21
      go_wp2_with (first | (go_at_call 23; (with_reducible refine (K1.out _).mono ?_); rintro e w2 ⟨rfl, rfl⟩) | (go_at_call 19; (with_reducible refine (K2.out _ (by assumption)).mono ?_); rintro e w3 ⟨rfl, hk⟩; obtain ⟨y0, y1, y2, y3, y4, y5, y6, y7⟩ := HS.out _ hk))
      exact bodyPost_ret (v := .agg #[.int .u8 y.1, .int .u8 y.2.1, .int .u8 y.2.2.1, .int .u8 y.2.2.2]) (by simp [results, Try.results21, go_sem, colV, *]) rfl ⟨rfl, (HB.out.trans hk).far4 (by omega) _ _ _ _⟩
end Go.Proofs.Ytboomdbmeallfaa
