/- The examples of chapter 11 hold. -/
import Derived.Test.YtpmhmaiagjdpeaaVl
namespace Go.Proofs.Ytpmhmaiagjdpeaa
open Go.RowKit
set_option linter.unusedVariables false
set_option maxRecDepth 100000 in
set_option maxHeartbeats 4000000 in
theorem example11 (w0 w : World) (hK0 : Keeps w0 w) : Calls Try.prog 13 #[] w fun e w' => e = .returned (.bool true) ∧ Keeps w0 w' := by
  have g1 := ptGuard
  have HS := Lib.hid (show ∀ w', Keeps (w.alloc (.cells #[.int .i64 9223372036854775807, .int .i64 (-9223372036854775808)] 23)) w' → w'.cell? ⟨w.heap.size, 0, none⟩ = some (.int .i64 9223372036854775807) ∧ w'.frozen? ⟨w.heap.size, 0, none⟩ = false ∧ w'.cell? ⟨w.heap.size, 1, none⟩ = some (.int .i64 (-9223372036854775808)) ∧ w'.frozen? ⟨w.heap.size, 1, none⟩ = false from fun w' hk => ⟨(hk.cell (p := ⟨w.heap.size, 0, none⟩) (by first | (simp; done) | (simp; omega))).trans (by simp [go_sem]), (hk.frozen (p := ⟨w.heap.size, 0, none⟩) (by first | (simp; done) | (simp; omega))).trans (by simp [go_sem]), (hk.cell (p := ⟨w.heap.size, 1, none⟩) (by first | (simp; done) | (simp; omega))).trans (by simp [go_sem]), (hk.frozen (p := ⟨w.heap.size, 1, none⟩) (by first | (simp; done) | (simp; omega))).trans (by simp [go_sem])⟩)
  have HB := Lib.hid (show Keeps w (w.alloc (.cells #[.int .i64 9223372036854775807, .int .i64 (-9223372036854775808)] 23)) from (by (repeat (first | (with_reducible exact Keeps.refl _) | (with_reducible assumption) | (with_reducible refine Keeps.drewN ?_ _) | (with_reducible refine Keeps.drew ?_) | (with_reducible refine Keeps.alloc ?_ _) | (with_reducible refine Keeps.setNew ?_ ?_ _))) <;> (dsimp only; omega)))
  have hk0 := Keeps.refl (w.alloc (.cells #[.int .i64 9223372036854775807, .int .i64 (-9223372036854775808)] 23))
  have g2 := ptEql
  have h1 := fun w => length_any 3 4 w
  rw [show ((lenI 3 4 : Nat) : Int) = 1280 by decide +kernel] at h1
  have h2 := fun w => lerp_any 0 0 3 0 1 2 w
  rw [show lerpI 0 3 1 2 = 2 by decide +kernel, show lerpI 0 0 1 2 = 0 by decide +kernel] at h2
  have h3 := fun w => add_any 9223372036854775807 (-9223372036854775808) 1 0 w
  rw [show hc 9223372036854775807 + hc 1 = 1048577 by decide +kernel, show hc (-9223372036854775808) + hc 0 = -1048576 by decide +kernel] at h3
  have h4 := fun w => valid_any 9223372036854775807 (-9223372036854775808) w
  rw [show validB 9223372036854775807 (-9223372036854775808) = false by decide +kernel] at h4
  have h5 := fun w => valid_any 1048576 0 w
  rw [show validB 1048576 0 = true by decide +kernel] at h5
  have h6 := fun w => orientation_any (-1048576) 0 1048576 0 0 1 w
  rw [show oriI (-1048576) 0 1048576 0 0 1 = 1 by decide +kernel] at h6
  have h7 := fun w => onseg_any 0 0 4 2 2 1 w
  rw [show onB 0 0 4 2 2 1 = true by decide +kernel] at h7
  have h8 := fun w => less_any 5 0 0 1 w
  rw [show lessB 5 0 0 1 = true by decide +kernel] at h8
  have H1 := Lib.hid h1
  have H2 := Lib.hid h2
  have H3 := Lib.hid h3
  have H4 := Lib.hid h4
  have H5 := Lib.hid h5
  have H6 := Lib.hid h6
  have H7 := Lib.hid h7
  have H8 := Lib.hid h8
  clear h1 h2 h3 h4 h5 h6 h7 h8
  go_enter Try.func13, Try.ntmps13
  go_wp2_with (first | (go_at_call 29; refine (keep (H1.out _) (by first | assumption | exact Keeps.drew (by assumption) | exact Keeps.drewN (by assumption) _)).mono ?_; rintro e w1 ⟨rfl, hk⟩; have hj := Keeps.trans HB.out hk; have hk := hk; obtain ⟨y0, y1, y2, y3⟩ := HS.out _ hk) | (go_at_call 14; refine (keep (H2.out _) (by first | assumption | exact Keeps.drew (by assumption) | exact Keeps.drewN (by assumption) _)).mono ?_; rintro e w1 ⟨rfl, hk⟩; have hj := Keeps.trans HB.out hk; have hk := hk; obtain ⟨y0, y1, y2, y3⟩ := HS.out _ hk) | (go_at_call 19; refine (keep (H3.out _) (by first | assumption | exact Keeps.drew (by assumption) | exact Keeps.drewN (by assumption) _)).mono ?_; rintro e w1 ⟨rfl, hk⟩; have hj := Keeps.trans HB.out hk; have hk := hk; obtain ⟨y0, y1, y2, y3⟩ := HS.out _ hk) | (go_at_call 16; refine (keep (H4.out _) (by first | assumption | exact Keeps.drew (by assumption) | exact Keeps.drewN (by assumption) _)).mono ?_; rintro e w1 ⟨rfl, hk⟩; have hj := Keeps.trans HB.out hk; have hk := hk; obtain ⟨y0, y1, y2, y3⟩ := HS.out _ hk) | (go_at_call 16; refine (keep (H5.out _) (by first | assumption | exact Keeps.drew (by assumption) | exact Keeps.drewN (by assumption) _)).mono ?_; rintro e w1 ⟨rfl, hk⟩; have hj := Keeps.trans HB.out hk; have hk := hk; obtain ⟨y0, y1, y2, y3⟩ := HS.out _ hk) | (go_at_call 9; refine (keep (H6.out _) (by first | assumption | exact Keeps.drew (by assumption) | exact Keeps.drewN (by assumption) _)).mono ?_; rintro e w1 ⟨rfl, hk⟩; have hj := Keeps.trans HB.out hk; have hk := hk; obtain ⟨y0, y1, y2, y3⟩ := HS.out _ hk) | (go_at_call 11; refine (keep (H7.out _) (by first | assumption | exact Keeps.drew (by assumption) | exact Keeps.drewN (by assumption) _)).mono ?_; rintro e w1 ⟨rfl, hk⟩; have hj := Keeps.trans HB.out hk; have hk := hk; obtain ⟨y0, y1, y2, y3⟩ := HS.out _ hk) | (go_at_call 31; refine (keep (H8.out _) (by first | assumption | exact Keeps.drew (by assumption) | exact Keeps.drewN (by assumption) _)).mono ?_; rintro e w1 ⟨rfl, hk⟩; have hj := Keeps.trans HB.out hk; have hk := hk; obtain ⟨y0, y1, y2, y3⟩ := HS.out _ hk))
  go_ret
  exact ⟨rfl, Keeps.trans hK0 (Keeps.trans HB.out (by (repeat (first | (with_reducible exact Keeps.refl _) | (with_reducible assumption) | (with_reducible refine Keeps.drewN ?_ _) | (with_reducible refine Keeps.drew ?_) | (with_reducible refine Keeps.alloc ?_ _) | (with_reducible refine Keeps.setNew ?_ ?_ _))) <;> (dsimp only; omega)))⟩
end Go.Proofs.Ytpmhmaiagjdpeaa
