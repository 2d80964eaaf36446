/- Contracts of Luminance, hue and ToHSL, of package color and of reference 27. -/
import Derived.Test.YtjfimlcljbdglaaOd
import Derived.Test.YtjfimlcljbdglaaCf
import Derived.Test.YtjfimlcljbdglaaRc
namespace Go.Proofs.Ytjfimlcljbdglaa
open Go.RowKit
set_option linter.unusedVariables false
set_option linter.unusedSimpArgs false
def lumI (r g b : Int) : Int := dvr (2126 * r + 7152 * g + 722 * b) 10000
theorem lumI_bd (r g b : Int) (h0 : u8b r) (h1 : u8b g) (h2 : u8b b) : 0 ≤ lumI r g b ∧ lumI r g b ≤ 255 := by
  unfold u8b at *
  unfold lumI
  obtain ⟨h3, h4⟩ := dvr_off2 (2126 * r + 7152 * g + 722 * b) 10000 (by omega) (by omega)
  generalize dvr (2126 * r + 7152 * g + 722 * b) 10000 = x at *
  omega
theorem lumI_gray (r : Int) (h0 : u8b r) : lumI r r r = r := by
  unfold u8b at *
  unfold lumI
  obtain ⟨h3, h4⟩ := dvr_off2 (2126 * r + 7152 * r + 722 * r) 10000 (by omega) (by omega)
  generalize dvr (2126 * r + 7152 * r + 722 * r) 10000 = x at *
  omega
set_option maxHeartbeats 1000000 in
theorem lum_any (r g b t : Int) (w : World) (h0 : u8b r) (h1 : u8b g) (h2 : u8b b) :
    Calls Try.prog 38 #[.agg #[.int .u8 r, .int .u8 g, .int .u8 b, .int .u8 t]] w fun e w' => e = .returned (.int .u8 (lumI r g b)) ∧ Keeps w w' := by
  have hb := lumI_bd r g b h0 h1 h2
  obtain ⟨r0, r1⟩ := h0
  obtain ⟨g0, g1⟩ := h1
  obtain ⟨b0, b1⟩ := h2
  have HS := Lib.hid (show ∀ w', Keeps (w.alloc (.cells #[.int .u8 r, .int .u8 g, .int .u8 b, .int .u8 t] 23)) w' → w'.cell? ⟨w.heap.size, 0, none⟩ = some (.int .u8 r) ∧ w'.frozen? ⟨w.heap.size, 0, none⟩ = false ∧ w'.cell? ⟨w.heap.size, 1, none⟩ = some (.int .u8 g) ∧ w'.frozen? ⟨w.heap.size, 1, none⟩ = false ∧ w'.cell? ⟨w.heap.size, 2, none⟩ = some (.int .u8 b) ∧ w'.frozen? ⟨w.heap.size, 2, none⟩ = false ∧ w'.cell? ⟨w.heap.size, 3, none⟩ = some (.int .u8 t) ∧ w'.frozen? ⟨w.heap.size, 3, none⟩ = false from fun w' hk => ⟨(hk.cell (p := ⟨w.heap.size, 0, none⟩) (by first | (simp; done) | (simp; omega))).trans (by simp [go_sem]), (hk.frozen (p := ⟨w.heap.size, 0, none⟩) (by first | (simp; done) | (simp; omega))).trans (by simp [go_sem]), (hk.cell (p := ⟨w.heap.size, 1, none⟩) (by first | (simp; done) | (simp; omega))).trans (by simp [go_sem]), (hk.frozen (p := ⟨w.heap.size, 1, none⟩) (by first | (simp; done) | (simp; omega))).trans (by simp [go_sem]), (hk.cell (p := ⟨w.heap.size, 2, none⟩) (by first | (simp; done) | (simp; omega))).trans (by simp [go_sem]), (hk.frozen (p := ⟨w.heap.size, 2, none⟩) (by first | (simp; done) | (simp; omega))).trans (by simp [go_sem]), (hk.cell (p := ⟨w.heap.size, 3, none⟩) (by first | (simp; done) | (simp; omega))).trans (by simp [go_sem]), (hk.frozen (p := ⟨w.heap.size, 3, none⟩) (by first | (simp; done) | (simp; omega))).trans (by simp [go_sem])⟩)
  have HB := Lib.hid (show Keeps w (w.alloc (.cells #[.int .u8 r, .int .u8 g, .int .u8 b, .int .u8 t] 23)) from (by (repeat (first | (with_reducible exact Keeps.refl _) | (with_reducible assumption) | (with_reducible refine Keeps.drewN ?_ _) | (with_reducible refine Keeps.drew ?_) | (with_reducible refine Keeps.alloc ?_ _) | (with_reducible refine Keeps.setNew ?_ ?_ _))) <;> (dsimp only; omega)))
  have hk0 := Keeps.refl (w.alloc (.cells #[.int .u8 r, .int .u8 g, .int .u8 b, .int .u8 t] 23))
  have H := Lib.hid (fun w' hk => keepk (w0 := (w.alloc (.cells #[.int .u8 r, .int .u8 g, .int .u8 b, .int .u8 t] 23))) (dvr_any (2126 * r + 7152 * g + 722 * b) 10000 w' (by omega) (by omega) (by omega) (by omega)) hk)
  rw [show dvr (2126 * r + 7152 * g + 722 * b) 10000 = lumI r g b from rfl] at H
  generalize lumI r g b = x at *
  go_enter Try.func38, Try.ntmps38
  go_wp2_with (go_at_call 50; (first | (with_reducible refine (H.out _ (by first | assumption | exact Keeps.drew (by assumption) | exact Keeps.drewN (by assumption) _)).mono ?_)); rintro e w1 ⟨rfl, hk⟩; skip)
  go_ret
  exact ⟨rfl, HB.out.trans (by assumption)⟩
set_option maxHeartbeats 1000000 in
theorem rlum_any (r g b t : Int) (w : World) (h0 : u8b r) (h1 : u8b g) (h2 : u8b b) :
    Calls Try.prog 39 #[.agg #[.int .u8 r, .int .u8 g, .int .u8 b, .int .u8 t]] w fun e w' => e = .returned (.int .u8 (lumI r g b)) ∧ Keeps w w' := by
  have hb := lumI_bd r g b h0 h1 h2
  obtain ⟨r0, r1⟩ := h0
  obtain ⟨g0, g1⟩ := h1
  obtain ⟨b0, b1⟩ := h2
  have HS := Lib.hid (show ∀ w', Keeps (w.alloc (.cells #[.int .u8 r, .int .u8 g, .int .u8 b, .int .u8 t] 23)) w' → w'.cell? ⟨w.heap.size, 0, none⟩ = some (.int .u8 r) ∧ w'.frozen? ⟨w.heap.size, 0, none⟩ = false ∧ w'.cell? ⟨w.heap.size, 1, none⟩ = some (.int .u8 g) ∧ w'.frozen? ⟨w.heap.size, 1, none⟩ = false ∧ w'.cell? ⟨w.heap.size, 2, none⟩ = some (.int .u8 b) ∧ w'.frozen? ⟨w.heap.size, 2, none⟩ = false ∧ w'.cell? ⟨w.heap.size, 3, none⟩ = some (.int .u8 t) ∧ w'.frozen? ⟨w.heap.size, 3, none⟩ = false from fun w' hk => ⟨(hk.cell (p := ⟨w.heap.size, 0, none⟩) (by first | (simp; done) | (simp; omega))).trans (by simp [go_sem]), (hk.frozen (p := ⟨w.heap.size, 0, none⟩) (by first | (simp; done) | (simp; omega))).trans (by simp [go_sem]), (hk.cell (p := ⟨w.heap.size, 1, none⟩) (by first | (simp; done) | (simp; omega))).trans (by simp [go_sem]), (hk.frozen (p := ⟨w.heap.size, 1, none⟩) (by first | (simp; done) | (simp; omega))).trans (by simp [go_sem]), (hk.cell (p := ⟨w.heap.size, 2, none⟩) (by first | (simp; done) | (simp; omega))).trans (by simp [go_sem]), (hk.frozen (p := ⟨w.heap.size, 2, none⟩) (by first | (simp; done) | (simp; omega))).trans (by simp [go_sem]), (hk.cell (p := ⟨w.heap.size, 3, none⟩) (by first | (simp; done) | (simp; omega))).trans (by simp [go_sem]), (hk.frozen (p := ⟨w.heap.size, 3, none⟩) (by first | (simp; done) | (simp; omega))).trans (by simp [go_sem])⟩)
  have HB := Lib.hid (show Keeps w (w.alloc (.cells #[.int .u8 r, .int .u8 g, .int .u8 b, .int .u8 t] 23)) from (by (repeat (first | (with_reducible exact Keeps.refl _) | (with_reducible assumption) | (with_reducible refine Keeps.drewN ?_ _) | (with_reducible refine Keeps.drew ?_) | (with_reducible refine Keeps.alloc ?_ _) | (with_reducible refine Keeps.setNew ?_ ?_ _))) <;> (dsimp only; omega)))
  have hk0 := Keeps.refl (w.alloc (.cells #[.int .u8 r, .int .u8 g, .int .u8 b, .int .u8 t] 23))
  have H := Lib.hid (fun w' hk => keepk (w0 := (w.alloc (.cells #[.int .u8 r, .int .u8 g, .int .u8 b, .int .u8 t] 23))) (rdvr_any (2126 * r + 7152 * g + 722 * b) 10000 w' (by omega) (by omega) (by omega) (by omega)) hk)
  rw [show dvr (2126 * r + 7152 * g + 722 * b) 10000 = lumI r g b from rfl] at H
  generalize lumI r g b = x at *
  go_enter Try.func39, Try.ntmps39
  go_wp2_with (go_at_call 63; (first | (with_reducible refine (H.out _ (by first | assumption | exact Keeps.drew (by assumption) | exact Keeps.drewN (by assumption) _)).mono ?_)); rintro e w1 ⟨rfl, hk⟩; skip)
  go_ret
  exact ⟨rfl, HB.out.trans (by assumption)⟩
end Go.Proofs.Ytjfimlcljbdglaa
