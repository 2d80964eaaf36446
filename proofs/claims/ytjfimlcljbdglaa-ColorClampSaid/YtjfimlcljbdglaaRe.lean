/- Contract of reference 27's Unpremultiply. -/
import Derived.Test.YtjfimlcljbdglaaRd
namespace Go.Proofs.Ytjfimlcljbdglaa
open Go.RowKit
set_option linter.unusedVariables false
set_option linter.unusedSimpArgs false
set_option maxHeartbeats 1000000 in
theorem runprem_zero (p0 p1 p2 : Int) (w : World) :
    Calls Try.prog 25 #[.agg #[.int .u8 p0, .int .u8 p1, .int .u8 p2, .int .u8 0]] w fun e w' => e = .returned (.agg #[.int .u8 0, .int .u8 0, .int .u8 0, .int .u8 0]) ∧ Keeps w w' := by
  go_enter Try.func25, Try.ntmps25
  go_wp2
  exact bodyPost_ret (v := .agg #[.int .u8 0, .int .u8 0, .int .u8 0, .int .u8 0]) (by simp [results, Try.results25, go_sem, *]) rfl ⟨rfl, (by (repeat (first | (with_reducible exact Keeps.refl _) | (with_reducible assumption) | (with_reducible refine Keeps.drewN ?_ _) | (with_reducible refine Keeps.drew ?_) | (with_reducible refine Keeps.alloc ?_ _) | (with_reducible refine Keeps.setNew ?_ ?_ _))) <;> ((try dsimp only); omega))⟩
theorem box4f (w1 : World) (u v x y : Value) (t b : Nat) (hb : b = w1.heap.size) : ∀ w', Keeps (w1.alloc (.cells #[u, v, x, y] t)) w' → w'.cell? ⟨b, 0, none⟩ = some u ∧ w'.cell? ⟨b, 1, none⟩ = some v ∧ w'.cell? ⟨b, 2, none⟩ = some x ∧ w'.cell? ⟨b, 3, none⟩ = some y := by
  subst hb
  intro w' hk
  exact ⟨(hk.cell (by simp)).trans (by simp [go_sem]), (hk.cell (by simp)).trans (by simp [go_sem]), (hk.cell (by simp)).trans (by simp [go_sem]), (hk.cell (by simp)).trans (by simp [go_sem])⟩
set_option maxRecDepth 100000 in
set_option maxHeartbeats 2000000 in
theorem runprem_any (p0 p1 p2 p3 : Int) (w : World) (h0 : u8b p0) (h1 : u8b p1) (h2 : u8b p2) (h3 : u8b p3) (hp : p3 ≠ 0) :
    Calls Try.prog 25 #[.agg #[.int .u8 p0, .int .u8 p1, .int .u8 p2, .int .u8 p3]] w fun e w' => e = .returned (.agg #[.int .u8 (un8 (min p0 p3) p3), .int .u8 (un8 (min p1 p3) p3), .int .u8 (un8 (min p2 p3) p3), .int .u8 p3]) ∧ Keeps w w' := by
  have HS := Lib.hid (show ∀ w', Keeps ((w.alloc (.cells #[.int .u8 p0, .int .u8 p1, .int .u8 p2, .int .u8 p3] 30)).alloc (.cells #[.int .u8 0, .int .u8 0, .int .u8 0, .int .u8 0] 23)) w' → w'.cell? ⟨w.heap.size, 0, none⟩ = some (.int .u8 p0) ∧ w'.frozen? ⟨w.heap.size, 0, none⟩ = false ∧ w'.cell? ⟨w.heap.size, 1, none⟩ = some (.int .u8 p1) ∧ w'.frozen? ⟨w.heap.size, 1, none⟩ = false ∧ w'.cell? ⟨w.heap.size, 2, none⟩ = some (.int .u8 p2) ∧ w'.frozen? ⟨w.heap.size, 2, none⟩ = false ∧ w'.cell? ⟨w.heap.size, 3, none⟩ = some (.int .u8 p3) ∧ w'.frozen? ⟨w.heap.size, 3, none⟩ = false ∧ w'.cell? ⟨w.heap.size + 1, 0, none⟩ = some (.int .u8 0) ∧ w'.frozen? ⟨w.heap.size + 1, 0, none⟩ = false ∧ w'.cell? ⟨w.heap.size + 1, 1, none⟩ = some (.int .u8 0) ∧ w'.frozen? ⟨w.heap.size + 1, 1, none⟩ = false ∧ w'.cell? ⟨w.heap.size + 1, 2, none⟩ = some (.int .u8 0) ∧ w'.frozen? ⟨w.heap.size + 1, 2, none⟩ = false ∧ w'.cell? ⟨w.heap.size + 1, 3, none⟩ = some (.int .u8 0) ∧ w'.frozen? ⟨w.heap.size + 1, 3, none⟩ = false from fun w' hk => ⟨(hk.cell (p := ⟨w.heap.size, 0, none⟩) (by first | (simp; done) | (simp; omega))).trans (by simp [go_sem]), (hk.frozen (p := ⟨w.heap.size, 0, none⟩) (by first | (simp; done) | (simp; omega))).trans (by simp [go_sem]), (hk.cell (p := ⟨w.heap.size, 1, none⟩) (by first | (simp; done) | (simp; omega))).trans (by simp [go_sem]), (hk.frozen (p := ⟨w.heap.size, 1, none⟩) (by first | (simp; done) | (simp; omega))).trans (by simp [go_sem]), (hk.cell (p := ⟨w.heap.size, 2, none⟩) (by first | (simp; done) | (simp; omega))).trans (by simp [go_sem]), (hk.frozen (p := ⟨w.heap.size, 2, none⟩) (by first | (simp; done) | (simp; omega))).trans (by simp [go_sem]), (hk.cell (p := ⟨w.heap.size, 3, none⟩) (by first | (simp; done) | (simp; omega))).trans (by simp [go_sem]), (hk.frozen (p := ⟨w.heap.size, 3, none⟩) (by first | (simp; done) | (simp; omega))).trans (by simp [go_sem]), (hk.cell (p := ⟨w.heap.size + 1, 0, none⟩) (by first | (simp; done) | (simp; omega))).trans (by simp [go_sem]), (hk.frozen (p := ⟨w.heap.size + 1, 0, none⟩) (by first | (simp; done) | (simp; omega))).trans (by simp [go_sem]), (hk.cell (p := ⟨w.heap.size + 1, 1, none⟩) (by first | (simp; done) | (simp; omega))).trans (by simp [go_sem]), (hk.frozen (p := ⟨w.heap.size + 1, 1, none⟩) (by first | (simp; done) | (simp; omega))).trans (by simp [go_sem]), (hk.cell (p := ⟨w.heap.size + 1, 2, none⟩) (by first | (simp; done) | (simp; omega))).trans (by simp [go_sem]), (hk.frozen (p := ⟨w.heap.size + 1, 2, none⟩) (by first | (simp; done) | (simp; omega))).trans (by simp [go_sem]), (hk.cell (p := ⟨w.heap.size + 1, 3, none⟩) (by first | (simp; done) | (simp; omega))).trans (by simp [go_sem]), (hk.frozen (p := ⟨w.heap.size + 1, 3, none⟩) (by first | (simp; done) | (simp; omega))).trans (by simp [go_sem])⟩)
  have HB := Lib.hid (show Keeps w ((w.alloc (.cells #[.int .u8 p0, .int .u8 p1, .int .u8 p2, .int .u8 p3] 30)).alloc (.cells #[.int .u8 0, .int .u8 0, .int .u8 0, .int .u8 0] 23)) from (by (repeat (first | (with_reducible exact Keeps.refl _) | (with_reducible assumption) | (with_reducible refine Keeps.drewN ?_ _) | (with_reducible refine Keeps.drew ?_) | (with_reducible refine Keeps.alloc ?_ _) | (with_reducible refine Keeps.setNew ?_ ?_ _))) <;> (dsimp only; omega)))
  have hk0 := Keeps.refl ((w.alloc (.cells #[.int .u8 p0, .int .u8 p1, .int .u8 p2, .int .u8 p3] 30)).alloc (.cells #[.int .u8 0, .int .u8 0, .int .u8 0, .int .u8 0] 23))
  have GC := Lib.hid (fun w => rclamp27_any p0 p1 p2 p3 w h0 h1 h2 h3)
  have m0 : u8b (min p0 p3) := by unfold u8b at *; omega
  have m1 : u8b (min p1 p3) := by unfold u8b at *; omega
  have m2 : u8b (min p2 p3) := by unfold u8b at *; omega
  have U0 := Lib.hid (fun w => unscale_any (min p0 p3) p3 w m0 h3)
  have U1 := Lib.hid (fun w => unscale_any (min p1 p3) p3 w m1 h3)
  have U2 := Lib.hid (fun w => unscale_any (min p2 p3) p3 w m2 h3)
  have t0 : (p3 == 0) = false := by simpa using hp
  clear h0 h1 h2 h3 hp m0 m1 m2
  generalize un8 (min p0 p3) p3 = r0 at *
  generalize un8 (min p1 p3) p3 = r1 at *
  generalize un8 (min p2 p3) p3 = r2 at *
  generalize min p0 p3 = m0 at *
  generalize min p1 p3 = m1 at *
  generalize min p2 p3 = m2 at *
  go_enter Try.func25, Try.ntmps25
  go_wp2_with (go_at_call 23; (with_reducible refine (GC.out _).mono ?_); rintro e w1 ⟨rfl, hk⟩)
  have hS := Lib.hid (fun w' hk' => And.intro (box4f w1 (.int .u8 m0) (.int .u8 m1) (.int .u8 m2) (.int .u8 p3) 30 w1.heap.size rfl w' hk') (HS.out w' ((hk.alloc (.cells #[.int .u8 m0, .int .u8 m1, .int .u8 m2, .int .u8 p3] 30)).trans hk')))
  have hB := Lib.hid ((HB.out.trans hk).alloc (.cells #[.int .u8 m0, .int .u8 m1, .int .u8 m2, .int .u8 p3] 30))
  have hsz : w.heap.size + 1 < w1.heap.size := (by have h := hk.size; simp at h; omega)
  have hk0 := Keeps.refl (w1.alloc (.cells #[.int .u8 m0, .int .u8 m1, .int .u8 m2, .int .u8 p3] 30))
  have V0 := Lib.hid (fun w' hk => keepk (w0 := w1.alloc (.cells #[.int .u8 m0, .int .u8 m1, .int .u8 m2, .int .u8 p3] 30)) (U0.out w') hk)
  have V1 := Lib.hid (fun w' hk => keepk (w0 := w1.alloc (.cells #[.int .u8 m0, .int .u8 m1, .int .u8 m2, .int .u8 p3] 30)) (U1.out w') hk)
  have V2 := Lib.hid (fun w' hk => keepk (w0 := w1.alloc (.cells #[.int .u8 m0, .int .u8 m1, .int .u8 m2, .int .u8 p3] 30)) (U2.out w') hk)
  have hne : ¬ (w1.heap.size = w.heap.size + 1) := by omega
  have hne2 : ¬ (w.heap.size + 1 = w1.heap.size) := by omega
  clear U0 U1 U2 GC hk
  go_region_held3 (fun w' => w'.cell? ⟨w1.heap.size, 0, none⟩ = some (.int .u8 m0) ∧ w'.cell? ⟨w1.heap.size, 1, none⟩ = some (.int .u8 m1) ∧ w'.cell? ⟨w1.heap.size, 2, none⟩ = some (.int .u8 m2) ∧ w'.cell? ⟨w1.heap.size, 3, none⟩ = some (.int .u8 p3)) (first | exact (hS.out _ (by assumption)).1 | exact (hS.out _ (Keeps.drew (by assumption))).1 | (obtain ⟨⟨x0, x1, x2, x3⟩, _⟩ := hS.out _ (by assumption); refine ⟨?_, ?_, ?_, ?_⟩ <;> simp [go_sem, *]) | fail "KEEP")
    (first | (go_at_call 51; (first | (with_reducible refine (V0.out _ (by first | assumption | exact Keeps.drew (by assumption) | exact Keeps.drewN (by assumption) _)).mono ?_) | (with_reducible refine (V1.out _ (by first | assumption | exact Keeps.drew (by assumption) | exact Keeps.drewN (by assumption) _)).mono ?_) | (with_reducible refine (V2.out _ (by first | assumption | exact Keeps.drew (by assumption) | exact Keeps.drewN (by assumption) _)).mono ?_)); rintro e w1 ⟨rfl, hk⟩; obtain ⟨⟨x0, x1, x2, x3⟩, y0, y1, y2, y3, y4, y5, y6, y7, y8, y9, y10, y11, y12, y13, y14, y15⟩ := hS.out _ hk) | fail "ARM")
  go_wp2
  exact bodyPost_ret (v := .agg #[.int .u8 r0, .int .u8 r1, .int .u8 r2, .int .u8 p3]) (by simp [results, Try.results25, go_sem, *]) rfl ⟨rfl, (hB.out.trans hk).far4 (by omega) _ _ _ _⟩
end Go.Proofs.Ytjfimlcljbdglaa
