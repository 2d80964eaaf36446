/- Contracts of hue and ToHSL, of package color and of reference 27. -/
import Derived.Test.YtjfimlcljbdglaaCo
namespace Go.Proofs.Ytjfimlcljbdglaa
open Go.RowKit
set_option linter.unusedVariables false
set_option linter.unusedSimpArgs false
def hiI (r g b : Int) : Int := max r (max g b)
def loI (r g b : Int) : Int := min r (min g b)
def hue0 (r g b hi d : Int) : Int := if hi = r then dvr (256 * (g - b)) d else if hi = g then 512 + dvr (256 * (b - r)) d else 1024 + dvr (256 * (r - g)) d
def hueI (r g b hi d : Int) : Int := modI (hue0 r g b hi d) 1536
def satI (d l : Int) : Int := dvr (255 * d) (min l (510 - l))
theorem dvr_sm (a b : Int) (h : -100000 ≤ a ∧ a ≤ 100000) : -1152921504606846976 ≤ dvr a b ∧ dvr a b ≤ 1152921504606846976 := by
  by_cases hb : b = 0
  · subst hb; rw [dvr_zero]; omega
  · exact (dvr_Q a b hb (by omega)).2
set_option maxRecDepth 100000 in
set_option maxHeartbeats 2000000 in
theorem rhue_any (r g b t hi d : Int) (w : World) (h0 : u8b r) (h1 : u8b g) (h2 : u8b b) (hd : -100000 ≤ d ∧ d ≤ 100000) :
    Calls Try.prog 62 #[.agg #[.int .u8 r, .int .u8 g, .int .u8 b, .int .u8 t], .int .i64 hi, .int .i64 d] w fun e w' => e = .returned (.int .i64 (hueI r g b hi d)) ∧ Keeps w w' := by
  obtain ⟨r0, r1⟩ := h0
  obtain ⟨g0, g1⟩ := h1
  obtain ⟨b0, b1⟩ := h2
  obtain ⟨d0, d1⟩ := hd
  have HS := Lib.hid (show ∀ w', Keeps (w.alloc (.cells #[.int .u8 r, .int .u8 g, .int .u8 b, .int .u8 t] 23)) w' → w'.cell? ⟨w.heap.size, 0, none⟩ = some (.int .u8 r) ∧ w'.frozen? ⟨w.heap.size, 0, none⟩ = false ∧ w'.cell? ⟨w.heap.size, 1, none⟩ = some (.int .u8 g) ∧ w'.frozen? ⟨w.heap.size, 1, none⟩ = false ∧ w'.cell? ⟨w.heap.size, 2, none⟩ = some (.int .u8 b) ∧ w'.frozen? ⟨w.heap.size, 2, none⟩ = false ∧ w'.cell? ⟨w.heap.size, 3, none⟩ = some (.int .u8 t) ∧ w'.frozen? ⟨w.heap.size, 3, none⟩ = false from fun w' hk => ⟨(hk.cell (p := ⟨w.heap.size, 0, none⟩) (by first | (simp; done) | (simp; omega))).trans (by simp [go_sem]), (hk.frozen (p := ⟨w.heap.size, 0, none⟩) (by first | (simp; done) | (simp; omega))).trans (by simp [go_sem]), (hk.cell (p := ⟨w.heap.size, 1, none⟩) (by first | (simp; done) | (simp; omega))).trans (by simp [go_sem]), (hk.frozen (p := ⟨w.heap.size, 1, none⟩) (by first | (simp; done) | (simp; omega))).trans (by simp [go_sem]), (hk.cell (p := ⟨w.heap.size, 2, none⟩) (by first | (simp; done) | (simp; omega))).trans (by simp [go_sem]), (hk.frozen (p := ⟨w.heap.size, 2, none⟩) (by first | (simp; done) | (simp; omega))).trans (by simp [go_sem]), (hk.cell (p := ⟨w.heap.size, 3, none⟩) (by first | (simp; done) | (simp; omega))).trans (by simp [go_sem]), (hk.frozen (p := ⟨w.heap.size, 3, none⟩) (by first | (simp; done) | (simp; omega))).trans (by simp [go_sem])⟩)
  have HB := Lib.hid (show Keeps w (w.alloc (.cells #[.int .u8 r, .int .u8 g, .int .u8 b, .int .u8 t] 23)) from (by (repeat (first | (with_reducible exact Keeps.refl _) | (with_reducible assumption) | (with_reducible refine Keeps.drewN ?_ _) | (with_reducible refine Keeps.drew ?_) | (with_reducible refine Keeps.alloc ?_ _) | (with_reducible refine Keeps.setNew ?_ ?_ _))) <;> (dsimp only; omega)))
  have hk0 := Keeps.refl (w.alloc (.cells #[.int .u8 r, .int .u8 g, .int .u8 b, .int .u8 t] 23))
  have s1 := dvr_sm (256 * (g - b)) d (by omega)
  have s2 := dvr_sm (256 * (b - r)) d (by omega)
  have s3 := dvr_sm (256 * (r - g)) d (by omega)
  have H1 := Lib.hid (fun w' hk => keepk (w0 := (w.alloc (.cells #[.int .u8 r, .int .u8 g, .int .u8 b, .int .u8 t] 23))) (rdvr_any (256 * (g - b)) d w' (by omega) (by omega) (by omega) (by omega)) hk)
  have H2 := Lib.hid (fun w' hk => keepk (w0 := (w.alloc (.cells #[.int .u8 r, .int .u8 g, .int .u8 b, .int .u8 t] 23))) (rdvr_any (256 * (b - r)) d w' (by omega) (by omega) (by omega) (by omega)) hk)
  have H3 := Lib.hid (fun w' hk => keepk (w0 := (w.alloc (.cells #[.int .u8 r, .int .u8 g, .int .u8 b, .int .u8 t] 23))) (rdvr_any (256 * (r - g)) d w' (by omega) (by omega) (by omega) (by omega)) hk)
  have e1 : hi = r → hueI r g b hi d = modI (dvr (256 * (g - b)) d) 1536 := fun h => by unfold hueI hue0; rw [if_pos h]
  have e2 : ¬ hi = r → hi = g → hueI r g b hi d = modI (512 + dvr (256 * (b - r)) d) 1536 := fun h k => by unfold hueI hue0; rw [if_neg h, if_pos k]
  have e3 : ¬ hi = r → ¬ hi = g → hueI r g b hi d = modI (1024 + dvr (256 * (r - g)) d) 1536 := fun h k => by unfold hueI hue0; rw [if_neg h, if_neg k]
  generalize dvr (256 * (g - b)) d = x1 at *
  generalize dvr (256 * (b - r)) d = x2 at *
  generalize dvr (256 * (r - g)) d = x3 at *
  by_cases k1 : hi = r
  · rw [e1 k1]
    have M := Lib.hid (fun w => rmod_any x1 1536 w (by omega))
    generalize modI x1 1536 = y at *
    have t1 : (hi == r) = true := beq_iff_eq.2 k1
    clear e1 e2 e3 k1
    go_enter Try.func62, Try.ntmps62
    go_wp2_with fail
    go_quiet (fail)
    go_wp2_with (first | (go_at_call 63; (first | (with_reducible refine (H1.out _ (by first | assumption | exact Keeps.drew (by assumption) | exact Keeps.drewN (by assumption) _)).mono ?_)); rintro e w1 ⟨rfl, hk⟩; skip) | (go_at_call 68; (with_reducible refine (M.out _).mono ?_); rintro e w2 ⟨rfl, rfl⟩))
    go_ret
    exact ⟨rfl, HB.out.trans (by assumption)⟩
  · have t1 : (hi == r) = false := beq_eq_false_iff_ne.2 k1
    by_cases k2 : hi = g
    · rw [e2 k1 k2]
      have M := Lib.hid (fun w => rmod_any (512 + x2) 1536 w (by omega))
      generalize modI (512 + x2) 1536 = y at *
      have t2 : (hi == g) = true := beq_iff_eq.2 k2
      clear e1 e2 e3 k1 k2
      go_enter Try.func62, Try.ntmps62
      go_wp2_with fail
      go_quiet (fail)
      go_wp2_with (first | (go_at_call 63; (first | (with_reducible refine (H2.out _ (by first | assumption | exact Keeps.drew (by assumption) | exact Keeps.drewN (by assumption) _)).mono ?_)); rintro e w1 ⟨rfl, hk⟩; skip) | (go_at_call 68; (with_reducible refine (M.out _).mono ?_); rintro e w2 ⟨rfl, rfl⟩))
      go_ret
      exact ⟨rfl, HB.out.trans (by assumption)⟩
    · rw [e3 k1 k2]
      have M := Lib.hid (fun w => rmod_any (1024 + x3) 1536 w (by omega))
      generalize modI (1024 + x3) 1536 = y at *
      have t2 : (hi == g) = false := beq_eq_false_iff_ne.2 k2
      clear e1 e2 e3 k1 k2
      go_enter Try.func62, Try.ntmps62
      go_wp2_with fail
      go_quiet (fail)
      go_wp2_with (first | (go_at_call 63; (first | (with_reducible refine (H3.out _ (by first | assumption | exact Keeps.drew (by assumption) | exact Keeps.drewN (by assumption) _)).mono ?_)); rintro e w1 ⟨rfl, hk⟩; skip) | (go_at_call 68; (with_reducible refine (M.out _).mono ?_); rintro e w2 ⟨rfl, rfl⟩))
      go_ret
      exact ⟨rfl, HB.out.trans (by assumption)⟩
end Go.Proofs.Ytjfimlcljbdglaa
