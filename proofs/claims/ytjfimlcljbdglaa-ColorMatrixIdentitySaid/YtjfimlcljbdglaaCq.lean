/- Contracts of ToHSL, of package color and of reference 27. -/
import Derived.Test.YtjfimlcljbdglaaCp
namespace Go.Proofs.Ytjfimlcljbdglaa
open Go.RowKit
set_option linter.unusedVariables false
set_option linter.unusedSimpArgs false
def hslV (r g b : Int) : Value :=
  if hiI r g b - loI r g b = 0 then .tuple #[.int .i64 0, .int .i64 0, .int .i64 (hiI r g b + loI r g b)]
  else .tuple #[.int .i64 (hueI r g b (hiI r g b) (hiI r g b - loI r g b)), .int .i64 (satI (hiI r g b - loI r g b) (hiI r g b + loI r g b)), .int .i64 (hiI r g b + loI r g b)]
set_option maxRecDepth 100000 in
set_option maxHeartbeats 2000000 in
theorem rtohsl_any (r g b t : Int) (w : World) (h0 : u8b r) (h1 : u8b g) (h2 : u8b b) :
    Calls Try.prog 35 #[.agg #[.int .u8 r, .int .u8 g, .int .u8 b, .int .u8 t]] w fun e w' => e = .returned (hslV r g b) ∧ Keeps w w' := by
  have m1 : max r (max g b) = hiI r g b := rfl
  have m2 : min r (min g b) = loI r g b := rfl
  have p1 : 0 ≤ loI r g b ∧ loI r g b ≤ hiI r g b ∧ hiI r g b ≤ 255 := by unfold u8b at *; unfold hiI loI; omega
  have GH := Lib.hid (fun hd w => rhue_any r g b t (hiI r g b) (hiI r g b - loI r g b) w h0 h1 h2 hd)
  unfold hslV
  clear h0 h1 h2
  generalize hiI r g b = hi at *
  generalize loI r g b = lo at *
  obtain ⟨p1, p2, p3⟩ := p1
  have HS := Lib.hid (show ∀ w', Keeps (w.alloc (.cells #[.int .u8 r, .int .u8 g, .int .u8 b, .int .u8 t] 23)) w' → w'.cell? ⟨w.heap.size, 0, none⟩ = some (.int .u8 r) ∧ w'.frozen? ⟨w.heap.size, 0, none⟩ = false ∧ w'.cell? ⟨w.heap.size, 1, none⟩ = some (.int .u8 g) ∧ w'.frozen? ⟨w.heap.size, 1, none⟩ = false ∧ w'.cell? ⟨w.heap.size, 2, none⟩ = some (.int .u8 b) ∧ w'.frozen? ⟨w.heap.size, 2, none⟩ = false ∧ w'.cell? ⟨w.heap.size, 3, none⟩ = some (.int .u8 t) ∧ w'.frozen? ⟨w.heap.size, 3, none⟩ = false from fun w' hk => ⟨(hk.cell (p := ⟨w.heap.size, 0, none⟩) (by first | (simp; done) | (simp; omega))).trans (by simp [go_sem]), (hk.frozen (p := ⟨w.heap.size, 0, none⟩) (by first | (simp; done) | (simp; omega))).trans (by simp [go_sem]), (hk.cell (p := ⟨w.heap.size, 1, none⟩) (by first | (simp; done) | (simp; omega))).trans (by simp [go_sem]), (hk.frozen (p := ⟨w.heap.size, 1, none⟩) (by first | (simp; done) | (simp; omega))).trans (by simp [go_sem]), (hk.cell (p := ⟨w.heap.size, 2, none⟩) (by first | (simp; done) | (simp; omega))).trans (by simp [go_sem]), (hk.frozen (p := ⟨w.heap.size, 2, none⟩) (by first | (simp; done) | (simp; omega))).trans (by simp [go_sem]), (hk.cell (p := ⟨w.heap.size, 3, none⟩) (by first | (simp; done) | (simp; omega))).trans (by simp [go_sem]), (hk.frozen (p := ⟨w.heap.size, 3, none⟩) (by first | (simp; done) | (simp; omega))).trans (by simp [go_sem])⟩)
  have HB := Lib.hid (show Keeps w (w.alloc (.cells #[.int .u8 r, .int .u8 g, .int .u8 b, .int .u8 t] 23)) from (by (repeat (first | (with_reducible exact Keeps.refl _) | (with_reducible assumption) | (with_reducible refine Keeps.drewN ?_ _) | (with_reducible refine Keeps.drew ?_) | (with_reducible refine Keeps.alloc ?_ _) | (with_reducible refine Keeps.setNew ?_ ?_ _))) <;> (dsimp only; omega)))
  have hk0 := Keeps.refl (w.alloc (.cells #[.int .u8 r, .int .u8 g, .int .u8 b, .int .u8 t] 23))
  by_cases k : hi - lo = 0
  · rw [if_pos k]
    obtain rfl : hi = lo := by omega
    go_enter Try.func35, Try.ntmps35
    go_wp2
    exact bodyPost_ret (v := .tuple #[.int .i64 0, .int .i64 0, .int .i64 (hi + hi)]) (by simp [results, Try.results35, go_sem, *]) rfl ⟨rfl, HB.out⟩
  · rw [if_neg k]
    have t1 : (hi - lo == 0) = false := beq_eq_false_iff_ne.2 k
    have H1 := Lib.hid (fun w' hk => keepk (w0 := (w.alloc (.cells #[.int .u8 r, .int .u8 g, .int .u8 b, .int .u8 t] 23))) (GH.out (by omega) w') hk)
    have H2 := Lib.hid (fun w' hk => keepk (w0 := (w.alloc (.cells #[.int .u8 r, .int .u8 g, .int .u8 b, .int .u8 t] 23))) (rdvr_any (255 * (hi - lo)) (min (hi + lo) (510 - (hi + lo))) w' (by omega) (by omega) (by omega) (by omega)) hk)
    rw [show dvr (255 * (hi - lo)) (min (hi + lo) (510 - (hi + lo))) = satI (hi - lo) (hi + lo) from rfl] at H2
    generalize hueI r g b hi (hi - lo) = y at *
    generalize satI (hi - lo) (hi + lo) = z at *
    go_enter Try.func35, Try.ntmps35
    go_wp2_with (first | (go_at_call 62; (first | (with_reducible refine (H1.out _ (by first | assumption | exact Keeps.drew (by assumption) | exact Keeps.drewN (by assumption) _)).mono ?_)); rintro e w1 ⟨rfl, hk⟩; skip) | (go_at_call 63; (first | (with_reducible refine (H2.out _ (by first | assumption | exact Keeps.drew (by assumption) | exact Keeps.drewN (by assumption) _)).mono ?_)); rintro e w1 ⟨rfl, hk⟩; skip))
    exact bodyPost_ret (v := .tuple #[.int .i64 y, .int .i64 z, .int .i64 (hi + lo)]) (by simp [results, Try.results35, go_sem, *]) rfl ⟨rfl, HB.out.trans (by assumption)⟩
end Go.Proofs.Ytjfimlcljbdglaa
