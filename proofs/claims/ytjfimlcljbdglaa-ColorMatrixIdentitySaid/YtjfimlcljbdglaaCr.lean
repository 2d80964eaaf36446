/- Contract of color.ToHSL. -/
import Derived.Test.YtjfimlcljbdglaaCq
namespace Go.Proofs.Ytjfimlcljbdglaa
open Go.RowKit
set_option linter.unusedVariables false
set_option linter.unusedSimpArgs false
theorem max3 {P : Program} (x y z h : Int) (e : max (max x y) z = h) (w : World) (ts : Array TypeId) (t : TypeId) (k1 k2 k3 : IntKind) :
    (Builtin.max_ ts t #[.int k1 x, .int k2 y, .int k3 z]).run P w = .ok (.int k1 h) w := by
  have e1 : (if y > x then y else x) = max x y := by
    rw [Int.max_def]
    split <;> split <;> omega
  have e2 : (if z > max x y then z else max x y) = max (max x y) z := by
    rw [Int.max_def (max x y)]
    split <;> split <;> omega
  simp [Builtin.max_, Builtin.max2, e1, e2, e]
theorem min3 {P : Program} (x y z h : Int) (e : min (min x y) z = h) (w : World) (ts : Array TypeId) (t : TypeId) (k1 k2 k3 : IntKind) :
    (Builtin.min_ ts t #[.int k1 x, .int k2 y, .int k3 z]).run P w = .ok (.int k1 h) w := by
  have e1 : (if y < x then y else x) = min x y := by
    rw [Int.min_def]
    split <;> split <;> omega
  have e2 : (if z < min x y then z else min x y) = min (min x y) z := by
    rw [Int.min_def (min x y)]
    split <;> split <;> omega
  simp [Builtin.min_, Builtin.min2, e1, e2, e]
set_option maxRecDepth 100000 in
set_option maxHeartbeats 2000000 in
theorem tohsl_any (r g b t : Int) (w : World) (h0 : u8b r) (h1 : u8b g) (h2 : u8b b) :
    Calls Try.prog 34 #[.agg #[.int .u8 r, .int .u8 g, .int .u8 b, .int .u8 t]] w fun e w' => e = .returned (hslV r g b) ∧ Keeps w w' := by
  have m1 : max (max r g) b = hiI r g b := by unfold hiI; omega
  have m2 : min (min r g) b = loI r g b := by unfold loI; omega
  have p1 : 0 ≤ loI r g b ∧ loI r g b ≤ hiI r g b ∧ hiI r g b ≤ 255 := by unfold u8b at *; unfold hiI loI; omega
  unfold hslV
  obtain ⟨r0, r1⟩ := h0
  obtain ⟨g0, g1⟩ := h1
  obtain ⟨b0, b1⟩ := h2
  have s1 := dvr_sm (256 * (g - b)) (hiI r g b - loI r g b) (by omega)
  have s2 := dvr_sm (256 * (b - r)) (hiI r g b - loI r g b) (by omega)
  have s3 := dvr_sm (256 * (r - g)) (hiI r g b - loI r g b) (by omega)
  have s4 : satI (hiI r g b - loI r g b) (hiI r g b + loI r g b) = dvr (255 * (hiI r g b - loI r g b)) (min (hiI r g b + loI r g b) (510 - (hiI r g b + loI r g b))) := rfl
  generalize hiI r g b = hi at *
  generalize loI r g b = lo at *
  obtain ⟨p1, p2, p3⟩ := p1
  have n1 := fun (w : World) (ts : Array TypeId) (t : TypeId) => max3 (P := Try.prog) r g b hi m1 w ts t .i64 .i64 .i64
  have n2 := fun (w : World) (ts : Array TypeId) (t : TypeId) => min3 (P := Try.prog) r g b lo m2 w ts t .i64 .i64 .i64
  clear m1 m2
  have HS := Lib.hid (show ∀ w', Keeps (w.alloc (.cells #[.int .u8 r, .int .u8 g, .int .u8 b, .int .u8 t] 23)) w' → w'.cell? ⟨w.heap.size, 0, none⟩ = some (.int .u8 r) ∧ w'.frozen? ⟨w.heap.size, 0, none⟩ = false ∧ w'.cell? ⟨w.heap.size, 1, none⟩ = some (.int .u8 g) ∧ w'.frozen? ⟨w.heap.size, 1, none⟩ = false ∧ w'.cell? ⟨w.heap.size, 2, none⟩ = some (.int .u8 b) ∧ w'.frozen? ⟨w.heap.size, 2, none⟩ = false ∧ w'.cell? ⟨w.heap.size, 3, none⟩ = some (.int .u8 t) ∧ w'.frozen? ⟨w.heap.size, 3, none⟩ = false from fun w' hk => ⟨(hk.cell (p := ⟨w.heap.size, 0, none⟩) (by first | (simp; done) | (simp; omega))).trans (by simp [go_sem]), (hk.frozen (p := ⟨w.heap.size, 0, none⟩) (by first | (simp; done) | (simp; omega))).trans (by simp [go_sem]), (hk.cell (p := ⟨w.heap.size, 1, none⟩) (by first | (simp; done) | (simp; omega))).trans (by simp [go_sem]), (hk.frozen (p := ⟨w.heap.size, 1, none⟩) (by first | (simp; done) | (simp; omega))).trans (by simp [go_sem]), (hk.cell (p := ⟨w.heap.size, 2, none⟩) (by first | (simp; done) | (simp; omega))).trans (by simp [go_sem]), (hk.frozen (p := ⟨w.heap.size, 2, none⟩) (by first | (simp; done) | (simp; omega))).trans (by simp [go_sem]), (hk.cell (p := ⟨w.heap.size, 3, none⟩) (by first | (simp; done) | (simp; omega))).trans (by simp [go_sem]), (hk.frozen (p := ⟨w.heap.size, 3, none⟩) (by first | (simp; done) | (simp; omega))).trans (by simp [go_sem])⟩)
  have HB := Lib.hid (show Keeps w (w.alloc (.cells #[.int .u8 r, .int .u8 g, .int .u8 b, .int .u8 t] 23)) from (by (repeat (first | (with_reducible exact Keeps.refl _) | (with_reducible assumption) | (with_reducible refine Keeps.drewN ?_ _) | (with_reducible refine Keeps.drew ?_) | (with_reducible refine Keeps.alloc ?_ _) | (with_reducible refine Keeps.setNew ?_ ?_ _))) <;> (dsimp only; omega)))
  have hk0 := Keeps.refl (w.alloc (.cells #[.int .u8 r, .int .u8 g, .int .u8 b, .int .u8 t] 23))
  by_cases k : hi - lo = 0
  · rw [if_pos k]
    obtain rfl : hi = lo := by omega
    clear s1 s2 s3 s4
    go_enter Try.func34, Try.ntmps34
    go_wp2_with fail
    go_quiet (fail)
    go_wp2
    exact bodyPost_ret (v := .tuple #[.int .i64 0, .int .i64 0, .int .i64 (hi + hi)]) (by simp [results, Try.results34, go_sem, *]) rfl ⟨rfl, HB.out.drewN _⟩
  · rw [if_neg k]
    have t0 : (hi - lo == 0) = false := beq_eq_false_iff_ne.2 k
    have H4 := Lib.hid (fun w' hk => keepk (w0 := (w.alloc (.cells #[.int .u8 r, .int .u8 g, .int .u8 b, .int .u8 t] 23))) (dvr_any (255 * (hi - lo)) (min (hi + lo) (510 - (hi + lo))) w' (by omega) (by omega) (by omega) (by omega)) hk)
    rw [← s4] at H4
    clear s4
    generalize satI (hi - lo) (hi + lo) = z at *
    unfold hueI hue0
    have H1 := Lib.hid (fun w' hk => keepk (w0 := (w.alloc (.cells #[.int .u8 r, .int .u8 g, .int .u8 b, .int .u8 t] 23))) (dvr_any (256 * (g - b)) (hi - lo) w' (by omega) (by omega) (by omega) (by omega)) hk)
    have H2 := Lib.hid (fun w' hk => keepk (w0 := (w.alloc (.cells #[.int .u8 r, .int .u8 g, .int .u8 b, .int .u8 t] 23))) (dvr_any (256 * (b - r)) (hi - lo) w' (by omega) (by omega) (by omega) (by omega)) hk)
    have H3 := Lib.hid (fun w' hk => keepk (w0 := (w.alloc (.cells #[.int .u8 r, .int .u8 g, .int .u8 b, .int .u8 t] 23))) (dvr_any (256 * (r - g)) (hi - lo) w' (by omega) (by omega) (by omega) (by omega)) hk)
    generalize dvr (256 * (g - b)) (hi - lo) = x1 at *
    generalize dvr (256 * (b - r)) (hi - lo) = x2 at *
    generalize dvr (256 * (r - g)) (hi - lo) = x3 at *
    by_cases k1 : hi = r
    · rw [if_pos k1]
      have M := Lib.hid (fun w => mod_any x1 1536 w (by omega))
      generalize modI x1 1536 = y at *
      have t1 : (hi == r) = true := beq_iff_eq.2 k1
      clear k1
      (go_enter Try.func34, Try.ntmps34; go_wp2_with fail; go_quiet (fail); go_wp2_with (first | (go_at_call 50; (first | (with_reducible refine (H4.out _ (by first | assumption | exact Keeps.drew (by assumption) | exact Keeps.drewN (by assumption) _)).mono ?_) | (with_reducible refine (H1.out _ (by first | assumption | exact Keeps.drew (by assumption) | exact Keeps.drewN (by assumption) _)).mono ?_)); rintro e w1 ⟨rfl, hk⟩; skip) | (go_at_call 61; (with_reducible refine (M.out _).mono ?_); rintro e w2 ⟨rfl, rfl⟩)); exact bodyPost_ret (v := .tuple #[.int .i64 y, .int .i64 z, .int .i64 (hi + lo)]) (by simp [results, Try.results34, go_sem, *]) rfl ⟨rfl, HB.out.trans (by assumption)⟩)
    · rw [if_neg k1]
      have t1 : (hi == r) = false := beq_eq_false_iff_ne.2 k1
      by_cases k2 : hi = g
      · rw [if_pos k2]
        have M := Lib.hid (fun w => mod_any (512 + x2) 1536 w (by omega))
        generalize modI (512 + x2) 1536 = y at *
        have t2 : (hi == g) = true := beq_iff_eq.2 k2
        clear k1 k2
        (go_enter Try.func34, Try.ntmps34; go_wp2_with fail; go_quiet (fail); go_wp2_with (first | (go_at_call 50; (first | (with_reducible refine (H4.out _ (by first | assumption | exact Keeps.drew (by assumption) | exact Keeps.drewN (by assumption) _)).mono ?_) | (with_reducible refine (H2.out _ (by first | assumption | exact Keeps.drew (by assumption) | exact Keeps.drewN (by assumption) _)).mono ?_)); rintro e w1 ⟨rfl, hk⟩; skip) | (go_at_call 61; (with_reducible refine (M.out _).mono ?_); rintro e w2 ⟨rfl, rfl⟩)); exact bodyPost_ret (v := .tuple #[.int .i64 y, .int .i64 z, .int .i64 (hi + lo)]) (by simp [results, Try.results34, go_sem, *]) rfl ⟨rfl, HB.out.trans (by assumption)⟩)
      · rw [if_neg k2]
        have M := Lib.hid (fun w => mod_any (1024 + x3) 1536 w (by omega))
        generalize modI (1024 + x3) 1536 = y at *
        have t2 : (hi == g) = false := beq_eq_false_iff_ne.2 k2
        clear k1 k2
        (go_enter Try.func34, Try.ntmps34; go_wp2_with fail; go_quiet (fail); go_wp2_with (first | (go_at_call 50; (first | (with_reducible refine (H4.out _ (by first | assumption | exact Keeps.drew (by assumption) | exact Keeps.drewN (by assumption) _)).mono ?_) | (with_reducible refine (H3.out _ (by first | assumption | exact Keeps.drew (by assumption) | exact Keeps.drewN (by assumption) _)).mono ?_)); rintro e w1 ⟨rfl, hk⟩; skip) | (go_at_call 61; (with_reducible refine (M.out _).mono ?_); rintro e w2 ⟨rfl, rfl⟩)); exact bodyPost_ret (v := .tuple #[.int .i64 y, .int .i64 z, .int .i64 (hi + lo)]) (by simp [results, Try.results34, go_sem, *]) rfl ⟨rfl, HB.out.trans (by assumption)⟩)
end Go.Proofs.Ytjfimlcljbdglaa
