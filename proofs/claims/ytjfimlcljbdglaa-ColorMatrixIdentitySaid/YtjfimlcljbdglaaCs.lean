/- Contracts of FromHSL, of package color and of reference 27. -/
import Derived.Test.YtjfimlcljbdglaaCr
import Derived.Test.YtjfimlcljbdglaaOd
namespace Go.Proofs.Ytjfimlcljbdglaa
open Go.RowKit
set_option linter.unusedVariables false
set_option linter.unusedSimpArgs false
def fhOk (h s l : Int) : Prop := 0 ≤ h ∧ h ≤ 1535 ∧ 0 ≤ s ∧ s ≤ 255 ∧ 0 ≤ l ∧ l ≤ 510
def fhD (s l : Int) : Int := dvr (s * min l (510 - l)) 255
def fhL (s l : Int) : Int := (l - fhD s l) / 2
def fhU (h s l : Int) : Int := dvr (fhD s l * (h % 256)) 256
def fhN (h s l : Int) : Int := dvr (fhD s l * (256 - h % 256)) 256
def fhP (k hi lo up dn : Int) : Int × Int × Int :=
  if k = 0 then (hi, up, lo) else if k = 1 then (dn, hi, lo) else if k = 2 then (lo, hi, up) else if k = 3 then (lo, dn, hi) else if k = 4 then (up, lo, hi) else (hi, lo, dn)
def fhV (h s l : Int) : Int × Int × Int := fhP (h / 256) (fhL s l + fhD s l) (fhL s l) (fhL s l + fhU h s l) (fhL s l + fhN h s l)
theorem fh_mul (s l : Int) (v3 : 0 ≤ s) (v4 : s ≤ 255) (v5 : 0 ≤ l) (v6 : l ≤ 510) : s * min l (510 - l) ≤ 65025 ∧ 0 ≤ s * min l (510 - l) := by
  have a : 0 ≤ min l (510 - l) ∧ min l (510 - l) ≤ 255 := by omega
  generalize min l (510 - l) = m at *
  have := Int.mul_nonneg v3 a.1
  have := Int.mul_le_mul v4 a.2 a.1 (by omega)
  omega
theorem fh_mul2 (d f : Int) (h0 : 0 ≤ d) (h1 : d ≤ 255) (h2 : 0 ≤ f) (h3 : f ≤ 256) : d * f ≤ 65280 ∧ 0 ≤ d * f := by
  have := Int.mul_nonneg h0 h2
  have := Int.mul_le_mul h1 h3 h2 (by omega)
  omega
theorem fh_part (d f : Int) (h0 : 0 ≤ d) (h1 : d ≤ 255) (h2 : 0 ≤ f) (h3 : f ≤ 256) : 0 ≤ dvr (d * f) 256 ∧ dvr (d * f) 256 ≤ d := by
  have h := fh_mul2 d f h0 h1 h2 h3
  have q := dvr_off2 (d * f) 256 (by omega) (by omega)
  have e := Int.mul_le_mul_of_nonneg_left h3 h0
  omega
theorem fh_bd (h s l : Int) (hv : fhOk h s l) : (0 ≤ fhD s l ∧ fhD s l ≤ min l (510 - l)) ∧ (0 ≤ fhL s l ∧ fhL s l + fhD s l ≤ 255) ∧ (0 ≤ fhU h s l ∧ fhU h s l ≤ fhD s l) ∧ (0 ≤ fhN h s l ∧ fhN h s l ≤ fhD s l) ∧ 0 ≤ l - fhD s l := by
  obtain ⟨v1, v2, v3, v4, v5, v6⟩ := hv
  have hd : 0 ≤ fhD s l ∧ fhD s l ≤ min l (510 - l) := by
    have h := fh_mul s l v3 v4 v5 v6
    have q := dvr_off2 (s * min l (510 - l)) 255 (by omega) (by omega)
    have e := Int.mul_le_mul_of_nonneg_right v4 (show 0 ≤ min l (510 - l) by omega)
    unfold fhD
    omega
  refine ⟨hd, ?_, fh_part _ _ hd.1 (by omega) (by omega) (by omega), fh_part _ _ hd.1 (by omega) (by omega) (by omega), by omega⟩
  unfold fhL
  omega
set_option maxRecDepth 100000 in
set_option maxHeartbeats 2000000 in
theorem fromhsl_no (h s l a : Int) (w : World) (hv : ¬ fhOk h s l) :
    Calls Try.prog 36 #[.int .i64 h, .int .i64 s, .int .i64 l, .int .u8 a] w fun e w' => e = .returned (.tuple #[.agg #[.int .u8 0, .int .u8 0, .int .u8 0, .int .u8 0], .bool false]) ∧ Keeps w w' := by
  have hb : h < 0 ∨ (0 ≤ h ∧ 1536 ≤ h) ∨ (0 ≤ h ∧ h < 1536 ∧ s < 0) ∨ (0 ≤ h ∧ h < 1536 ∧ 0 ≤ s ∧ 255 < s) ∨ (0 ≤ h ∧ h < 1536 ∧ 0 ≤ s ∧ s ≤ 255 ∧ l < 0) ∨ (0 ≤ h ∧ h < 1536 ∧ 0 ≤ s ∧ s ≤ 255 ∧ 0 ≤ l ∧ 510 < l) := by unfold fhOk at hv; omega
  clear hv
  have HS := Lib.hid (show ∀ w', Keeps (w.alloc (.cells #[.int .u8 0, .int .u8 0, .int .u8 0, .int .u8 0] 23)) w' → w'.cell? ⟨w.heap.size, 0, none⟩ = some (.int .u8 0) ∧ w'.frozen? ⟨w.heap.size, 0, none⟩ = false ∧ w'.cell? ⟨w.heap.size, 1, none⟩ = some (.int .u8 0) ∧ w'.frozen? ⟨w.heap.size, 1, none⟩ = false ∧ w'.cell? ⟨w.heap.size, 2, none⟩ = some (.int .u8 0) ∧ w'.frozen? ⟨w.heap.size, 2, none⟩ = false ∧ w'.cell? ⟨w.heap.size, 3, none⟩ = some (.int .u8 0) ∧ w'.frozen? ⟨w.heap.size, 3, none⟩ = false from fun w' hk => ⟨(hk.cell (p := ⟨w.heap.size, 0, none⟩) (by first | (simp; done) | (simp; omega))).trans (by simp [go_sem]), (hk.frozen (p := ⟨w.heap.size, 0, none⟩) (by first | (simp; done) | (simp; omega))).trans (by simp [go_sem]), (hk.cell (p := ⟨w.heap.size, 1, none⟩) (by first | (simp; done) | (simp; omega))).trans (by simp [go_sem]), (hk.frozen (p := ⟨w.heap.size, 1, none⟩) (by first | (simp; done) | (simp; omega))).trans (by simp [go_sem]), (hk.cell (p := ⟨w.heap.size, 2, none⟩) (by first | (simp; done) | (simp; omega))).trans (by simp [go_sem]), (hk.frozen (p := ⟨w.heap.size, 2, none⟩) (by first | (simp; done) | (simp; omega))).trans (by simp [go_sem]), (hk.cell (p := ⟨w.heap.size, 3, none⟩) (by first | (simp; done) | (simp; omega))).trans (by simp [go_sem]), (hk.frozen (p := ⟨w.heap.size, 3, none⟩) (by first | (simp; done) | (simp; omega))).trans (by simp [go_sem])⟩)
  have HB := Lib.hid (show Keeps w (w.alloc (.cells #[.int .u8 0, .int .u8 0, .int .u8 0, .int .u8 0] 23)) from (by (repeat (first | (with_reducible exact Keeps.refl _) | (with_reducible assumption) | (with_reducible refine Keeps.drewN ?_ _) | (with_reducible refine Keeps.drew ?_) | (with_reducible refine Keeps.alloc ?_ _) | (with_reducible refine Keeps.setNew ?_ ?_ _))) <;> (dsimp only; omega)))
  have hk0 := Keeps.refl (w.alloc (.cells #[.int .u8 0, .int .u8 0, .int .u8 0, .int .u8 0] 23))
  rcases hb with hb | ⟨k1, hb⟩ | ⟨k1, k2, hb⟩ | ⟨k1, k2, k3, hb⟩ | ⟨k1, k2, k3, k4, hb⟩ | ⟨k1, k2, k3, k4, k5, hb⟩
  all_goals
    go_enter Try.func36, Try.ntmps36
    go_wp2
    exact bodyPost_ret (v := .tuple #[.agg #[.int .u8 0, .int .u8 0, .int .u8 0, .int .u8 0], .bool false]) (by simp [results, Try.results36, go_sem, *]) rfl ⟨rfl, HB.out⟩
set_option maxRecDepth 100000 in
set_option maxHeartbeats 4000000 in
theorem fromhsl_any (h s l a : Int) (w : World) (hv : fhOk h s l) :
    Calls Try.prog 36 #[.int .i64 h, .int .i64 s, .int .i64 l, .int .u8 a] w fun e w' => e = .returned (.tuple #[.agg #[.int .u8 (fhV h s l).1, .int .u8 (fhV h s l).2.1, .int .u8 (fhV h s l).2.2, .int .u8 a], .bool true]) ∧ Keeps w w' := by
  obtain ⟨b1, b2, b3, b4, b5⟩ := fh_bd h s l hv
  have q0 := hv
  unfold fhOk at q0
  obtain ⟨v1, v2, v3, v4, v5, v6⟩ := q0
  have HS := Lib.hid (show ∀ w', Keeps (w.alloc (.cells #[.int .u8 0, .int .u8 0, .int .u8 0, .int .u8 0] 23)) w' → w'.cell? ⟨w.heap.size, 0, none⟩ = some (.int .u8 0) ∧ w'.frozen? ⟨w.heap.size, 0, none⟩ = false ∧ w'.cell? ⟨w.heap.size, 1, none⟩ = some (.int .u8 0) ∧ w'.frozen? ⟨w.heap.size, 1, none⟩ = false ∧ w'.cell? ⟨w.heap.size, 2, none⟩ = some (.int .u8 0) ∧ w'.frozen? ⟨w.heap.size, 2, none⟩ = false ∧ w'.cell? ⟨w.heap.size, 3, none⟩ = some (.int .u8 0) ∧ w'.frozen? ⟨w.heap.size, 3, none⟩ = false from fun w' hk => ⟨(hk.cell (p := ⟨w.heap.size, 0, none⟩) (by first | (simp; done) | (simp; omega))).trans (by simp [go_sem]), (hk.frozen (p := ⟨w.heap.size, 0, none⟩) (by first | (simp; done) | (simp; omega))).trans (by simp [go_sem]), (hk.cell (p := ⟨w.heap.size, 1, none⟩) (by first | (simp; done) | (simp; omega))).trans (by simp [go_sem]), (hk.frozen (p := ⟨w.heap.size, 1, none⟩) (by first | (simp; done) | (simp; omega))).trans (by simp [go_sem]), (hk.cell (p := ⟨w.heap.size, 2, none⟩) (by first | (simp; done) | (simp; omega))).trans (by simp [go_sem]), (hk.frozen (p := ⟨w.heap.size, 2, none⟩) (by first | (simp; done) | (simp; omega))).trans (by simp [go_sem]), (hk.cell (p := ⟨w.heap.size, 3, none⟩) (by first | (simp; done) | (simp; omega))).trans (by simp [go_sem]), (hk.frozen (p := ⟨w.heap.size, 3, none⟩) (by first | (simp; done) | (simp; omega))).trans (by simp [go_sem])⟩)
  have HB := Lib.hid (show Keeps w (w.alloc (.cells #[.int .u8 0, .int .u8 0, .int .u8 0, .int .u8 0] 23)) from (by (repeat (first | (with_reducible exact Keeps.refl _) | (with_reducible assumption) | (with_reducible refine Keeps.drewN ?_ _) | (with_reducible refine Keeps.drew ?_) | (with_reducible refine Keeps.alloc ?_ _) | (with_reducible refine Keeps.setNew ?_ ?_ _))) <;> (dsimp only; omega)))
  have hk0 := Keeps.refl (w.alloc (.cells #[.int .u8 0, .int .u8 0, .int .u8 0, .int .u8 0] 23))
  have hm : s * min l (510 - l) ≤ 65025 ∧ 0 ≤ s * min l (510 - l) := fh_mul s l v3 v4 v5 v6
  obtain ⟨m1, m2⟩ := hm
  have H1 := Lib.hid (fun w' hk => keepk (w0 := (w.alloc (.cells #[.int .u8 0, .int .u8 0, .int .u8 0, .int .u8 0] 23))) (dvr_any (s * min l (510 - l)) 255 w' (by omega) (by omega) (by omega) (by omega)) hk)
  rw [show dvr (s * min l (510 - l)) 255 = fhD s l from rfl] at H1
  have e1 : (l - fhD s l).tdiv 2 = fhL s l := by unfold fhL; exact Int.tdiv_eq_ediv_of_nonneg (by omega)
  have e2 : h.tmod 256 = h % 256 := Int.tmod_eq_emod_of_nonneg (by omega)
  have e3 : h.tdiv 256 = h / 256 := Int.tdiv_eq_ediv_of_nonneg (by omega)
  have f0 : 0 ≤ h % 256 ∧ h % 256 ≤ 255 := by omega
  obtain ⟨f0, f1⟩ := f0
  have g0 := fh_mul2 (fhD s l) (h % 256) b1.1 (by omega) f0 (by omega)
  have g1 := fh_mul2 (fhD s l) (256 - h % 256) b1.1 (by omega) (by omega) (by omega)
  obtain ⟨g0, g2⟩ := g0
  obtain ⟨g1, g3⟩ := g1
  have H2 := Lib.hid (fun w' hk => keepk (w0 := (w.alloc (.cells #[.int .u8 0, .int .u8 0, .int .u8 0, .int .u8 0] 23))) (dvr_any (fhD s l * (h % 256)) 256 w' (by omega) (by omega) (by omega) (by omega)) hk)
  have H3 := Lib.hid (fun w' hk => keepk (w0 := (w.alloc (.cells #[.int .u8 0, .int .u8 0, .int .u8 0, .int .u8 0] 23))) (dvr_any (fhD s l * (256 - h % 256)) 256 w' (by omega) (by omega) (by omega) (by omega)) hk)
  rw [show dvr (fhD s l * (h % 256)) 256 = fhU h s l from rfl] at H2
  rw [show dvr (fhD s l * (256 - h % 256)) 256 = fhN h s l from rfl] at H3
  have hq : h / 256 = 0 ∨ h / 256 = 1 ∨ h / 256 = 2 ∨ h / 256 = 3 ∨ h / 256 = 4 ∨ h / 256 = 5 := by omega
  have eV : fhV h s l = fhP (h / 256) (fhL s l + fhD s l) (fhL s l) (fhL s l + fhU h s l) (fhL s l + fhN h s l) := rfl
  rw [eV]
  clear eV hv
  generalize fhU h s l = up at *
  generalize fhN h s l = dn at *
  generalize fhL s l = lo at *
  generalize fhD s l = d at *
  generalize h % 256 = f at *
  obtain ⟨b10, b11⟩ := b1
  obtain ⟨b20, b21⟩ := b2
  obtain ⟨b30, b31⟩ := b3
  obtain ⟨b40, b41⟩ := b4
  rcases hq with hq | hq | hq | hq | hq | hq
  · rw [hq] at e3 ⊢
    clear hq
    go_enter Try.func36, Try.ntmps36
    go_wp2_with (first | (go_at_call 50; (first | (with_reducible refine (H1.out _ (by first | assumption | exact Keeps.drew (by assumption) | exact Keeps.drewN (by assumption) _)).mono ?_) | (with_reducible refine (H2.out _ (by first | assumption | exact Keeps.drew (by assumption) | exact Keeps.drewN (by assumption) _)).mono ?_) | (with_reducible refine (H3.out _ (by first | assumption | exact Keeps.drew (by assumption) | exact Keeps.drewN (by assumption) _)).mono ?_)); rintro e w1 ⟨rfl, hk⟩; obtain ⟨y0, y1, y2, y3, y4, y5, y6, y7⟩ := HS.out _ hk))
    exact bodyPost_ret (v := .tuple #[.agg #[.int .u8 (lo + d), .int .u8 (lo + up), .int .u8 (lo), .int .u8 a], .bool true]) (by simp [results, Try.results36, go_sem, *]) rfl ⟨rfl, (HB.out.trans (by assumption)).far4 (by omega) _ _ _ _⟩
  · rw [hq] at e3 ⊢
    clear hq
    go_enter Try.func36, Try.ntmps36
    go_wp2_with (first | (go_at_call 50; (first | (with_reducible refine (H1.out _ (by first | assumption | exact Keeps.drew (by assumption) | exact Keeps.drewN (by assumption) _)).mono ?_) | (with_reducible refine (H2.out _ (by first | assumption | exact Keeps.drew (by assumption) | exact Keeps.drewN (by assumption) _)).mono ?_) | (with_reducible refine (H3.out _ (by first | assumption | exact Keeps.drew (by assumption) | exact Keeps.drewN (by assumption) _)).mono ?_)); rintro e w1 ⟨rfl, hk⟩; obtain ⟨y0, y1, y2, y3, y4, y5, y6, y7⟩ := HS.out _ hk))
    exact bodyPost_ret (v := .tuple #[.agg #[.int .u8 (lo + dn), .int .u8 (lo + d), .int .u8 (lo), .int .u8 a], .bool true]) (by simp [results, Try.results36, go_sem, *]) rfl ⟨rfl, (HB.out.trans (by assumption)).far4 (by omega) _ _ _ _⟩
  · rw [hq] at e3 ⊢
    clear hq
    go_enter Try.func36, Try.ntmps36
    go_wp2_with (first | (go_at_call 50; (first | (with_reducible refine (H1.out _ (by first | assumption | exact Keeps.drew (by assumption) | exact Keeps.drewN (by assumption) _)).mono ?_) | (with_reducible refine (H2.out _ (by first | assumption | exact Keeps.drew (by assumption) | exact Keeps.drewN (by assumption) _)).mono ?_) | (with_reducible refine (H3.out _ (by first | assumption | exact Keeps.drew (by assumption) | exact Keeps.drewN (by assumption) _)).mono ?_)); rintro e w1 ⟨rfl, hk⟩; obtain ⟨y0, y1, y2, y3, y4, y5, y6, y7⟩ := HS.out _ hk))
    exact bodyPost_ret (v := .tuple #[.agg #[.int .u8 (lo), .int .u8 (lo + d), .int .u8 (lo + up), .int .u8 a], .bool true]) (by simp [results, Try.results36, go_sem, *]) rfl ⟨rfl, (HB.out.trans (by assumption)).far4 (by omega) _ _ _ _⟩
  · rw [hq] at e3 ⊢
    clear hq
    go_enter Try.func36, Try.ntmps36
    go_wp2_with (first | (go_at_call 50; (first | (with_reducible refine (H1.out _ (by first | assumption | exact Keeps.drew (by assumption) | exact Keeps.drewN (by assumption) _)).mono ?_) | (with_reducible refine (H2.out _ (by first | assumption | exact Keeps.drew (by assumption) | exact Keeps.drewN (by assumption) _)).mono ?_) | (with_reducible refine (H3.out _ (by first | assumption | exact Keeps.drew (by assumption) | exact Keeps.drewN (by assumption) _)).mono ?_)); rintro e w1 ⟨rfl, hk⟩; obtain ⟨y0, y1, y2, y3, y4, y5, y6, y7⟩ := HS.out _ hk))
    exact bodyPost_ret (v := .tuple #[.agg #[.int .u8 (lo), .int .u8 (lo + dn), .int .u8 (lo + d), .int .u8 a], .bool true]) (by simp [results, Try.results36, go_sem, *]) rfl ⟨rfl, (HB.out.trans (by assumption)).far4 (by omega) _ _ _ _⟩
  · rw [hq] at e3 ⊢
    clear hq
    go_enter Try.func36, Try.ntmps36
    go_wp2_with (first | (go_at_call 50; (first | (with_reducible refine (H1.out _ (by first | assumption | exact Keeps.drew (by assumption) | exact Keeps.drewN (by assumption) _)).mono ?_) | (with_reducible refine (H2.out _ (by first | assumption | exact Keeps.drew (by assumption) | exact Keeps.drewN (by assumption) _)).mono ?_) | (with_reducible refine (H3.out _ (by first | assumption | exact Keeps.drew (by assumption) | exact Keeps.drewN (by assumption) _)).mono ?_)); rintro e w1 ⟨rfl, hk⟩; obtain ⟨y0, y1, y2, y3, y4, y5, y6, y7⟩ := HS.out _ hk))
    exact bodyPost_ret (v := .tuple #[.agg #[.int .u8 (lo + up), .int .u8 (lo), .int .u8 (lo + d), .int .u8 a], .bool true]) (by simp [results, Try.results36, go_sem, *]) rfl ⟨rfl, (HB.out.trans (by assumption)).far4 (by omega) _ _ _ _⟩
  · rw [hq] at e3 ⊢
    clear hq
    go_enter Try.func36, Try.ntmps36
    go_wp2_with (first | (go_at_call 50; (first | (with_reducible refine (H1.out _ (by first | assumption | exact Keeps.drew (by assumption) | exact Keeps.drewN (by assumption) _)).mono ?_) | (with_reducible refine (H2.out _ (by first | assumption | exact Keeps.drew (by assumption) | exact Keeps.drewN (by assumption) _)).mono ?_) | (with_reducible refine (H3.out _ (by first | assumption | exact Keeps.drew (by assumption) | exact Keeps.drewN (by assumption) _)).mono ?_)); rintro e w1 ⟨rfl, hk⟩; obtain ⟨y0, y1, y2, y3, y4, y5, y6, y7⟩ := HS.out _ hk))
    exact bodyPost_ret (v := .tuple #[.agg #[.int .u8 (lo + d), .int .u8 (lo), .int .u8 (lo + dn), .int .u8 a], .bool true]) (by simp [results, Try.results36, go_sem, *]) rfl ⟨rfl, (HB.out.trans (by assumption)).far4 (by omega) _ _ _ _⟩
set_option maxRecDepth 100000 in
set_option maxHeartbeats 2000000 in
theorem rfromhsl_no (h s l a : Int) (w : World) (hv : ¬ fhOk h s l) :
    Calls Try.prog 37 #[.int .i64 h, .int .i64 s, .int .i64 l, .int .u8 a] w fun e w' => e = .returned (.tuple #[.agg #[.int .u8 0, .int .u8 0, .int .u8 0, .int .u8 0], .bool false]) ∧ Keeps w w' := by
  have hb : h < 0 ∨ (0 ≤ h ∧ 1536 ≤ h) ∨ (0 ≤ h ∧ h < 1536 ∧ s < 0) ∨ (0 ≤ h ∧ h < 1536 ∧ 0 ≤ s ∧ 255 < s) ∨ (0 ≤ h ∧ h < 1536 ∧ 0 ≤ s ∧ s ≤ 255 ∧ l < 0) ∨ (0 ≤ h ∧ h < 1536 ∧ 0 ≤ s ∧ s ≤ 255 ∧ 0 ≤ l ∧ 510 < l) := by unfold fhOk at hv; omega
  clear hv
  have HS := Lib.hid (show ∀ w', Keeps (w.alloc (.cells #[.int .u8 0, .int .u8 0, .int .u8 0, .int .u8 0] 23)) w' → w'.cell? ⟨w.heap.size, 0, none⟩ = some (.int .u8 0) ∧ w'.frozen? ⟨w.heap.size, 0, none⟩ = false ∧ w'.cell? ⟨w.heap.size, 1, none⟩ = some (.int .u8 0) ∧ w'.frozen? ⟨w.heap.size, 1, none⟩ = false ∧ w'.cell? ⟨w.heap.size, 2, none⟩ = some (.int .u8 0) ∧ w'.frozen? ⟨w.heap.size, 2, none⟩ = false ∧ w'.cell? ⟨w.heap.size, 3, none⟩ = some (.int .u8 0) ∧ w'.frozen? ⟨w.heap.size, 3, none⟩ = false from fun w' hk => ⟨(hk.cell (p := ⟨w.heap.size, 0, none⟩) (by first | (simp; done) | (simp; omega))).trans (by simp [go_sem]), (hk.frozen (p := ⟨w.heap.size, 0, none⟩) (by first | (simp; done) | (simp; omega))).trans (by simp [go_sem]), (hk.cell (p := ⟨w.heap.size, 1, none⟩) (by first | (simp; done) | (simp; omega))).trans (by simp [go_sem]), (hk.frozen (p := ⟨w.heap.size, 1, none⟩) (by first | (simp; done) | (simp; omega))).trans (by simp [go_sem]), (hk.cell (p := ⟨w.heap.size, 2, none⟩) (by first | (simp; done) | (simp; omega))).trans (by simp [go_sem]), (hk.frozen (p := ⟨w.heap.size, 2, none⟩) (by first | (simp; done) | (simp; omega))).trans (by simp [go_sem]), (hk.cell (p := ⟨w.heap.size, 3, none⟩) (by first | (simp; done) | (simp; omega))).trans (by simp [go_sem]), (hk.frozen (p := ⟨w.heap.size, 3, none⟩) (by first | (simp; done) | (simp; omega))).trans (by simp [go_sem])⟩)
  have HB := Lib.hid (show Keeps w (w.alloc (.cells #[.int .u8 0, .int .u8 0, .int .u8 0, .int .u8 0] 23)) from (by (repeat (first | (with_reducible exact Keeps.refl _) | (with_reducible assumption) | (with_reducible refine Keeps.drewN ?_ _) | (with_reducible refine Keeps.drew ?_) | (with_reducible refine Keeps.alloc ?_ _) | (with_reducible refine Keeps.setNew ?_ ?_ _))) <;> (dsimp only; omega)))
  have hk0 := Keeps.refl (w.alloc (.cells #[.int .u8 0, .int .u8 0, .int .u8 0, .int .u8 0] 23))
  rcases hb with hb | ⟨k1, hb⟩ | ⟨k1, k2, hb⟩ | ⟨k1, k2, k3, hb⟩ | ⟨k1, k2, k3, k4, hb⟩ | ⟨k1, k2, k3, k4, k5, hb⟩
  all_goals
    go_enter Try.func37, Try.ntmps37
    go_wp2
    exact bodyPost_ret (v := .tuple #[.agg #[.int .u8 0, .int .u8 0, .int .u8 0, .int .u8 0], .bool false]) (by simp [results, Try.results37, go_sem, *]) rfl ⟨rfl, HB.out⟩
set_option maxRecDepth 100000 in
set_option maxHeartbeats 4000000 in
theorem rfromhsl_any (h s l a : Int) (w : World) (hv : fhOk h s l) :
    Calls Try.prog 37 #[.int .i64 h, .int .i64 s, .int .i64 l, .int .u8 a] w fun e w' => e = .returned (.tuple #[.agg #[.int .u8 (fhV h s l).1, .int .u8 (fhV h s l).2.1, .int .u8 (fhV h s l).2.2, .int .u8 a], .bool true]) ∧ Keeps w w' := by
  obtain ⟨b1, b2, b3, b4, b5⟩ := fh_bd h s l hv
  have q0 := hv
  unfold fhOk at q0
  obtain ⟨v1, v2, v3, v4, v5, v6⟩ := q0
  have HS := Lib.hid (show ∀ w', Keeps (w.alloc (.cells #[.int .u8 0, .int .u8 0, .int .u8 0, .int .u8 0] 23)) w' → w'.cell? ⟨w.heap.size, 0, none⟩ = some (.int .u8 0) ∧ w'.frozen? ⟨w.heap.size, 0, none⟩ = false ∧ w'.cell? ⟨w.heap.size, 1, none⟩ = some (.int .u8 0) ∧ w'.frozen? ⟨w.heap.size, 1, none⟩ = false ∧ w'.cell? ⟨w.heap.size, 2, none⟩ = some (.int .u8 0) ∧ w'.frozen? ⟨w.heap.size, 2, none⟩ = false ∧ w'.cell? ⟨w.heap.size, 3, none⟩ = some (.int .u8 0) ∧ w'.frozen? ⟨w.heap.size, 3, none⟩ = false from fun w' hk => ⟨(hk.cell (p := ⟨w.heap.size, 0, none⟩) (by first | (simp; done) | (simp; omega))).trans (by simp [go_sem]), (hk.frozen (p := ⟨w.heap.size, 0, none⟩) (by first | (simp; done) | (simp; omega))).trans (by simp [go_sem]), (hk.cell (p := ⟨w.heap.size, 1, none⟩) (by first | (simp; done) | (simp; omega))).trans (by simp [go_sem]), (hk.frozen (p := ⟨w.heap.size, 1, none⟩) (by first | (simp; done) | (simp; omega))).trans (by simp [go_sem]), (hk.cell (p := ⟨w.heap.size, 2, none⟩) (by first | (simp; done) | (simp; omega))).trans (by simp [go_sem]), (hk.frozen (p := ⟨w.heap.size, 2, none⟩) (by first | (simp; done) | (simp; omega))).trans (by simp [go_sem]), (hk.cell (p := ⟨w.heap.size, 3, none⟩) (by first | (simp; done) | (simp; omega))).trans (by simp [go_sem]), (hk.frozen (p := ⟨w.heap.size, 3, none⟩) (by first | (simp; done) | (simp; omega))).trans (by simp [go_sem])⟩)
  have HB := Lib.hid (show Keeps w (w.alloc (.cells #[.int .u8 0, .int .u8 0, .int .u8 0, .int .u8 0] 23)) from (by (repeat (first | (with_reducible exact Keeps.refl _) | (with_reducible assumption) | (with_reducible refine Keeps.drewN ?_ _) | (with_reducible refine Keeps.drew ?_) | (with_reducible refine Keeps.alloc ?_ _) | (with_reducible refine Keeps.setNew ?_ ?_ _))) <;> (dsimp only; omega)))
  have hk0 := Keeps.refl (w.alloc (.cells #[.int .u8 0, .int .u8 0, .int .u8 0, .int .u8 0] 23))
  have hm : s * min l (510 - l) ≤ 65025 ∧ 0 ≤ s * min l (510 - l) := fh_mul s l v3 v4 v5 v6
  obtain ⟨m1, m2⟩ := hm
  have H1 := Lib.hid (fun w' hk => keepk (w0 := (w.alloc (.cells #[.int .u8 0, .int .u8 0, .int .u8 0, .int .u8 0] 23))) (rdvr_any (s * min l (510 - l)) 255 w' (by omega) (by omega) (by omega) (by omega)) hk)
  rw [show dvr (s * min l (510 - l)) 255 = fhD s l from rfl] at H1
  have e1 : (l - fhD s l).tdiv 2 = fhL s l := by unfold fhL; exact Int.tdiv_eq_ediv_of_nonneg (by omega)
  have e2 : h.tmod 256 = h % 256 := Int.tmod_eq_emod_of_nonneg (by omega)
  have e3 : h.tdiv 256 = h / 256 := Int.tdiv_eq_ediv_of_nonneg (by omega)
  have f0 : 0 ≤ h % 256 ∧ h % 256 ≤ 255 := by omega
  obtain ⟨f0, f1⟩ := f0
  have g0 := fh_mul2 (fhD s l) (h % 256) b1.1 (by omega) f0 (by omega)
  have g1 := fh_mul2 (fhD s l) (256 - h % 256) b1.1 (by omega) (by omega) (by omega)
  obtain ⟨g0, g2⟩ := g0
  obtain ⟨g1, g3⟩ := g1
  have H2 := Lib.hid (fun w' hk => keepk (w0 := (w.alloc (.cells #[.int .u8 0, .int .u8 0, .int .u8 0, .int .u8 0] 23))) (rdvr_any (fhD s l * (h % 256)) 256 w' (by omega) (by omega) (by omega) (by omega)) hk)
  have H3 := Lib.hid (fun w' hk => keepk (w0 := (w.alloc (.cells #[.int .u8 0, .int .u8 0, .int .u8 0, .int .u8 0] 23))) (rdvr_any (fhD s l * (256 - h % 256)) 256 w' (by omega) (by omega) (by omega) (by omega)) hk)
  rw [show dvr (fhD s l * (h % 256)) 256 = fhU h s l from rfl] at H2
  rw [show dvr (fhD s l * (256 - h % 256)) 256 = fhN h s l from rfl] at H3
  have hq : h / 256 = 0 ∨ h / 256 = 1 ∨ h / 256 = 2 ∨ h / 256 = 3 ∨ h / 256 = 4 ∨ h / 256 = 5 := by omega
  have eV : fhV h s l = fhP (h / 256) (fhL s l + fhD s l) (fhL s l) (fhL s l + fhU h s l) (fhL s l + fhN h s l) := rfl
  rw [eV]
  clear eV hv
  generalize fhU h s l = up at *
  generalize fhN h s l = dn at *
  generalize fhL s l = lo at *
  generalize fhD s l = d at *
  generalize h % 256 = f at *
  obtain ⟨b10, b11⟩ := b1
  obtain ⟨b20, b21⟩ := b2
  obtain ⟨b30, b31⟩ := b3
  obtain ⟨b40, b41⟩ := b4
  rcases hq with hq | hq | hq | hq | hq | hq
  · rw [hq] at e3 ⊢
    clear hq
    go_enter Try.func37, Try.ntmps37
    go_wp2_with (first | (go_at_call 63; (first | (with_reducible refine (H1.out _ (by first | assumption | exact Keeps.drew (by assumption) | exact Keeps.drewN (by assumption) _)).mono ?_) | (with_reducible refine (H2.out _ (by first | assumption | exact Keeps.drew (by assumption) | exact Keeps.drewN (by assumption) _)).mono ?_) | (with_reducible refine (H3.out _ (by first | assumption | exact Keeps.drew (by assumption) | exact Keeps.drewN (by assumption) _)).mono ?_)); rintro e w1 ⟨rfl, hk⟩; obtain ⟨y0, y1, y2, y3, y4, y5, y6, y7⟩ := HS.out _ hk))
    exact bodyPost_ret (v := .tuple #[.agg #[.int .u8 (lo + d), .int .u8 (lo + up), .int .u8 (lo), .int .u8 a], .bool true]) (by simp [results, Try.results37, go_sem, *]) rfl ⟨rfl, (HB.out.trans (by assumption)).far4 (by omega) _ _ _ _⟩
  · rw [hq] at e3 ⊢
    clear hq
    go_enter Try.func37, Try.ntmps37
    go_wp2_with (first | (go_at_call 63; (first | (with_reducible refine (H1.out _ (by first | assumption | exact Keeps.drew (by assumption) | exact Keeps.drewN (by assumption) _)).mono ?_) | (with_reducible refine (H2.out _ (by first | assumption | exact Keeps.drew (by assumption) | exact Keeps.drewN (by assumption) _)).mono ?_) | (with_reducible refine (H3.out _ (by first | assumption | exact Keeps.drew (by assumption) | exact Keeps.drewN (by assumption) _)).mono ?_)); rintro e w1 ⟨rfl, hk⟩; obtain ⟨y0, y1, y2, y3, y4, y5, y6, y7⟩ := HS.out _ hk))
    exact bodyPost_ret (v := .tuple #[.agg #[.int .u8 (lo + dn), .int .u8 (lo + d), .int .u8 (lo), .int .u8 a], .bool true]) (by simp [results, Try.results37, go_sem, *]) rfl ⟨rfl, (HB.out.trans (by assumption)).far4 (by omega) _ _ _ _⟩
  · rw [hq] at e3 ⊢
    clear hq
    go_enter Try.func37, Try.ntmps37
    go_wp2_with (first | (go_at_call 63; (first | (with_reducible refine (H1.out _ (by first | assumption | exact Keeps.drew (by assumption) | exact Keeps.drewN (by assumption) _)).mono ?_) | (with_reducible refine (H2.out _ (by first | assumption | exact Keeps.drew (by assumption) | exact Keeps.drewN (by assumption) _)).mono ?_) | (with_reducible refine (H3.out _ (by first | assumption | exact Keeps.drew (by assumption) | exact Keeps.drewN (by assumption) _)).mono ?_)); rintro e w1 ⟨rfl, hk⟩; obtain ⟨y0, y1, y2, y3, y4, y5, y6, y7⟩ := HS.out _ hk))
    exact bodyPost_ret (v := .tuple #[.agg #[.int .u8 (lo), .int .u8 (lo + d), .int .u8 (lo + up), .int .u8 a], .bool true]) (by simp [results, Try.results37, go_sem, *]) rfl ⟨rfl, (HB.out.trans (by assumption)).far4 (by omega) _ _ _ _⟩
  · rw [hq] at e3 ⊢
    clear hq
    go_enter Try.func37, Try.ntmps37
    go_wp2_with (first | (go_at_call 63; (first | (with_reducible refine (H1.out _ (by first | assumption | exact Keeps.drew (by assumption) | exact Keeps.drewN (by assumption) _)).mono ?_) | (with_reducible refine (H2.out _ (by first | assumption | exact Keeps.drew (by assumption) | exact Keeps.drewN (by assumption) _)).mono ?_) | (with_reducible refine (H3.out _ (by first | assumption | exact Keeps.drew (by assumption) | exact Keeps.drewN (by assumption) _)).mono ?_)); rintro e w1 ⟨rfl, hk⟩; obtain ⟨y0, y1, y2, y3, y4, y5, y6, y7⟩ := HS.out _ hk))
    exact bodyPost_ret (v := .tuple #[.agg #[.int .u8 (lo), .int .u8 (lo + dn), .int .u8 (lo + d), .int .u8 a], .bool true]) (by simp [results, Try.results37, go_sem, *]) rfl ⟨rfl, (HB.out.trans (by assumption)).far4 (by omega) _ _ _ _⟩
  · rw [hq] at e3 ⊢
    clear hq
    go_enter Try.func37, Try.ntmps37
    go_wp2_with (first | (go_at_call 63; (first | (with_reducible refine (H1.out _ (by first | assumption | exact Keeps.drew (by assumption) | exact Keeps.drewN (by assumption) _)).mono ?_) | (with_reducible refine (H2.out _ (by first | assumption | exact Keeps.drew (by assumption) | exact Keeps.drewN (by assumption) _)).mono ?_) | (with_reducible refine (H3.out _ (by first | assumption | exact Keeps.drew (by assumption) | exact Keeps.drewN (by assumption) _)).mono ?_)); rintro e w1 ⟨rfl, hk⟩; obtain ⟨y0, y1, y2, y3, y4, y5, y6, y7⟩ := HS.out _ hk))
    exact bodyPost_ret (v := .tuple #[.agg #[.int .u8 (lo + up), .int .u8 (lo), .int .u8 (lo + d), .int .u8 a], .bool true]) (by simp [results, Try.results37, go_sem, *]) rfl ⟨rfl, (HB.out.trans (by assumption)).far4 (by omega) _ _ _ _⟩
  · rw [hq] at e3 ⊢
    clear hq
    go_enter Try.func37, Try.ntmps37
    go_wp2_with (first | (go_at_call 63; (first | (with_reducible refine (H1.out _ (by first | assumption | exact Keeps.drew (by assumption) | exact Keeps.drewN (by assumption) _)).mono ?_) | (with_reducible refine (H2.out _ (by first | assumption | exact Keeps.drew (by assumption) | exact Keeps.drewN (by assumption) _)).mono ?_) | (with_reducible refine (H3.out _ (by first | assumption | exact Keeps.drew (by assumption) | exact Keeps.drewN (by assumption) _)).mono ?_)); rintro e w1 ⟨rfl, hk⟩; obtain ⟨y0, y1, y2, y3, y4, y5, y6, y7⟩ := HS.out _ hk))
    exact bodyPost_ret (v := .tuple #[.agg #[.int .u8 (lo + d), .int .u8 (lo), .int .u8 (lo + dn), .int .u8 a], .bool true]) (by simp [results, Try.results37, go_sem, *]) rfl ⟨rfl, (HB.out.trans (by assumption)).far4 (by omega) _ _ _ _⟩
end Go.Proofs.Ytjfimlcljbdglaa
