/- Contracts of package color: Clamp, Premultiply, Scale, Unpremultiply, Valid. -/
import Derived.Test.YtjfimlcljbdglaaCc
import Derived.Test.YtjfimlcljbdglaaCe
namespace Go.Proofs.Ytjfimlcljbdglaa
open Go.RowKit
set_option linter.unusedVariables false
set_option linter.unusedSimpArgs false
def u8b (n : Int) : Prop := 0 ≤ n ∧ n ≤ 255
theorem mem4 {P : Int → Prop} {a b c d n : Int} (ha : P a) (hb : P b) (hc : P c) (hd : P d) (h : n = a ∨ n = b ∨ n = c ∨ n = d) : P n := by
  rcases h with rfl | rfl | rfl | rfl <;> assumption
set_option maxRecDepth 100000 in
set_option maxHeartbeats 1000000 in
theorem clampc_any (p0 p1 p2 p3 : Int) (w : World) (h0 : u8b p0) (h1 : u8b p1) (h2 : u8b p2) (h3 : u8b p3) :
    Calls Try.prog 22 #[.agg #[.int .u8 p0, .int .u8 p1, .int .u8 p2, .int .u8 p3]] w fun e w' => e = .returned (.agg #[.int .u8 (min p0 p3), .int .u8 (min p1 p3), .int .u8 (min p2 p3), .int .u8 p3]) ∧ Keeps w w' := by
  have HS := Lib.hid (show ∀ w', Keeps ((w.alloc (.cells #[.int .u8 p0, .int .u8 p1, .int .u8 p2, .int .u8 p3] 30)).alloc (.cells #[.int .u8 0, .int .u8 0, .int .u8 0, .int .u8 0] 30)) w' → w'.cell? ⟨w.heap.size, 0, none⟩ = some (.int .u8 p0) ∧ w'.frozen? ⟨w.heap.size, 0, none⟩ = false ∧ w'.cell? ⟨w.heap.size, 1, none⟩ = some (.int .u8 p1) ∧ w'.frozen? ⟨w.heap.size, 1, none⟩ = false ∧ w'.cell? ⟨w.heap.size, 2, none⟩ = some (.int .u8 p2) ∧ w'.frozen? ⟨w.heap.size, 2, none⟩ = false ∧ w'.cell? ⟨w.heap.size, 3, none⟩ = some (.int .u8 p3) ∧ w'.frozen? ⟨w.heap.size, 3, none⟩ = false ∧ w'.cell? ⟨w.heap.size + 1, 0, none⟩ = some (.int .u8 0) ∧ w'.frozen? ⟨w.heap.size + 1, 0, none⟩ = false ∧ w'.cell? ⟨w.heap.size + 1, 1, none⟩ = some (.int .u8 0) ∧ w'.frozen? ⟨w.heap.size + 1, 1, none⟩ = false ∧ w'.cell? ⟨w.heap.size + 1, 2, none⟩ = some (.int .u8 0) ∧ w'.frozen? ⟨w.heap.size + 1, 2, none⟩ = false ∧ w'.cell? ⟨w.heap.size + 1, 3, none⟩ = some (.int .u8 0) ∧ w'.frozen? ⟨w.heap.size + 1, 3, none⟩ = false from fun w' hk => ⟨(hk.cell (p := ⟨w.heap.size, 0, none⟩) (by first | (simp; done) | (simp; omega))).trans (by simp [go_sem]), (hk.frozen (p := ⟨w.heap.size, 0, none⟩) (by first | (simp; done) | (simp; omega))).trans (by simp [go_sem]), (hk.cell (p := ⟨w.heap.size, 1, none⟩) (by first | (simp; done) | (simp; omega))).trans (by simp [go_sem]), (hk.frozen (p := ⟨w.heap.size, 1, none⟩) (by first | (simp; done) | (simp; omega))).trans (by simp [go_sem]), (hk.cell (p := ⟨w.heap.size, 2, none⟩) (by first | (simp; done) | (simp; omega))).trans (by simp [go_sem]), (hk.frozen (p := ⟨w.heap.size, 2, none⟩) (by first | (simp; done) | (simp; omega))).trans (by simp [go_sem]), (hk.cell (p := ⟨w.heap.size, 3, none⟩) (by first | (simp; done) | (simp; omega))).trans (by simp [go_sem]), (hk.frozen (p := ⟨w.heap.size, 3, none⟩) (by first | (simp; done) | (simp; omega))).trans (by simp [go_sem]), (hk.cell (p := ⟨w.heap.size + 1, 0, none⟩) (by first | (simp; done) | (simp; omega))).trans (by simp [go_sem]), (hk.frozen (p := ⟨w.heap.size + 1, 0, none⟩) (by first | (simp; done) | (simp; omega))).trans (by simp [go_sem]), (hk.cell (p := ⟨w.heap.size + 1, 1, none⟩) (by first | (simp; done) | (simp; omega))).trans (by simp [go_sem]), (hk.frozen (p := ⟨w.heap.size + 1, 1, none⟩) (by first | (simp; done) | (simp; omega))).trans (by simp [go_sem]), (hk.cell (p := ⟨w.heap.size + 1, 2, none⟩) (by first | (simp; done) | (simp; omega))).trans (by simp [go_sem]), (hk.frozen (p := ⟨w.heap.size + 1, 2, none⟩) (by first | (simp; done) | (simp; omega))).trans (by simp [go_sem]), (hk.cell (p := ⟨w.heap.size + 1, 3, none⟩) (by first | (simp; done) | (simp; omega))).trans (by simp [go_sem]), (hk.frozen (p := ⟨w.heap.size + 1, 3, none⟩) (by first | (simp; done) | (simp; omega))).trans (by simp [go_sem])⟩)
  have HB := Lib.hid (show Keeps w ((w.alloc (.cells #[.int .u8 p0, .int .u8 p1, .int .u8 p2, .int .u8 p3] 30)).alloc (.cells #[.int .u8 0, .int .u8 0, .int .u8 0, .int .u8 0] 30)) from (by (repeat (first | (with_reducible exact Keeps.refl _) | (with_reducible assumption) | (with_reducible refine Keeps.drewN ?_ _) | (with_reducible refine Keeps.drew ?_) | (with_reducible refine Keeps.alloc ?_ _) | (with_reducible refine Keeps.setNew ?_ ?_ _))) <;> (dsimp only; omega)))
  have hk0 := Keeps.refl ((w.alloc (.cells #[.int .u8 p0, .int .u8 p1, .int .u8 p2, .int .u8 p3] 30)).alloc (.cells #[.int .u8 0, .int .u8 0, .int .u8 0, .int .u8 0] 30))
  have GE := Lib.hid (each_clamp p0 p1 p2 p3 (fun n => min n p3) w.heap.size _ (fun n w' hn hk => by
    have hb := mem4 (P := u8b) h0 h1 h2 h3 hn
    have T := HS.out w' hk
    exact clamp1_any n p3 w.heap.size w' T.2.2.2.2.2.2.1 hb.1 hb.2 h3.1 h3.2))
  rw [Int.min_self] at GE
  clear h0 h1 h2 h3
  go_enter Try.func22, Try.ntmps22
  go_wp2_with (go_at_call 43; (with_reducible refine GE.out.mono ?_); rintro e w1 ⟨rfl, hk⟩; obtain ⟨y0, y1, y2, y3, y4, y5, y6, y7, y8, y9, y10, y11, y12, y13, y14, y15⟩ := HS.out _ hk)
  exact bodyPost_ret (v := .agg #[.int .u8 (min p0 p3), .int .u8 (min p1 p3), .int .u8 (min p2 p3), .int .u8 p3]) (by simp [results, Try.results22, go_sem, *]) rfl ⟨rfl, (HB.out.trans hk).far4 (by omega) _ _ _ _⟩
set_option maxRecDepth 100000 in
set_option maxHeartbeats 1000000 in
theorem scale_any (p0 p1 p2 p3 k : Int) (w : World) (h0 : u8b p0) (h1 : u8b p1) (h2 : u8b p2) (h3 : u8b p3) (hk : u8b k) :
    Calls Try.prog 26 #[.agg #[.int .u8 p0, .int .u8 p1, .int .u8 p2, .int .u8 p3], .int .u8 k] w fun e w' => e = .returned (.agg #[.int .u8 (mn8 p0 k), .int .u8 (mn8 p1 k), .int .u8 (mn8 p2 k), .int .u8 (mn8 p3 k)]) ∧ Keeps w w' := by
  have HS := Lib.hid (show ∀ w', Keeps (((w.alloc (.cells #[.int .u8 p0, .int .u8 p1, .int .u8 p2, .int .u8 p3] 30)).alloc (.cells #[.int .u8 k] 5)).alloc (.cells #[.int .u8 0, .int .u8 0, .int .u8 0, .int .u8 0] 30)) w' → w'.cell? ⟨w.heap.size, 0, none⟩ = some (.int .u8 p0) ∧ w'.frozen? ⟨w.heap.size, 0, none⟩ = false ∧ w'.cell? ⟨w.heap.size, 1, none⟩ = some (.int .u8 p1) ∧ w'.frozen? ⟨w.heap.size, 1, none⟩ = false ∧ w'.cell? ⟨w.heap.size, 2, none⟩ = some (.int .u8 p2) ∧ w'.frozen? ⟨w.heap.size, 2, none⟩ = false ∧ w'.cell? ⟨w.heap.size, 3, none⟩ = some (.int .u8 p3) ∧ w'.frozen? ⟨w.heap.size, 3, none⟩ = false ∧ w'.cell? ⟨w.heap.size + 1, 0, none⟩ = some (.int .u8 k) ∧ w'.frozen? ⟨w.heap.size + 1, 0, none⟩ = false ∧ w'.cell? ⟨w.heap.size + 1 + 1, 0, none⟩ = some (.int .u8 0) ∧ w'.frozen? ⟨w.heap.size + 1 + 1, 0, none⟩ = false ∧ w'.cell? ⟨w.heap.size + 1 + 1, 1, none⟩ = some (.int .u8 0) ∧ w'.frozen? ⟨w.heap.size + 1 + 1, 1, none⟩ = false ∧ w'.cell? ⟨w.heap.size + 1 + 1, 2, none⟩ = some (.int .u8 0) ∧ w'.frozen? ⟨w.heap.size + 1 + 1, 2, none⟩ = false ∧ w'.cell? ⟨w.heap.size + 1 + 1, 3, none⟩ = some (.int .u8 0) ∧ w'.frozen? ⟨w.heap.size + 1 + 1, 3, none⟩ = false from fun w' hk => ⟨(hk.cell (p := ⟨w.heap.size, 0, none⟩) (by first | (simp; done) | (simp; omega))).trans (by simp [go_sem]), (hk.frozen (p := ⟨w.heap.size, 0, none⟩) (by first | (simp; done) | (simp; omega))).trans (by simp [go_sem]), (hk.cell (p := ⟨w.heap.size, 1, none⟩) (by first | (simp; done) | (simp; omega))).trans (by simp [go_sem]), (hk.frozen (p := ⟨w.heap.size, 1, none⟩) (by first | (simp; done) | (simp; omega))).trans (by simp [go_sem]), (hk.cell (p := ⟨w.heap.size, 2, none⟩) (by first | (simp; done) | (simp; omega))).trans (by simp [go_sem]), (hk.frozen (p := ⟨w.heap.size, 2, none⟩) (by first | (simp; done) | (simp; omega))).trans (by simp [go_sem]), (hk.cell (p := ⟨w.heap.size, 3, none⟩) (by first | (simp; done) | (simp; omega))).trans (by simp [go_sem]), (hk.frozen (p := ⟨w.heap.size, 3, none⟩) (by first | (simp; done) | (simp; omega))).trans (by simp [go_sem]), (hk.cell (p := ⟨w.heap.size + 1, 0, none⟩) (by first | (simp; done) | (simp; omega))).trans (by simp [go_sem]), (hk.frozen (p := ⟨w.heap.size + 1, 0, none⟩) (by first | (simp; done) | (simp; omega))).trans (by simp [go_sem]), (hk.cell (p := ⟨w.heap.size + 1 + 1, 0, none⟩) (by first | (simp; done) | (simp; omega))).trans (by simp [go_sem]), (hk.frozen (p := ⟨w.heap.size + 1 + 1, 0, none⟩) (by first | (simp; done) | (simp; omega))).trans (by simp [go_sem]), (hk.cell (p := ⟨w.heap.size + 1 + 1, 1, none⟩) (by first | (simp; done) | (simp; omega))).trans (by simp [go_sem]), (hk.frozen (p := ⟨w.heap.size + 1 + 1, 1, none⟩) (by first | (simp; done) | (simp; omega))).trans (by simp [go_sem]), (hk.cell (p := ⟨w.heap.size + 1 + 1, 2, none⟩) (by first | (simp; done) | (simp; omega))).trans (by simp [go_sem]), (hk.frozen (p := ⟨w.heap.size + 1 + 1, 2, none⟩) (by first | (simp; done) | (simp; omega))).trans (by simp [go_sem]), (hk.cell (p := ⟨w.heap.size + 1 + 1, 3, none⟩) (by first | (simp; done) | (simp; omega))).trans (by simp [go_sem]), (hk.frozen (p := ⟨w.heap.size + 1 + 1, 3, none⟩) (by first | (simp; done) | (simp; omega))).trans (by simp [go_sem])⟩)
  have HB := Lib.hid (show Keeps w (((w.alloc (.cells #[.int .u8 p0, .int .u8 p1, .int .u8 p2, .int .u8 p3] 30)).alloc (.cells #[.int .u8 k] 5)).alloc (.cells #[.int .u8 0, .int .u8 0, .int .u8 0, .int .u8 0] 30)) from (by (repeat (first | (with_reducible exact Keeps.refl _) | (with_reducible assumption) | (with_reducible refine Keeps.drewN ?_ _) | (with_reducible refine Keeps.drew ?_) | (with_reducible refine Keeps.alloc ?_ _) | (with_reducible refine Keeps.setNew ?_ ?_ _))) <;> (dsimp only; omega)))
  have hk0 := Keeps.refl (((w.alloc (.cells #[.int .u8 p0, .int .u8 p1, .int .u8 p2, .int .u8 p3] 30)).alloc (.cells #[.int .u8 k] 5)).alloc (.cells #[.int .u8 0, .int .u8 0, .int .u8 0, .int .u8 0] 30))
  have GE := Lib.hid (each_scale p0 p1 p2 p3 (fun n => mn8 n k) (w.heap.size + 1) _ (fun n w' hn hk' => by
    have hb := mem4 (P := u8b) h0 h1 h2 h3 hn
    have T := HS.out w' hk'
    exact scale1_any n k (w.heap.size + 1) w' T.2.2.2.2.2.2.2.2.1 hb.1 hb.2 hk.1 hk.2))
  clear h0 h1 h2 h3 hk
  generalize mn8 p0 k = r0 at *
  generalize mn8 p1 k = r1 at *
  generalize mn8 p2 k = r2 at *
  generalize mn8 p3 k = r3 at *
  go_enter Try.func26, Try.ntmps26
  go_wp2_with (go_at_call 43; (with_reducible refine GE.out.mono ?_); rintro e w1 ⟨rfl, hk⟩; obtain ⟨y0, y1, y2, y3, y4, y5, y6, y7, y8, y9, y10, y11, y12, y13, y14, y15, y16, y17⟩ := HS.out _ hk)
  exact bodyPost_ret (v := .agg #[.int .u8 r0, .int .u8 r1, .int .u8 r2, .int .u8 r3]) (by simp [results, Try.results26, go_sem, *]) rfl ⟨rfl, (HB.out.trans hk).far4 (by omega) _ _ _ _⟩
set_option maxRecDepth 100000 in
set_option maxHeartbeats 1000000 in
theorem prem_any (p0 p1 p2 p3 : Int) (w : World) (h0 : u8b p0) (h1 : u8b p1) (h2 : u8b p2) (h3 : u8b p3) :
    Calls Try.prog 17 #[.agg #[.int .u8 p0, .int .u8 p1, .int .u8 p2, .int .u8 p3]] w fun e w' => e = .returned (.agg #[.int .u8 (mn8 p0 p3), .int .u8 (mn8 p1 p3), .int .u8 (mn8 p2 p3), .int .u8 p3]) ∧ Keeps w w' := by
  have HS := Lib.hid (show ∀ w', Keeps ((w.alloc (.cells #[.int .u8 p0, .int .u8 p1, .int .u8 p2, .int .u8 p3] 23)).alloc (.cells #[.int .u8 0, .int .u8 0, .int .u8 0, .int .u8 0] 30)) w' → w'.cell? ⟨w.heap.size, 0, none⟩ = some (.int .u8 p0) ∧ w'.frozen? ⟨w.heap.size, 0, none⟩ = false ∧ w'.cell? ⟨w.heap.size, 1, none⟩ = some (.int .u8 p1) ∧ w'.frozen? ⟨w.heap.size, 1, none⟩ = false ∧ w'.cell? ⟨w.heap.size, 2, none⟩ = some (.int .u8 p2) ∧ w'.frozen? ⟨w.heap.size, 2, none⟩ = false ∧ w'.cell? ⟨w.heap.size, 3, none⟩ = some (.int .u8 p3) ∧ w'.frozen? ⟨w.heap.size, 3, none⟩ = false ∧ w'.cell? ⟨w.heap.size + 1, 0, none⟩ = some (.int .u8 0) ∧ w'.frozen? ⟨w.heap.size + 1, 0, none⟩ = false ∧ w'.cell? ⟨w.heap.size + 1, 1, none⟩ = some (.int .u8 0) ∧ w'.frozen? ⟨w.heap.size + 1, 1, none⟩ = false ∧ w'.cell? ⟨w.heap.size + 1, 2, none⟩ = some (.int .u8 0) ∧ w'.frozen? ⟨w.heap.size + 1, 2, none⟩ = false ∧ w'.cell? ⟨w.heap.size + 1, 3, none⟩ = some (.int .u8 0) ∧ w'.frozen? ⟨w.heap.size + 1, 3, none⟩ = false from fun w' hk => ⟨(hk.cell (p := ⟨w.heap.size, 0, none⟩) (by first | (simp; done) | (simp; omega))).trans (by simp [go_sem]), (hk.frozen (p := ⟨w.heap.size, 0, none⟩) (by first | (simp; done) | (simp; omega))).trans (by simp [go_sem]), (hk.cell (p := ⟨w.heap.size, 1, none⟩) (by first | (simp; done) | (simp; omega))).trans (by simp [go_sem]), (hk.frozen (p := ⟨w.heap.size, 1, none⟩) (by first | (simp; done) | (simp; omega))).trans (by simp [go_sem]), (hk.cell (p := ⟨w.heap.size, 2, none⟩) (by first | (simp; done) | (simp; omega))).trans (by simp [go_sem]), (hk.frozen (p := ⟨w.heap.size, 2, none⟩) (by first | (simp; done) | (simp; omega))).trans (by simp [go_sem]), (hk.cell (p := ⟨w.heap.size, 3, none⟩) (by first | (simp; done) | (simp; omega))).trans (by simp [go_sem]), (hk.frozen (p := ⟨w.heap.size, 3, none⟩) (by first | (simp; done) | (simp; omega))).trans (by simp [go_sem]), (hk.cell (p := ⟨w.heap.size + 1, 0, none⟩) (by first | (simp; done) | (simp; omega))).trans (by simp [go_sem]), (hk.frozen (p := ⟨w.heap.size + 1, 0, none⟩) (by first | (simp; done) | (simp; omega))).trans (by simp [go_sem]), (hk.cell (p := ⟨w.heap.size + 1, 1, none⟩) (by first | (simp; done) | (simp; omega))).trans (by simp [go_sem]), (hk.frozen (p := ⟨w.heap.size + 1, 1, none⟩) (by first | (simp; done) | (simp; omega))).trans (by simp [go_sem]), (hk.cell (p := ⟨w.heap.size + 1, 2, none⟩) (by first | (simp; done) | (simp; omega))).trans (by simp [go_sem]), (hk.frozen (p := ⟨w.heap.size + 1, 2, none⟩) (by first | (simp; done) | (simp; omega))).trans (by simp [go_sem]), (hk.cell (p := ⟨w.heap.size + 1, 3, none⟩) (by first | (simp; done) | (simp; omega))).trans (by simp [go_sem]), (hk.frozen (p := ⟨w.heap.size + 1, 3, none⟩) (by first | (simp; done) | (simp; omega))).trans (by simp [go_sem])⟩)
  have HB := Lib.hid (show Keeps w ((w.alloc (.cells #[.int .u8 p0, .int .u8 p1, .int .u8 p2, .int .u8 p3] 23)).alloc (.cells #[.int .u8 0, .int .u8 0, .int .u8 0, .int .u8 0] 30)) from (by (repeat (first | (with_reducible exact Keeps.refl _) | (with_reducible assumption) | (with_reducible refine Keeps.drewN ?_ _) | (with_reducible refine Keeps.drew ?_) | (with_reducible refine Keeps.alloc ?_ _) | (with_reducible refine Keeps.setNew ?_ ?_ _))) <;> (dsimp only; omega)))
  have hk0 := Keeps.refl ((w.alloc (.cells #[.int .u8 p0, .int .u8 p1, .int .u8 p2, .int .u8 p3] 23)).alloc (.cells #[.int .u8 0, .int .u8 0, .int .u8 0, .int .u8 0] 30))
  have GE := Lib.hid (each_prem p0 p1 p2 0 (fun n => mn8 n p3) w.heap.size _ (fun n w' hn hk => by
    have hb := mem4 (P := u8b) h0 h1 h2 ⟨by omega, by omega⟩ hn
    have T := HS.out w' hk
    exact prem1_any n p3 w.heap.size w' T.2.2.2.2.2.2.1 hb.1 hb.2 h3.1 h3.2))
  rw [mn8_zero] at GE
  clear h0 h1 h2 h3
  generalize mn8 p0 p3 = r0 at *
  generalize mn8 p1 p3 = r1 at *
  generalize mn8 p2 p3 = r2 at *
  go_enter Try.func17, Try.ntmps17
  go_wp2_with (go_at_call 43; (with_reducible refine GE.out.mono ?_); rintro e w1 ⟨rfl, hk⟩; obtain ⟨y0, y1, y2, y3, y4, y5, y6, y7, y8, y9, y10, y11, y12, y13, y14, y15⟩ := HS.out _ hk; have hsz : w.heap.size + 1 < w1.heap.size := (by have h := hk.size; simp at h; omega); have hsa : w.heap.size < w1.heap.size := (by omega))
  exact bodyPost_ret (v := .agg #[.int .u8 r0, .int .u8 r1, .int .u8 r2, .int .u8 p3]) (by simp [results, Try.results17, go_sem, *]) rfl ⟨rfl, ((HB.out.trans hk).far4 (by omega) _ _ _ _).alloc _⟩
set_option maxRecDepth 100000 in
set_option maxHeartbeats 1000000 in
theorem unprem_any (p0 p1 p2 p3 : Int) (w : World) (h0 : u8b p0) (h1 : u8b p1) (h2 : u8b p2) (h3 : u8b p3) (hp : p3 ≠ 0) :
    Calls Try.prog 24 #[.agg #[.int .u8 p0, .int .u8 p1, .int .u8 p2, .int .u8 p3]] w fun e w' => e = .returned (.agg #[.int .u8 (un8 (min p0 p3) p3), .int .u8 (un8 (min p1 p3) p3), .int .u8 (un8 (min p2 p3) p3), .int .u8 p3]) ∧ Keeps w w' := by
  have HS := Lib.hid (show ∀ w', Keeps ((w.alloc (.cells #[.int .u8 p0, .int .u8 p1, .int .u8 p2, .int .u8 p3] 30)).alloc (.cells #[.int .u8 0, .int .u8 0, .int .u8 0, .int .u8 0] 23)) w' → w'.cell? ⟨w.heap.size, 0, none⟩ = some (.int .u8 p0) ∧ w'.frozen? ⟨w.heap.size, 0, none⟩ = false ∧ w'.cell? ⟨w.heap.size, 1, none⟩ = some (.int .u8 p1) ∧ w'.frozen? ⟨w.heap.size, 1, none⟩ = false ∧ w'.cell? ⟨w.heap.size, 2, none⟩ = some (.int .u8 p2) ∧ w'.frozen? ⟨w.heap.size, 2, none⟩ = false ∧ w'.cell? ⟨w.heap.size, 3, none⟩ = some (.int .u8 p3) ∧ w'.frozen? ⟨w.heap.size, 3, none⟩ = false ∧ w'.cell? ⟨w.heap.size + 1, 0, none⟩ = some (.int .u8 0) ∧ w'.frozen? ⟨w.heap.size + 1, 0, none⟩ = false ∧ w'.cell? ⟨w.heap.size + 1, 1, none⟩ = some (.int .u8 0) ∧ w'.frozen? ⟨w.heap.size + 1, 1, none⟩ = false ∧ w'.cell? ⟨w.heap.size + 1, 2, none⟩ = some (.int .u8 0) ∧ w'.frozen? ⟨w.heap.size + 1, 2, none⟩ = false ∧ w'.cell? ⟨w.heap.size + 1, 3, none⟩ = some (.int .u8 0) ∧ w'.frozen? ⟨w.heap.size + 1, 3, none⟩ = false from fun w' hk => ⟨(hk.cell (p := ⟨w.heap.size, 0, none⟩) (by first | (simp; done) | (simp; omega))).trans (by simp [go_sem]), (hk.frozen (p := ⟨w.heap.size, 0, none⟩) (by first | (simp; done) | (simp; omega))).trans (by simp [go_sem]), (hk.cell (p := ⟨w.heap.size, 1, none⟩) (by first | (simp; done) | (simp; omega))).trans (by simp [go_sem]), (hk.frozen (p := ⟨w.heap.size, 1, none⟩) (by first | (simp; done) | (simp; omega))).trans (by simp [go_sem]), (hk.cell (p := ⟨w.heap.size, 2, none⟩) (by first | (simp; done) | (simp; omega))).trans (by simp [go_sem]), (hk.frozen (p := ⟨w.heap.size, 2, none⟩) (by first | (simp; done) | (simp; omega))).trans (by simp [go_sem]), (hk.cell (p := ⟨w.heap.size, 3, none⟩) (by first | (simp; done) | (simp; omega))).trans (by simp [go_sem]), (hk.frozen (p := ⟨w.heap.size, 3, none⟩) (by first | (simp; done) | (simp; omega))).trans (by simp [go_sem]), (hk.cell (p := ⟨w.heap.size + 1, 0, none⟩) (by first | (simp; done) | (simp; omega))).trans (by simp [go_sem]), (hk.frozen (p := ⟨w.heap.size + 1, 0, none⟩) (by first | (simp; done) | (simp; omega))).trans (by simp [go_sem]), (hk.cell (p := ⟨w.heap.size + 1, 1, none⟩) (by first | (simp; done) | (simp; omega))).trans (by simp [go_sem]), (hk.frozen (p := ⟨w.heap.size + 1, 1, none⟩) (by first | (simp; done) | (simp; omega))).trans (by simp [go_sem]), (hk.cell (p := ⟨w.heap.size + 1, 2, none⟩) (by first | (simp; done) | (simp; omega))).trans (by simp [go_sem]), (hk.frozen (p := ⟨w.heap.size + 1, 2, none⟩) (by first | (simp; done) | (simp; omega))).trans (by simp [go_sem]), (hk.cell (p := ⟨w.heap.size + 1, 3, none⟩) (by first | (simp; done) | (simp; omega))).trans (by simp [go_sem]), (hk.frozen (p := ⟨w.heap.size + 1, 3, none⟩) (by first | (simp; done) | (simp; omega))).trans (by simp [go_sem])⟩)
  have HB := Lib.hid (show Keeps w ((w.alloc (.cells #[.int .u8 p0, .int .u8 p1, .int .u8 p2, .int .u8 p3] 30)).alloc (.cells #[.int .u8 0, .int .u8 0, .int .u8 0, .int .u8 0] 23)) from (by (repeat (first | (with_reducible exact Keeps.refl _) | (with_reducible assumption) | (with_reducible refine Keeps.drewN ?_ _) | (with_reducible refine Keeps.drew ?_) | (with_reducible refine Keeps.alloc ?_ _) | (with_reducible refine Keeps.setNew ?_ ?_ _))) <;> (dsimp only; omega)))
  have hk0 := Keeps.refl ((w.alloc (.cells #[.int .u8 p0, .int .u8 p1, .int .u8 p2, .int .u8 p3] 30)).alloc (.cells #[.int .u8 0, .int .u8 0, .int .u8 0, .int .u8 0] 23))
  have GC := Lib.hid (fun w' hk => keepk (w0 := ((w.alloc (.cells #[.int .u8 p0, .int .u8 p1, .int .u8 p2, .int .u8 p3] 30)).alloc (.cells #[.int .u8 0, .int .u8 0, .int .u8 0, .int .u8 0] 23))) (clampc_any p0 p1 p2 p3 w' h0 h1 h2 h3) hk)
  have m0 : u8b (min p0 p3) := by unfold u8b at *; omega
  have m1 : u8b (min p1 p3) := by unfold u8b at *; omega
  have m2 : u8b (min p2 p3) := by unfold u8b at *; omega
  have GE := Lib.hid (fun w1 hk1 => keepk (w0 := ((w.alloc (.cells #[.int .u8 p0, .int .u8 p1, .int .u8 p2, .int .u8 p3] 30)).alloc (.cells #[.int .u8 0, .int .u8 0, .int .u8 0, .int .u8 0] 23))) (each_unprem (min p0 p3) (min p1 p3) (min p2 p3) p3 (fun n => un8 n p3) w.heap.size w1 (fun n w' hn hk => by
    have hb := mem4 (P := u8b) m0 m1 m2 h3 hn
    have T := HS.out w' (Keeps.trans hk1 hk)
    exact unprem1_any n p3 w.heap.size w' T.2.2.2.2.2.2.1 hb.1 hb.2 h3.1 h3.2)) hk1)
  have t0 : (p3 == 0) = false := by simpa using hp
  clear h0 h1 h2 h3 hp m0 m1 m2
  generalize un8 (min p0 p3) p3 = r0 at *
  generalize un8 (min p1 p3) p3 = r1 at *
  generalize un8 (min p2 p3) p3 = r2 at *
  generalize un8 p3 p3 = r3 at *
  go_enter Try.func24, Try.ntmps24
  go_wp2_with (first | (go_at_call 22; (first | (with_reducible refine (GC.out _ (by first | assumption | exact Keeps.drew (by assumption) | exact Keeps.drewN (by assumption) _)).mono ?_)); rintro e w1 ⟨rfl, hk⟩; obtain ⟨y0, y1, y2, y3, y4, y5, y6, y7, y8, y9, y10, y11, y12, y13, y14, y15⟩ := HS.out _ hk) | (go_at_call 43; (first | (with_reducible refine (GE.out _ (by first | assumption | exact Keeps.drew (by assumption) | exact Keeps.drewN (by assumption) _)).mono ?_)); rintro e w1 ⟨rfl, hk⟩; obtain ⟨y0, y1, y2, y3, y4, y5, y6, y7, y8, y9, y10, y11, y12, y13, y14, y15⟩ := HS.out _ hk; have hsz : w.heap.size + 1 < w1.heap.size := (by have h := hk.size; simp at h; omega); have hsa : w.heap.size < w1.heap.size := (by omega)))
  exact bodyPost_ret (v := .agg #[.int .u8 r0, .int .u8 r1, .int .u8 r2, .int .u8 p3]) (by simp [results, Try.results24, go_sem, *]) rfl ⟨rfl, ((HB.out.trans (by assumption)).far4 (by omega) _ _ _ _).alloc _⟩
set_option maxRecDepth 100000 in
set_option maxHeartbeats 1000000 in
theorem unprem_zero (p0 p1 p2 : Int) (w : World) :
    Calls Try.prog 24 #[.agg #[.int .u8 p0, .int .u8 p1, .int .u8 p2, .int .u8 0]] w fun e w' => e = .returned (.agg #[.int .u8 0, .int .u8 0, .int .u8 0, .int .u8 0]) ∧ Keeps w w' := by
  go_enter Try.func24, Try.ntmps24
  go_wp2
  exact bodyPost_ret (v := .agg #[.int .u8 0, .int .u8 0, .int .u8 0, .int .u8 0]) (by simp [results, Try.results24, go_sem, *]) rfl ⟨rfl, (by (repeat (first | (with_reducible exact Keeps.refl _) | (with_reducible assumption) | (with_reducible refine Keeps.drewN ?_ _) | (with_reducible refine Keeps.drew ?_) | (with_reducible refine Keeps.alloc ?_ _) | (with_reducible refine Keeps.setNew ?_ ?_ _))) <;> ((try dsimp only); omega))⟩
/-! Two pixels, two colors are compared field by field. -/
def eq4 (x y z t x' y' z' t' : Int) : Bool := (x == x') && ((y == y') && ((z == z') && (t == t')))
theorem eq4_refl (x y z t : Int) : eq4 x y z t x y z t = true := by unfold eq4; simp
theorem pxHeld : Try.prog.stoodInHeld 30 = false := by kernel_rfl
theorem pxGuard (op : BinOp) (x y : Operand) (xs ys : Array Value) (w : World) : (eqGuard op 30 x y (.agg xs) (.agg ys)).run Try.prog w = .ok () w := run_eqGuard_agg w op _ x y xs ys (by kernel_rfl)
theorem pxEql (x y z t x' y' z' t' : Int) (w : World) : (binOp .eql 30 (.agg #[.int .u8 x, .int .u8 y, .int .u8 z, .int .u8 t]) (.agg #[.int .u8 x', .int .u8 y', .int .u8 z', .int .u8 t'])).run Try.prog w = .ok (.bool (eq4 x y z t x' y' z' t')) w := by
  have hp := pxHeld
  have hu := Try.underlying30
  rw [run_eql_struct]
  simp [go_sem, hp, hu]
  unfold eq4
  by_cases h : x = x' <;> by_cases k : y = y' <;> by_cases l : z = z' <;> by_cases m : t = t' <;> simp [h, k, l, m]
theorem coHeld : Try.prog.stoodInHeld 23 = false := by kernel_rfl
theorem coGuard (op : BinOp) (x y : Operand) (xs ys : Array Value) (w : World) : (eqGuard op 23 x y (.agg xs) (.agg ys)).run Try.prog w = .ok () w := run_eqGuard_agg w op _ x y xs ys (by kernel_rfl)
theorem coEql (x y z t x' y' z' t' : Int) (w : World) : (binOp .eql 23 (.agg #[.int .u8 x, .int .u8 y, .int .u8 z, .int .u8 t]) (.agg #[.int .u8 x', .int .u8 y', .int .u8 z', .int .u8 t'])).run Try.prog w = .ok (.bool (eq4 x y z t x' y' z' t')) w := by
  have hp := coHeld
  have hu := Try.underlying23
  rw [run_eql_struct]
  simp [go_sem, hp, hu]
  unfold eq4
  by_cases h : x = x' <;> by_cases k : y = y' <;> by_cases l : z = z' <;> by_cases m : t = t' <;> simp [h, k, l, m]
def validP (p0 p1 p2 p3 : Int) : Bool := eq4 (min p0 p3) (min p1 p3) (min p2 p3) p3 p0 p1 p2 p3
set_option maxRecDepth 100000 in
set_option maxHeartbeats 1000000 in
theorem validc_any (p0 p1 p2 p3 : Int) (w : World) (h0 : u8b p0) (h1 : u8b p1) (h2 : u8b p2) (h3 : u8b p3) :
    Calls Try.prog 19 #[.agg #[.int .u8 p0, .int .u8 p1, .int .u8 p2, .int .u8 p3]] w fun e w' => e = .returned (.bool (validP p0 p1 p2 p3)) ∧ Keeps w w' := by
  have HS := Lib.hid (show ∀ w', Keeps (w.alloc (.cells #[.int .u8 p0, .int .u8 p1, .int .u8 p2, .int .u8 p3] 30)) w' → w'.cell? ⟨w.heap.size, 0, none⟩ = some (.int .u8 p0) ∧ w'.frozen? ⟨w.heap.size, 0, none⟩ = false ∧ w'.cell? ⟨w.heap.size, 1, none⟩ = some (.int .u8 p1) ∧ w'.frozen? ⟨w.heap.size, 1, none⟩ = false ∧ w'.cell? ⟨w.heap.size, 2, none⟩ = some (.int .u8 p2) ∧ w'.frozen? ⟨w.heap.size, 2, none⟩ = false ∧ w'.cell? ⟨w.heap.size, 3, none⟩ = some (.int .u8 p3) ∧ w'.frozen? ⟨w.heap.size, 3, none⟩ = false from fun w' hk => ⟨(hk.cell (p := ⟨w.heap.size, 0, none⟩) (by first | (simp; done) | (simp; omega))).trans (by simp [go_sem]), (hk.frozen (p := ⟨w.heap.size, 0, none⟩) (by first | (simp; done) | (simp; omega))).trans (by simp [go_sem]), (hk.cell (p := ⟨w.heap.size, 1, none⟩) (by first | (simp; done) | (simp; omega))).trans (by simp [go_sem]), (hk.frozen (p := ⟨w.heap.size, 1, none⟩) (by first | (simp; done) | (simp; omega))).trans (by simp [go_sem]), (hk.cell (p := ⟨w.heap.size, 2, none⟩) (by first | (simp; done) | (simp; omega))).trans (by simp [go_sem]), (hk.frozen (p := ⟨w.heap.size, 2, none⟩) (by first | (simp; done) | (simp; omega))).trans (by simp [go_sem]), (hk.cell (p := ⟨w.heap.size, 3, none⟩) (by first | (simp; done) | (simp; omega))).trans (by simp [go_sem]), (hk.frozen (p := ⟨w.heap.size, 3, none⟩) (by first | (simp; done) | (simp; omega))).trans (by simp [go_sem])⟩)
  have HB := Lib.hid (show Keeps w (w.alloc (.cells #[.int .u8 p0, .int .u8 p1, .int .u8 p2, .int .u8 p3] 30)) from (by (repeat (first | (with_reducible exact Keeps.refl _) | (with_reducible assumption) | (with_reducible refine Keeps.drewN ?_ _) | (with_reducible refine Keeps.drew ?_) | (with_reducible refine Keeps.alloc ?_ _) | (with_reducible refine Keeps.setNew ?_ ?_ _))) <;> (dsimp only; omega)))
  have hk0 := Keeps.refl (w.alloc (.cells #[.int .u8 p0, .int .u8 p1, .int .u8 p2, .int .u8 p3] 30))
  have GC := Lib.hid (fun k : KW (w.alloc (.cells #[.int .u8 p0, .int .u8 p1, .int .u8 p2, .int .u8 p3] 30)) => keepq ((fun w => clampc_any p0 p1 p2 p3 w h0 h1 h2 h3) k.w))
  have z0 : ∀ k : KW (w.alloc (.cells #[.int .u8 p0, .int .u8 p1, .int .u8 p2, .int .u8 p3] 30)), k.w.cell? ⟨w.heap.size, 0, none⟩ = some (.int .u8 p0) := fun k => (HS.out _ k.keeps).1
  have z1 : ∀ k : KW (w.alloc (.cells #[.int .u8 p0, .int .u8 p1, .int .u8 p2, .int .u8 p3] 30)), k.w.cell? ⟨w.heap.size, 1, none⟩ = some (.int .u8 p1) := fun k => (HS.out _ k.keeps).2.2.1
  have z2 : ∀ k : KW (w.alloc (.cells #[.int .u8 p0, .int .u8 p1, .int .u8 p2, .int .u8 p3] 30)), k.w.cell? ⟨w.heap.size, 2, none⟩ = some (.int .u8 p2) := fun k => (HS.out _ k.keeps).2.2.2.2.1
  have z3 : ∀ k : KW (w.alloc (.cells #[.int .u8 p0, .int .u8 p1, .int .u8 p2, .int .u8 p3] 30)), k.w.cell? ⟨w.heap.size, 3, none⟩ = some (.int .u8 p3) := fun k => (HS.out _ k.keeps).2.2.2.2.2.2.1
  have g1 := pxGuard
  have g2 := pxEql
  clear h0 h1 h2 h3
  go_enter Try.func19, Try.ntmps19
  go_wp2_with fail
  refine wp_region_kept ((w.alloc (.cells #[.int .u8 p0, .int .u8 p1, .int .u8 p2, .int .u8 p3] 30))) (by kernel_rfl) (by kernel_rfl) (hk0) ?_
  repeat (first | go_big_quiet_skip | (go_big_quiet_want; go_big_quiet_op; first | go_big_quiet_on | go_big_quiet_call ((go_at_call 22; first | (with_reducible exact GC.out _)))))
  refine wpQuiet_nil ?_
  rintro w' ⟨k9, rfl⟩
  have hk := k9.keeps
  generalize k9.w = w9 at hk ⊢
  clear k9
  go_wp2_with fail
  go_ret
  exact ⟨rfl, HB.out.trans hk⟩
end Go.Proofs.Ytjfimlcljbdglaa
