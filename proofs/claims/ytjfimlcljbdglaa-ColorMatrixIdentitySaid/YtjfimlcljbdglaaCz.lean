/- Contract of color.ApplyMatrix at a matrix in range. -/
import Derived.Test.YtjfimlcljbdglaaCy
namespace Go.Proofs.Ytjfimlcljbdglaa
open Go.RowKit
set_option linter.unusedVariables false
set_option linter.unusedSimpArgs false
set_option maxRecDepth 100000 in
set_option maxHeartbeats 8000000 in
theorem apply_ok (M : Nat → Int) (p q r t : Int) (w : World) (hM : mOk M) (h0 : u8b p) (h1 : u8b q) (h2 : u8b r) (h3 : u8b t) :
    Calls Try.prog 32 #[.agg #[.int .i64 (M 0), .int .i64 (M 1), .int .i64 (M 2), .int .i64 (M 3), .int .i64 (M 4), .int .i64 (M 5), .int .i64 (M 6), .int .i64 (M 7), .int .i64 (M 8), .int .i64 (M 9), .int .i64 (M 10), .int .i64 (M 11), .int .i64 (M 12), .int .i64 (M 13), .int .i64 (M 14), .int .i64 (M 15), .int .i64 (M 16), .int .i64 (M 17), .int .i64 (M 18), .int .i64 (M 19)], .agg #[.int .u8 p, .int .u8 q, .int .u8 r, .int .u8 t]] w fun e w' => e = .returned (.tuple #[.agg #[.int .u8 (amR M 0 p q r t), .int .u8 (amR M 1 p q r t), .int .u8 (amR M 2 p q r t), .int .u8 (amR M 3 p q r t)], .bool true]) ∧ Keeps w w' := by
  have BD0 : Hid ((-16711680 ≤ M 0 * p ∧ M 0 * p ≤ 16711680) ∧ (-16711680 ≤ M 1 * q ∧ M 1 * q ≤ 16711680) ∧ (-16711680 ≤ M 2 * r ∧ M 2 * r ≤ 16711680) ∧ (-16711680 ≤ M 3 * t ∧ M 3 * t ≤ 16711680) ∧ (-65536 ≤ M 4 ∧ M 4 ≤ 65536)) := Lib.hid ⟨mul_bd _ _ (hM 0 (by omega)) h0, mul_bd _ _ (hM 1 (by omega)) h1, mul_bd _ _ (hM 2 (by omega)) h2, mul_bd _ _ (hM 3 (by omega)) h3, hM 4 (by omega)⟩
  have bd0 := BD0.out
  have G0 := Lib.hid (fun w => dvr_any (M 0 * p + M 1 * q + M 2 * r + M 3 * t + M 4) 256 w (by omega) (by omega) (by omega) (by omega))
  have C0 := Lib.hid (fun w => clamp_any (dvr (M 0 * p + M 1 * q + M 2 * r + M 3 * t + M 4) 256) 0 255 w)
  rw [show clI (dvr (M 0 * p + M 1 * q + M 2 * r + M 3 * t + M 4) 256) 0 255 = amR M 0 p q r t from rfl] at C0
  have a0 := clI_in (dvr (M 0 * p + M 1 * q + M 2 * r + M 3 * t + M 4) 256) 255 (by omega)
  rw [show clI (dvr (M 0 * p + M 1 * q + M 2 * r + M 3 * t + M 4) 256) 0 255 = amR M 0 p q r t from rfl] at a0
  clear bd0
  generalize amR M 0 p q r t = r0 at *
  generalize dvr (M 0 * p + M 1 * q + M 2 * r + M 3 * t + M 4) 256 = x0 at *
  obtain ⟨a00, a01⟩ := a0
  have BD1 : Hid ((-16711680 ≤ M 5 * p ∧ M 5 * p ≤ 16711680) ∧ (-16711680 ≤ M 6 * q ∧ M 6 * q ≤ 16711680) ∧ (-16711680 ≤ M 7 * r ∧ M 7 * r ≤ 16711680) ∧ (-16711680 ≤ M 8 * t ∧ M 8 * t ≤ 16711680) ∧ (-65536 ≤ M 9 ∧ M 9 ≤ 65536)) := Lib.hid ⟨mul_bd _ _ (hM 5 (by omega)) h0, mul_bd _ _ (hM 6 (by omega)) h1, mul_bd _ _ (hM 7 (by omega)) h2, mul_bd _ _ (hM 8 (by omega)) h3, hM 9 (by omega)⟩
  have bd1 := BD1.out
  have G1 := Lib.hid (fun w => dvr_any (M 5 * p + M 6 * q + M 7 * r + M 8 * t + M 9) 256 w (by omega) (by omega) (by omega) (by omega))
  have C1 := Lib.hid (fun w => clamp_any (dvr (M 5 * p + M 6 * q + M 7 * r + M 8 * t + M 9) 256) 0 255 w)
  rw [show clI (dvr (M 5 * p + M 6 * q + M 7 * r + M 8 * t + M 9) 256) 0 255 = amR M 1 p q r t from rfl] at C1
  have a1 := clI_in (dvr (M 5 * p + M 6 * q + M 7 * r + M 8 * t + M 9) 256) 255 (by omega)
  rw [show clI (dvr (M 5 * p + M 6 * q + M 7 * r + M 8 * t + M 9) 256) 0 255 = amR M 1 p q r t from rfl] at a1
  clear bd1
  generalize amR M 1 p q r t = r1 at *
  generalize dvr (M 5 * p + M 6 * q + M 7 * r + M 8 * t + M 9) 256 = x1 at *
  obtain ⟨a10, a11⟩ := a1
  have BD2 : Hid ((-16711680 ≤ M 10 * p ∧ M 10 * p ≤ 16711680) ∧ (-16711680 ≤ M 11 * q ∧ M 11 * q ≤ 16711680) ∧ (-16711680 ≤ M 12 * r ∧ M 12 * r ≤ 16711680) ∧ (-16711680 ≤ M 13 * t ∧ M 13 * t ≤ 16711680) ∧ (-65536 ≤ M 14 ∧ M 14 ≤ 65536)) := Lib.hid ⟨mul_bd _ _ (hM 10 (by omega)) h0, mul_bd _ _ (hM 11 (by omega)) h1, mul_bd _ _ (hM 12 (by omega)) h2, mul_bd _ _ (hM 13 (by omega)) h3, hM 14 (by omega)⟩
  have bd2 := BD2.out
  have G2 := Lib.hid (fun w => dvr_any (M 10 * p + M 11 * q + M 12 * r + M 13 * t + M 14) 256 w (by omega) (by omega) (by omega) (by omega))
  have C2 := Lib.hid (fun w => clamp_any (dvr (M 10 * p + M 11 * q + M 12 * r + M 13 * t + M 14) 256) 0 255 w)
  rw [show clI (dvr (M 10 * p + M 11 * q + M 12 * r + M 13 * t + M 14) 256) 0 255 = amR M 2 p q r t from rfl] at C2
  have a2 := clI_in (dvr (M 10 * p + M 11 * q + M 12 * r + M 13 * t + M 14) 256) 255 (by omega)
  rw [show clI (dvr (M 10 * p + M 11 * q + M 12 * r + M 13 * t + M 14) 256) 0 255 = amR M 2 p q r t from rfl] at a2
  clear bd2
  generalize amR M 2 p q r t = r2 at *
  generalize dvr (M 10 * p + M 11 * q + M 12 * r + M 13 * t + M 14) 256 = x2 at *
  obtain ⟨a20, a21⟩ := a2
  have BD3 : Hid ((-16711680 ≤ M 15 * p ∧ M 15 * p ≤ 16711680) ∧ (-16711680 ≤ M 16 * q ∧ M 16 * q ≤ 16711680) ∧ (-16711680 ≤ M 17 * r ∧ M 17 * r ≤ 16711680) ∧ (-16711680 ≤ M 18 * t ∧ M 18 * t ≤ 16711680) ∧ (-65536 ≤ M 19 ∧ M 19 ≤ 65536)) := Lib.hid ⟨mul_bd _ _ (hM 15 (by omega)) h0, mul_bd _ _ (hM 16 (by omega)) h1, mul_bd _ _ (hM 17 (by omega)) h2, mul_bd _ _ (hM 18 (by omega)) h3, hM 19 (by omega)⟩
  have bd3 := BD3.out
  have G3 := Lib.hid (fun w => dvr_any (M 15 * p + M 16 * q + M 17 * r + M 18 * t + M 19) 256 w (by omega) (by omega) (by omega) (by omega))
  have C3 := Lib.hid (fun w => clamp_any (dvr (M 15 * p + M 16 * q + M 17 * r + M 18 * t + M 19) 256) 0 255 w)
  rw [show clI (dvr (M 15 * p + M 16 * q + M 17 * r + M 18 * t + M 19) 256) 0 255 = amR M 3 p q r t from rfl] at C3
  have a3 := clI_in (dvr (M 15 * p + M 16 * q + M 17 * r + M 18 * t + M 19) 256) 255 (by omega)
  rw [show clI (dvr (M 15 * p + M 16 * q + M 17 * r + M 18 * t + M 19) 256) 0 255 = amR M 3 p q r t from rfl] at a3
  clear bd3
  generalize amR M 3 p q r t = r3 at *
  generalize dvr (M 15 * p + M 16 * q + M 17 * r + M 18 * t + M 19) 256 = x3 at *
  obtain ⟨a30, a31⟩ := a3
  have hM := Lib.hid hM
  obtain ⟨p0, p1⟩ := h0
  obtain ⟨q0, q1⟩ := h1
  obtain ⟨r0', r1'⟩ := h2
  obtain ⟨t0, t1⟩ := h3
  have HS := Lib.hid (show ∀ w', Keeps (((w.alloc (.cells #[.int .i64 (M 0), .int .i64 (M 1), .int .i64 (M 2), .int .i64 (M 3), .int .i64 (M 4), .int .i64 (M 5), .int .i64 (M 6), .int .i64 (M 7), .int .i64 (M 8), .int .i64 (M 9), .int .i64 (M 10), .int .i64 (M 11), .int .i64 (M 12), .int .i64 (M 13), .int .i64 (M 14), .int .i64 (M 15), .int .i64 (M 16), .int .i64 (M 17), .int .i64 (M 18), .int .i64 (M 19)] 42)).alloc (.cells #[.int .u8 p, .int .u8 q, .int .u8 r, .int .u8 t] 23)).alloc (.cells #[.int .u8 0, .int .u8 0, .int .u8 0, .int .u8 0] 23)) w' → w'.cell? ⟨w.heap.size, 0, none⟩ = some (.int .i64 (M 0)) ∧ w'.frozen? ⟨w.heap.size, 0, none⟩ = false ∧ w'.cell? ⟨w.heap.size, 1, none⟩ = some (.int .i64 (M 1)) ∧ w'.frozen? ⟨w.heap.size, 1, none⟩ = false ∧ w'.cell? ⟨w.heap.size, 2, none⟩ = some (.int .i64 (M 2)) ∧ w'.frozen? ⟨w.heap.size, 2, none⟩ = false ∧ w'.cell? ⟨w.heap.size, 3, none⟩ = some (.int .i64 (M 3)) ∧ w'.frozen? ⟨w.heap.size, 3, none⟩ = false ∧ w'.cell? ⟨w.heap.size, 4, none⟩ = some (.int .i64 (M 4)) ∧ w'.frozen? ⟨w.heap.size, 4, none⟩ = false ∧ w'.cell? ⟨w.heap.size, 5, none⟩ = some (.int .i64 (M 5)) ∧ w'.frozen? ⟨w.heap.size, 5, none⟩ = false ∧ w'.cell? ⟨w.heap.size, 6, none⟩ = some (.int .i64 (M 6)) ∧ w'.frozen? ⟨w.heap.size, 6, none⟩ = false ∧ w'.cell? ⟨w.heap.size, 7, none⟩ = some (.int .i64 (M 7)) ∧ w'.frozen? ⟨w.heap.size, 7, none⟩ = false ∧ w'.cell? ⟨w.heap.size, 8, none⟩ = some (.int .i64 (M 8)) ∧ w'.frozen? ⟨w.heap.size, 8, none⟩ = false ∧ w'.cell? ⟨w.heap.size, 9, none⟩ = some (.int .i64 (M 9)) ∧ w'.frozen? ⟨w.heap.size, 9, none⟩ = false ∧ w'.cell? ⟨w.heap.size, 10, none⟩ = some (.int .i64 (M 10)) ∧ w'.frozen? ⟨w.heap.size, 10, none⟩ = false ∧ w'.cell? ⟨w.heap.size, 11, none⟩ = some (.int .i64 (M 11)) ∧ w'.frozen? ⟨w.heap.size, 11, none⟩ = false ∧ w'.cell? ⟨w.heap.size, 12, none⟩ = some (.int .i64 (M 12)) ∧ w'.frozen? ⟨w.heap.size, 12, none⟩ = false ∧ w'.cell? ⟨w.heap.size, 13, none⟩ = some (.int .i64 (M 13)) ∧ w'.frozen? ⟨w.heap.size, 13, none⟩ = false ∧ w'.cell? ⟨w.heap.size, 14, none⟩ = some (.int .i64 (M 14)) ∧ w'.frozen? ⟨w.heap.size, 14, none⟩ = false ∧ w'.cell? ⟨w.heap.size, 15, none⟩ = some (.int .i64 (M 15)) ∧ w'.frozen? ⟨w.heap.size, 15, none⟩ = false ∧ w'.cell? ⟨w.heap.size, 16, none⟩ = some (.int .i64 (M 16)) ∧ w'.frozen? ⟨w.heap.size, 16, none⟩ = false ∧ w'.cell? ⟨w.heap.size, 17, none⟩ = some (.int .i64 (M 17)) ∧ w'.frozen? ⟨w.heap.size, 17, none⟩ = false ∧ w'.cell? ⟨w.heap.size, 18, none⟩ = some (.int .i64 (M 18)) ∧ w'.frozen? ⟨w.heap.size, 18, none⟩ = false ∧ w'.cell? ⟨w.heap.size, 19, none⟩ = some (.int .i64 (M 19)) ∧ w'.frozen? ⟨w.heap.size, 19, none⟩ = false ∧ w'.cell? ⟨w.heap.size + 1, 0, none⟩ = some (.int .u8 p) ∧ w'.frozen? ⟨w.heap.size + 1, 0, none⟩ = false ∧ w'.cell? ⟨w.heap.size + 1, 1, none⟩ = some (.int .u8 q) ∧ w'.frozen? ⟨w.heap.size + 1, 1, none⟩ = false ∧ w'.cell? ⟨w.heap.size + 1, 2, none⟩ = some (.int .u8 r) ∧ w'.frozen? ⟨w.heap.size + 1, 2, none⟩ = false ∧ w'.cell? ⟨w.heap.size + 1, 3, none⟩ = some (.int .u8 t) ∧ w'.frozen? ⟨w.heap.size + 1, 3, none⟩ = false ∧ w'.cell? ⟨w.heap.size + 1 + 1, 0, none⟩ = some (.int .u8 0) ∧ w'.frozen? ⟨w.heap.size + 1 + 1, 0, none⟩ = false ∧ w'.cell? ⟨w.heap.size + 1 + 1, 1, none⟩ = some (.int .u8 0) ∧ w'.frozen? ⟨w.heap.size + 1 + 1, 1, none⟩ = false ∧ w'.cell? ⟨w.heap.size + 1 + 1, 2, none⟩ = some (.int .u8 0) ∧ w'.frozen? ⟨w.heap.size + 1 + 1, 2, none⟩ = false ∧ w'.cell? ⟨w.heap.size + 1 + 1, 3, none⟩ = some (.int .u8 0) ∧ w'.frozen? ⟨w.heap.size + 1 + 1, 3, none⟩ = false from fun w' hk => ⟨(hk.cell (p := ⟨w.heap.size, 0, none⟩) (by first | (simp; done) | (simp; omega))).trans (by simp [go_sem]), (hk.frozen (p := ⟨w.heap.size, 0, none⟩) (by first | (simp; done) | (simp; omega))).trans (by simp [go_sem]), (hk.cell (p := ⟨w.heap.size, 1, none⟩) (by first | (simp; done) | (simp; omega))).trans (by simp [go_sem]), (hk.frozen (p := ⟨w.heap.size, 1, none⟩) (by first | (simp; done) | (simp; omega))).trans (by simp [go_sem]), (hk.cell (p := ⟨w.heap.size, 2, none⟩) (by first | (simp; done) | (simp; omega))).trans (by simp [go_sem]), (hk.frozen (p := ⟨w.heap.size, 2, none⟩) (by first | (simp; done) | (simp; omega))).trans (by simp [go_sem]), (hk.cell (p := ⟨w.heap.size, 3, none⟩) (by first | (simp; done) | (simp; omega))).trans (by simp [go_sem]), (hk.frozen (p := ⟨w.heap.size, 3, none⟩) (by first | (simp; done) | (simp; omega))).trans (by simp [go_sem]), (hk.cell (p := ⟨w.heap.size, 4, none⟩) (by first | (simp; done) | (simp; omega))).trans (by simp [go_sem]), (hk.frozen (p := ⟨w.heap.size, 4, none⟩) (by first | (simp; done) | (simp; omega))).trans (by simp [go_sem]), (hk.cell (p := ⟨w.heap.size, 5, none⟩) (by first | (simp; done) | (simp; omega))).trans (by simp [go_sem]), (hk.frozen (p := ⟨w.heap.size, 5, none⟩) (by first | (simp; done) | (simp; omega))).trans (by simp [go_sem]), (hk.cell (p := ⟨w.heap.size, 6, none⟩) (by first | (simp; done) | (simp; omega))).trans (by simp [go_sem]), (hk.frozen (p := ⟨w.heap.size, 6, none⟩) (by first | (simp; done) | (simp; omega))).trans (by simp [go_sem]), (hk.cell (p := ⟨w.heap.size, 7, none⟩) (by first | (simp; done) | (simp; omega))).trans (by simp [go_sem]), (hk.frozen (p := ⟨w.heap.size, 7, none⟩) (by first | (simp; done) | (simp; omega))).trans (by simp [go_sem]), (hk.cell (p := ⟨w.heap.size, 8, none⟩) (by first | (simp; done) | (simp; omega))).trans (by simp [go_sem]), (hk.frozen (p := ⟨w.heap.size, 8, none⟩) (by first | (simp; done) | (simp; omega))).trans (by simp [go_sem]), (hk.cell (p := ⟨w.heap.size, 9, none⟩) (by first | (simp; done) | (simp; omega))).trans (by simp [go_sem]), (hk.frozen (p := ⟨w.heap.size, 9, none⟩) (by first | (simp; done) | (simp; omega))).trans (by simp [go_sem]), (hk.cell (p := ⟨w.heap.size, 10, none⟩) (by first | (simp; done) | (simp; omega))).trans (by simp [go_sem]), (hk.frozen (p := ⟨w.heap.size, 10, none⟩) (by first | (simp; done) | (simp; omega))).trans (by simp [go_sem]), (hk.cell (p := ⟨w.heap.size, 11, none⟩) (by first | (simp; done) | (simp; omega))).trans (by simp [go_sem]), (hk.frozen (p := ⟨w.heap.size, 11, none⟩) (by first | (simp; done) | (simp; omega))).trans (by simp [go_sem]), (hk.cell (p := ⟨w.heap.size, 12, none⟩) (by first | (simp; done) | (simp; omega))).trans (by simp [go_sem]), (hk.frozen (p := ⟨w.heap.size, 12, none⟩) (by first | (simp; done) | (simp; omega))).trans (by simp [go_sem]), (hk.cell (p := ⟨w.heap.size, 13, none⟩) (by first | (simp; done) | (simp; omega))).trans (by simp [go_sem]), (hk.frozen (p := ⟨w.heap.size, 13, none⟩) (by first | (simp; done) | (simp; omega))).trans (by simp [go_sem]), (hk.cell (p := ⟨w.heap.size, 14, none⟩) (by first | (simp; done) | (simp; omega))).trans (by simp [go_sem]), (hk.frozen (p := ⟨w.heap.size, 14, none⟩) (by first | (simp; done) | (simp; omega))).trans (by simp [go_sem]), (hk.cell (p := ⟨w.heap.size, 15, none⟩) (by first | (simp; done) | (simp; omega))).trans (by simp [go_sem]), (hk.frozen (p := ⟨w.heap.size, 15, none⟩) (by first | (simp; done) | (simp; omega))).trans (by simp [go_sem]), (hk.cell (p := ⟨w.heap.size, 16, none⟩) (by first | (simp; done) | (simp; omega))).trans (by simp [go_sem]), (hk.frozen (p := ⟨w.heap.size, 16, none⟩) (by first | (simp; done) | (simp; omega))).trans (by simp [go_sem]), (hk.cell (p := ⟨w.heap.size, 17, none⟩) (by first | (simp; done) | (simp; omega))).trans (by simp [go_sem]), (hk.frozen (p := ⟨w.heap.size, 17, none⟩) (by first | (simp; done) | (simp; omega))).trans (by simp [go_sem]), (hk.cell (p := ⟨w.heap.size, 18, none⟩) (by first | (simp; done) | (simp; omega))).trans (by simp [go_sem]), (hk.frozen (p := ⟨w.heap.size, 18, none⟩) (by first | (simp; done) | (simp; omega))).trans (by simp [go_sem]), (hk.cell (p := ⟨w.heap.size, 19, none⟩) (by first | (simp; done) | (simp; omega))).trans (by simp [go_sem]), (hk.frozen (p := ⟨w.heap.size, 19, none⟩) (by first | (simp; done) | (simp; omega))).trans (by simp [go_sem]), (hk.cell (p := ⟨w.heap.size + 1, 0, none⟩) (by first | (simp; done) | (simp; omega))).trans (by simp [go_sem]), (hk.frozen (p := ⟨w.heap.size + 1, 0, none⟩) (by first | (simp; done) | (simp; omega))).trans (by simp [go_sem]), (hk.cell (p := ⟨w.heap.size + 1, 1, none⟩) (by first | (simp; done) | (simp; omega))).trans (by simp [go_sem]), (hk.frozen (p := ⟨w.heap.size + 1, 1, none⟩) (by first | (simp; done) | (simp; omega))).trans (by simp [go_sem]), (hk.cell (p := ⟨w.heap.size + 1, 2, none⟩) (by first | (simp; done) | (simp; omega))).trans (by simp [go_sem]), (hk.frozen (p := ⟨w.heap.size + 1, 2, none⟩) (by first | (simp; done) | (simp; omega))).trans (by simp [go_sem]), (hk.cell (p := ⟨w.heap.size + 1, 3, none⟩) (by first | (simp; done) | (simp; omega))).trans (by simp [go_sem]), (hk.frozen (p := ⟨w.heap.size + 1, 3, none⟩) (by first | (simp; done) | (simp; omega))).trans (by simp [go_sem]), (hk.cell (p := ⟨w.heap.size + 1 + 1, 0, none⟩) (by first | (simp; done) | (simp; omega))).trans (by simp [go_sem]), (hk.frozen (p := ⟨w.heap.size + 1 + 1, 0, none⟩) (by first | (simp; done) | (simp; omega))).trans (by simp [go_sem]), (hk.cell (p := ⟨w.heap.size + 1 + 1, 1, none⟩) (by first | (simp; done) | (simp; omega))).trans (by simp [go_sem]), (hk.frozen (p := ⟨w.heap.size + 1 + 1, 1, none⟩) (by first | (simp; done) | (simp; omega))).trans (by simp [go_sem]), (hk.cell (p := ⟨w.heap.size + 1 + 1, 2, none⟩) (by first | (simp; done) | (simp; omega))).trans (by simp [go_sem]), (hk.frozen (p := ⟨w.heap.size + 1 + 1, 2, none⟩) (by first | (simp; done) | (simp; omega))).trans (by simp [go_sem]), (hk.cell (p := ⟨w.heap.size + 1 + 1, 3, none⟩) (by first | (simp; done) | (simp; omega))).trans (by simp [go_sem]), (hk.frozen (p := ⟨w.heap.size + 1 + 1, 3, none⟩) (by first | (simp; done) | (simp; omega))).trans (by simp [go_sem])⟩)
  have HB := Lib.hid (show Keeps w (((w.alloc (.cells #[.int .i64 (M 0), .int .i64 (M 1), .int .i64 (M 2), .int .i64 (M 3), .int .i64 (M 4), .int .i64 (M 5), .int .i64 (M 6), .int .i64 (M 7), .int .i64 (M 8), .int .i64 (M 9), .int .i64 (M 10), .int .i64 (M 11), .int .i64 (M 12), .int .i64 (M 13), .int .i64 (M 14), .int .i64 (M 15), .int .i64 (M 16), .int .i64 (M 17), .int .i64 (M 18), .int .i64 (M 19)] 42)).alloc (.cells #[.int .u8 p, .int .u8 q, .int .u8 r, .int .u8 t] 23)).alloc (.cells #[.int .u8 0, .int .u8 0, .int .u8 0, .int .u8 0] 23)) from (by (repeat (first | (with_reducible exact Keeps.refl _) | (with_reducible assumption) | (with_reducible refine Keeps.drewN ?_ _) | (with_reducible refine Keeps.drew ?_) | (with_reducible refine Keeps.alloc ?_ _) | (with_reducible refine Keeps.setNew ?_ ?_ _))) <;> (dsimp only; omega)))
  have hk0 := Keeps.refl (((w.alloc (.cells #[.int .i64 (M 0), .int .i64 (M 1), .int .i64 (M 2), .int .i64 (M 3), .int .i64 (M 4), .int .i64 (M 5), .int .i64 (M 6), .int .i64 (M 7), .int .i64 (M 8), .int .i64 (M 9), .int .i64 (M 10), .int .i64 (M 11), .int .i64 (M 12), .int .i64 (M 13), .int .i64 (M 14), .int .i64 (M 15), .int .i64 (M 16), .int .i64 (M 17), .int .i64 (M 18), .int .i64 (M 19)] 42)).alloc (.cells #[.int .u8 p, .int .u8 q, .int .u8 r, .int .u8 t] 23)).alloc (.cells #[.int .u8 0, .int .u8 0, .int .u8 0, .int .u8 0] 23))
  have HS2 := Lib.hid (show ∀ w', Keeps ((w.alloc (.cells #[.int .i64 (M 0), .int .i64 (M 1), .int .i64 (M 2), .int .i64 (M 3), .int .i64 (M 4), .int .i64 (M 5), .int .i64 (M 6), .int .i64 (M 7), .int .i64 (M 8), .int .i64 (M 9), .int .i64 (M 10), .int .i64 (M 11), .int .i64 (M 12), .int .i64 (M 13), .int .i64 (M 14), .int .i64 (M 15), .int .i64 (M 16), .int .i64 (M 17), .int .i64 (M 18), .int .i64 (M 19)] 42)).alloc (.cells #[.int .u8 p, .int .u8 q, .int .u8 r, .int .u8 t] 23)) w' → w'.cell? ⟨w.heap.size, 0, none⟩ = some (.int .i64 (M 0)) ∧ w'.frozen? ⟨w.heap.size, 0, none⟩ = false ∧ w'.cell? ⟨w.heap.size, 1, none⟩ = some (.int .i64 (M 1)) ∧ w'.frozen? ⟨w.heap.size, 1, none⟩ = false ∧ w'.cell? ⟨w.heap.size, 2, none⟩ = some (.int .i64 (M 2)) ∧ w'.frozen? ⟨w.heap.size, 2, none⟩ = false ∧ w'.cell? ⟨w.heap.size, 3, none⟩ = some (.int .i64 (M 3)) ∧ w'.frozen? ⟨w.heap.size, 3, none⟩ = false ∧ w'.cell? ⟨w.heap.size, 4, none⟩ = some (.int .i64 (M 4)) ∧ w'.frozen? ⟨w.heap.size, 4, none⟩ = false ∧ w'.cell? ⟨w.heap.size, 5, none⟩ = some (.int .i64 (M 5)) ∧ w'.frozen? ⟨w.heap.size, 5, none⟩ = false ∧ w'.cell? ⟨w.heap.size, 6, none⟩ = some (.int .i64 (M 6)) ∧ w'.frozen? ⟨w.heap.size, 6, none⟩ = false ∧ w'.cell? ⟨w.heap.size, 7, none⟩ = some (.int .i64 (M 7)) ∧ w'.frozen? ⟨w.heap.size, 7, none⟩ = false ∧ w'.cell? ⟨w.heap.size, 8, none⟩ = some (.int .i64 (M 8)) ∧ w'.frozen? ⟨w.heap.size, 8, none⟩ = false ∧ w'.cell? ⟨w.heap.size, 9, none⟩ = some (.int .i64 (M 9)) ∧ w'.frozen? ⟨w.heap.size, 9, none⟩ = false ∧ w'.cell? ⟨w.heap.size, 10, none⟩ = some (.int .i64 (M 10)) ∧ w'.frozen? ⟨w.heap.size, 10, none⟩ = false ∧ w'.cell? ⟨w.heap.size, 11, none⟩ = some (.int .i64 (M 11)) ∧ w'.frozen? ⟨w.heap.size, 11, none⟩ = false ∧ w'.cell? ⟨w.heap.size, 12, none⟩ = some (.int .i64 (M 12)) ∧ w'.frozen? ⟨w.heap.size, 12, none⟩ = false ∧ w'.cell? ⟨w.heap.size, 13, none⟩ = some (.int .i64 (M 13)) ∧ w'.frozen? ⟨w.heap.size, 13, none⟩ = false ∧ w'.cell? ⟨w.heap.size, 14, none⟩ = some (.int .i64 (M 14)) ∧ w'.frozen? ⟨w.heap.size, 14, none⟩ = false ∧ w'.cell? ⟨w.heap.size, 15, none⟩ = some (.int .i64 (M 15)) ∧ w'.frozen? ⟨w.heap.size, 15, none⟩ = false ∧ w'.cell? ⟨w.heap.size, 16, none⟩ = some (.int .i64 (M 16)) ∧ w'.frozen? ⟨w.heap.size, 16, none⟩ = false ∧ w'.cell? ⟨w.heap.size, 17, none⟩ = some (.int .i64 (M 17)) ∧ w'.frozen? ⟨w.heap.size, 17, none⟩ = false ∧ w'.cell? ⟨w.heap.size, 18, none⟩ = some (.int .i64 (M 18)) ∧ w'.frozen? ⟨w.heap.size, 18, none⟩ = false ∧ w'.cell? ⟨w.heap.size, 19, none⟩ = some (.int .i64 (M 19)) ∧ w'.frozen? ⟨w.heap.size, 19, none⟩ = false ∧ w'.cell? ⟨w.heap.size + 1, 0, none⟩ = some (.int .u8 p) ∧ w'.frozen? ⟨w.heap.size + 1, 0, none⟩ = false ∧ w'.cell? ⟨w.heap.size + 1, 1, none⟩ = some (.int .u8 q) ∧ w'.frozen? ⟨w.heap.size + 1, 1, none⟩ = false ∧ w'.cell? ⟨w.heap.size + 1, 2, none⟩ = some (.int .u8 r) ∧ w'.frozen? ⟨w.heap.size + 1, 2, none⟩ = false ∧ w'.cell? ⟨w.heap.size + 1, 3, none⟩ = some (.int .u8 t) ∧ w'.frozen? ⟨w.heap.size + 1, 3, none⟩ = false from fun w' hk => ⟨(hk.cell (p := ⟨w.heap.size, 0, none⟩) (by first | (simp; done) | (simp; omega))).trans (by simp [go_sem]), (hk.frozen (p := ⟨w.heap.size, 0, none⟩) (by first | (simp; done) | (simp; omega))).trans (by simp [go_sem]), (hk.cell (p := ⟨w.heap.size, 1, none⟩) (by first | (simp; done) | (simp; omega))).trans (by simp [go_sem]), (hk.frozen (p := ⟨w.heap.size, 1, none⟩) (by first | (simp; done) | (simp; omega))).trans (by simp [go_sem]), (hk.cell (p := ⟨w.heap.size, 2, none⟩) (by first | (simp; done) | (simp; omega))).trans (by simp [go_sem]), (hk.frozen (p := ⟨w.heap.size, 2, none⟩) (by first | (simp; done) | (simp; omega))).trans (by simp [go_sem]), (hk.cell (p := ⟨w.heap.size, 3, none⟩) (by first | (simp; done) | (simp; omega))).trans (by simp [go_sem]), (hk.frozen (p := ⟨w.heap.size, 3, none⟩) (by first | (simp; done) | (simp; omega))).trans (by simp [go_sem]), (hk.cell (p := ⟨w.heap.size, 4, none⟩) (by first | (simp; done) | (simp; omega))).trans (by simp [go_sem]), (hk.frozen (p := ⟨w.heap.size, 4, none⟩) (by first | (simp; done) | (simp; omega))).trans (by simp [go_sem]), (hk.cell (p := ⟨w.heap.size, 5, none⟩) (by first | (simp; done) | (simp; omega))).trans (by simp [go_sem]), (hk.frozen (p := ⟨w.heap.size, 5, none⟩) (by first | (simp; done) | (simp; omega))).trans (by simp [go_sem]), (hk.cell (p := ⟨w.heap.size, 6, none⟩) (by first | (simp; done) | (simp; omega))).trans (by simp [go_sem]), (hk.frozen (p := ⟨w.heap.size, 6, none⟩) (by first | (simp; done) | (simp; omega))).trans (by simp [go_sem]), (hk.cell (p := ⟨w.heap.size, 7, none⟩) (by first | (simp; done) | (simp; omega))).trans (by simp [go_sem]), (hk.frozen (p := ⟨w.heap.size, 7, none⟩) (by first | (simp; done) | (simp; omega))).trans (by simp [go_sem]), (hk.cell (p := ⟨w.heap.size, 8, none⟩) (by first | (simp; done) | (simp; omega))).trans (by simp [go_sem]), (hk.frozen (p := ⟨w.heap.size, 8, none⟩) (by first | (simp; done) | (simp; omega))).trans (by simp [go_sem]), (hk.cell (p := ⟨w.heap.size, 9, none⟩) (by first | (simp; done) | (simp; omega))).trans (by simp [go_sem]), (hk.frozen (p := ⟨w.heap.size, 9, none⟩) (by first | (simp; done) | (simp; omega))).trans (by simp [go_sem]), (hk.cell (p := ⟨w.heap.size, 10, none⟩) (by first | (simp; done) | (simp; omega))).trans (by simp [go_sem]), (hk.frozen (p := ⟨w.heap.size, 10, none⟩) (by first | (simp; done) | (simp; omega))).trans (by simp [go_sem]), (hk.cell (p := ⟨w.heap.size, 11, none⟩) (by first | (simp; done) | (simp; omega))).trans (by simp [go_sem]), (hk.frozen (p := ⟨w.heap.size, 11, none⟩) (by first | (simp; done) | (simp; omega))).trans (by simp [go_sem]), (hk.cell (p := ⟨w.heap.size, 12, none⟩) (by first | (simp; done) | (simp; omega))).trans (by simp [go_sem]), (hk.frozen (p := ⟨w.heap.size, 12, none⟩) (by first | (simp; done) | (simp; omega))).trans (by simp [go_sem]), (hk.cell (p := ⟨w.heap.size, 13, none⟩) (by first | (simp; done) | (simp; omega))).trans (by simp [go_sem]), (hk.frozen (p := ⟨w.heap.size, 13, none⟩) (by first | (simp; done) | (simp; omega))).trans (by simp [go_sem]), (hk.cell (p := ⟨w.heap.size, 14, none⟩) (by first | (simp; done) | (simp; omega))).trans (by simp [go_sem]), (hk.frozen (p := ⟨w.heap.size, 14, none⟩) (by first | (simp; done) | (simp; omega))).trans (by simp [go_sem]), (hk.cell (p := ⟨w.heap.size, 15, none⟩) (by first | (simp; done) | (simp; omega))).trans (by simp [go_sem]), (hk.frozen (p := ⟨w.heap.size, 15, none⟩) (by first | (simp; done) | (simp; omega))).trans (by simp [go_sem]), (hk.cell (p := ⟨w.heap.size, 16, none⟩) (by first | (simp; done) | (simp; omega))).trans (by simp [go_sem]), (hk.frozen (p := ⟨w.heap.size, 16, none⟩) (by first | (simp; done) | (simp; omega))).trans (by simp [go_sem]), (hk.cell (p := ⟨w.heap.size, 17, none⟩) (by first | (simp; done) | (simp; omega))).trans (by simp [go_sem]), (hk.frozen (p := ⟨w.heap.size, 17, none⟩) (by first | (simp; done) | (simp; omega))).trans (by simp [go_sem]), (hk.cell (p := ⟨w.heap.size, 18, none⟩) (by first | (simp; done) | (simp; omega))).trans (by simp [go_sem]), (hk.frozen (p := ⟨w.heap.size, 18, none⟩) (by first | (simp; done) | (simp; omega))).trans (by simp [go_sem]), (hk.cell (p := ⟨w.heap.size, 19, none⟩) (by first | (simp; done) | (simp; omega))).trans (by simp [go_sem]), (hk.frozen (p := ⟨w.heap.size, 19, none⟩) (by first | (simp; done) | (simp; omega))).trans (by simp [go_sem]), (hk.cell (p := ⟨w.heap.size + 1, 0, none⟩) (by first | (simp; done) | (simp; omega))).trans (by simp [go_sem]), (hk.frozen (p := ⟨w.heap.size + 1, 0, none⟩) (by first | (simp; done) | (simp; omega))).trans (by simp [go_sem]), (hk.cell (p := ⟨w.heap.size + 1, 1, none⟩) (by first | (simp; done) | (simp; omega))).trans (by simp [go_sem]), (hk.frozen (p := ⟨w.heap.size + 1, 1, none⟩) (by first | (simp; done) | (simp; omega))).trans (by simp [go_sem]), (hk.cell (p := ⟨w.heap.size + 1, 2, none⟩) (by first | (simp; done) | (simp; omega))).trans (by simp [go_sem]), (hk.frozen (p := ⟨w.heap.size + 1, 2, none⟩) (by first | (simp; done) | (simp; omega))).trans (by simp [go_sem]), (hk.cell (p := ⟨w.heap.size + 1, 3, none⟩) (by first | (simp; done) | (simp; omega))).trans (by simp [go_sem]), (hk.frozen (p := ⟨w.heap.size + 1, 3, none⟩) (by first | (simp; done) | (simp; omega))).trans (by simp [go_sem])⟩)
  have HB2 := Lib.hid (show Keeps w ((w.alloc (.cells #[.int .i64 (M 0), .int .i64 (M 1), .int .i64 (M 2), .int .i64 (M 3), .int .i64 (M 4), .int .i64 (M 5), .int .i64 (M 6), .int .i64 (M 7), .int .i64 (M 8), .int .i64 (M 9), .int .i64 (M 10), .int .i64 (M 11), .int .i64 (M 12), .int .i64 (M 13), .int .i64 (M 14), .int .i64 (M 15), .int .i64 (M 16), .int .i64 (M 17), .int .i64 (M 18), .int .i64 (M 19)] 42)).alloc (.cells #[.int .u8 p, .int .u8 q, .int .u8 r, .int .u8 t] 23)) from (by (repeat (first | (with_reducible exact Keeps.refl _) | (with_reducible assumption) | (with_reducible refine Keeps.drewN ?_ _) | (with_reducible refine Keeps.drew ?_) | (with_reducible refine Keeps.alloc ?_ _) | (with_reducible refine Keeps.setNew ?_ ?_ _))) <;> (dsimp only; omega)))
  have hk02 := Keeps.refl ((w.alloc (.cells #[.int .i64 (M 0), .int .i64 (M 1), .int .i64 (M 2), .int .i64 (M 3), .int .i64 (M 4), .int .i64 (M 5), .int .i64 (M 6), .int .i64 (M 7), .int .i64 (M 8), .int .i64 (M 9), .int .i64 (M 10), .int .i64 (M 11), .int .i64 (M 12), .int .i64 (M 13), .int .i64 (M 14), .int .i64 (M 15), .int .i64 (M 16), .int .i64 (M 17), .int .i64 (M 18), .int .i64 (M 19)] 42)).alloc (.cells #[.int .u8 p, .int .u8 q, .int .u8 r, .int .u8 t] 23))
  have hW : Keeps (((w.alloc (.cells #[.int .i64 (M 0), .int .i64 (M 1), .int .i64 (M 2), .int .i64 (M 3), .int .i64 (M 4), .int .i64 (M 5), .int .i64 (M 6), .int .i64 (M 7), .int .i64 (M 8), .int .i64 (M 9), .int .i64 (M 10), .int .i64 (M 11), .int .i64 (M 12), .int .i64 (M 13), .int .i64 (M 14), .int .i64 (M 15), .int .i64 (M 16), .int .i64 (M 17), .int .i64 (M 18), .int .i64 (M 19)] 42)).alloc (.cells #[.int .u8 p, .int .u8 q, .int .u8 r, .int .u8 t] 23))) ((((w.alloc (.cells #[.int .i64 (M 0), .int .i64 (M 1), .int .i64 (M 2), .int .i64 (M 3), .int .i64 (M 4), .int .i64 (M 5), .int .i64 (M 6), .int .i64 (M 7), .int .i64 (M 8), .int .i64 (M 9), .int .i64 (M 10), .int .i64 (M 11), .int .i64 (M 12), .int .i64 (M 13), .int .i64 (M 14), .int .i64 (M 15), .int .i64 (M 16), .int .i64 (M 17), .int .i64 (M 18), .int .i64 (M 19)] 42)).alloc (.cells #[.int .u8 p, .int .u8 q, .int .u8 r, .int .u8 t] 23)).alloc (.cells #[.int .u8 0, .int .u8 0, .int .u8 0, .int .u8 0] 23))) := (Keeps.refl _).alloc _
  have HO := Lib.hid ((Box4.new (lo := w.heap.size + 1 + 1) (u := .int .u8 0) (v := .int .u8 0) (x := .int .u8 0) (y := .int .u8 0) (t := 23) (w := ((w.alloc (.cells #[.int .i64 (M 0), .int .i64 (M 1), .int .i64 (M 2), .int .i64 (M 3), .int .i64 (M 4), .int .i64 (M 5), .int .i64 (M 6), .int .i64 (M 7), .int .i64 (M 8), .int .i64 (M 9), .int .i64 (M 10), .int .i64 (M 11), .int .i64 (M 12), .int .i64 (M 13), .int .i64 (M 14), .int .i64 (M 15), .int .i64 (M 16), .int .i64 (M 17), .int .i64 (M 18), .int .i64 (M 19)] 42)).alloc (.cells #[.int .u8 p, .int .u8 q, .int .u8 r, .int .u8 t] 23))) (by simp)))
  simp only [World.size_alloc, Array.size_push] at HO
  have hz : (((w.alloc (.cells #[.int .i64 (M 0), .int .i64 (M 1), .int .i64 (M 2), .int .i64 (M 3), .int .i64 (M 4), .int .i64 (M 5), .int .i64 (M 6), .int .i64 (M 7), .int .i64 (M 8), .int .i64 (M 9), .int .i64 (M 10), .int .i64 (M 11), .int .i64 (M 12), .int .i64 (M 13), .int .i64 (M 14), .int .i64 (M 15), .int .i64 (M 16), .int .i64 (M 17), .int .i64 (M 18), .int .i64 (M 19)] 42)).alloc (.cells #[.int .u8 p, .int .u8 q, .int .u8 r, .int .u8 t] 23))).heap.size = w.heap.size + 1 + 1 := by simp
  obtain ⟨X, hX⟩ : ∃ X : List Value, Hid (X = [.int .i64 (M 0), .int .i64 (M 1), .int .i64 (M 2), .int .i64 (M 3), .int .i64 (M 4), .int .i64 (M 5), .int .i64 (M 6), .int .i64 (M 7), .int .i64 (M 8), .int .i64 (M 9), .int .i64 (M 10), .int .i64 (M 11), .int .i64 (M 12), .int .i64 (M 13), .int .i64 (M 14), .int .i64 (M 15), .int .i64 (M 16), .int .i64 (M 17), .int .i64 (M 18), .int .i64 (M 19)]) := ⟨_, Lib.hid rfl⟩
  have eX : Hid ((.agg #[.int .i64 (M 0), .int .i64 (M 1), .int .i64 (M 2), .int .i64 (M 3), .int .i64 (M 4), .int .i64 (M 5), .int .i64 (M 6), .int .i64 (M 7), .int .i64 (M 8), .int .i64 (M 9), .int .i64 (M 10), .int .i64 (M 11), .int .i64 (M 12), .int .i64 (M 13), .int .i64 (M 14), .int .i64 (M 15), .int .i64 (M 16), .int .i64 (M 17), .int .i64 (M 18), .int .i64 (M 19)] : Value) = .agg X.toArray) := Lib.hid (by rw [hX.out])
  have HR : Hid (∀ w', Keeps (((w.alloc (.cells #[.int .i64 (M 0), .int .i64 (M 1), .int .i64 (M 2), .int .i64 (M 3), .int .i64 (M 4), .int .i64 (M 5), .int .i64 (M 6), .int .i64 (M 7), .int .i64 (M 8), .int .i64 (M 9), .int .i64 (M 10), .int .i64 (M 11), .int .i64 (M 12), .int .i64 (M 13), .int .i64 (M 14), .int .i64 (M 15), .int .i64 (M 16), .int .i64 (M 17), .int .i64 (M 18), .int .i64 (M 19)] 42)).alloc (.cells #[.int .u8 p, .int .u8 q, .int .u8 r, .int .u8 t] 23))) w' → w'.rangeAt w.heap.size 0 X) := Lib.hid (fun w' hk => by
    obtain ⟨y0, y1, y2, y3, y4, y5, y6, y7, y8, y9, y10, y11, y12, y13, y14, y15, y16, y17, y18, y19, y20, y21, y22, y23, y24, y25, y26, y27, y28, y29, y30, y31, y32, y33, y34, y35, y36, y37, y38, y39, y40, y41, y42, y43, y44, y45, y46, y47⟩ := HS2.out _ hk
    rw [hX.out]
    exact range20 w' M _ (fun j hj => by
      have hq : j = 0 ∨ j = 1 ∨ j = 2 ∨ j = 3 ∨ j = 4 ∨ j = 5 ∨ j = 6 ∨ j = 7 ∨ j = 8 ∨ j = 9 ∨ j = 10 ∨ j = 11 ∨ j = 12 ∨ j = 13 ∨ j = 14 ∨ j = 15 ∨ j = 16 ∨ j = 17 ∨ j = 18 ∨ j = 19 := by omega
      rcases hq with rfl | rfl | rfl | rfl | rfl | rfl | rfl | rfl | rfl | rfl | rfl | rfl | rfl | rfl | rfl | rfl | rfl | rfl | rfl | rfl <;> assumption))
  have HC : Hid (∀ w', Keeps (((w.alloc (.cells #[.int .i64 (M 0), .int .i64 (M 1), .int .i64 (M 2), .int .i64 (M 3), .int .i64 (M 4), .int .i64 (M 5), .int .i64 (M 6), .int .i64 (M 7), .int .i64 (M 8), .int .i64 (M 9), .int .i64 (M 10), .int .i64 (M 11), .int .i64 (M 12), .int .i64 (M 13), .int .i64 (M 14), .int .i64 (M 15), .int .i64 (M 16), .int .i64 (M 17), .int .i64 (M 18), .int .i64 (M 19)] 42)).alloc (.cells #[.int .u8 p, .int .u8 q, .int .u8 r, .int .u8 t] 23))) w' → w'.cell? ⟨w.heap.size + 1, 0, none⟩ = some (.int .u8 p) ∧ w'.cell? ⟨w.heap.size + 1, 1, none⟩ = some (.int .u8 q) ∧ w'.cell? ⟨w.heap.size + 1, 2, none⟩ = some (.int .u8 r) ∧ w'.cell? ⟨w.heap.size + 1, 3, none⟩ = some (.int .u8 t) ∧ True) := Lib.hid (fun w' hk => by
    obtain ⟨y0, y1, y2, y3, y4, y5, y6, y7, y8, y9, y10, y11, y12, y13, y14, y15, y16, y17, y18, y19, y20, y21, y22, y23, y24, y25, y26, y27, y28, y29, y30, y31, y32, y33, y34, y35, y36, y37, y38, y39, y40, y41, y42, y43, y44, y45, y46, y47⟩ := HS2.out _ hk
    exact ⟨by assumption, by assumption, by assumption, by assumption, trivial⟩)
  have u0 := Try.underlying42
  have u1 : (Try.prog.info? 42).map (·.size) = some X.length := by rw [hX.out]; rfl
  have HX := Lib.hid (fun (w : World) (j : Nat) (h : j < 20) => index20 w X j (.int .i64 (M j)) h (by rw [hX.out]; exact get20 M j h))
  have HM : Hid (∀ w', Keeps (((w.alloc (.cells #[.int .i64 (M 0), .int .i64 (M 1), .int .i64 (M 2), .int .i64 (M 3), .int .i64 (M 4), .int .i64 (M 5), .int .i64 (M 6), .int .i64 (M 7), .int .i64 (M 8), .int .i64 (M 9), .int .i64 (M 10), .int .i64 (M 11), .int .i64 (M 12), .int .i64 (M 13), .int .i64 (M 14), .int .i64 (M 15), .int .i64 (M 16), .int .i64 (M 17), .int .i64 (M 18), .int .i64 (M 19)] 42)).alloc (.cells #[.int .u8 p, .int .u8 q, .int .u8 r, .int .u8 t] 23))) w' → ∀ j : Nat, j < 20 → w'.cell? ⟨w.heap.size, j, none⟩ = some (.int .i64 (M j))) := Lib.hid (fun w' hk j hj => (by
    have h := HR.out w' hk j (.int .i64 (M j)) (by rw [hX.out]; exact get20 M j hj)
    simpa using h))
  have hz3 : ((((w.alloc (.cells #[.int .i64 (M 0), .int .i64 (M 1), .int .i64 (M 2), .int .i64 (M 3), .int .i64 (M 4), .int .i64 (M 5), .int .i64 (M 6), .int .i64 (M 7), .int .i64 (M 8), .int .i64 (M 9), .int .i64 (M 10), .int .i64 (M 11), .int .i64 (M 12), .int .i64 (M 13), .int .i64 (M 14), .int .i64 (M 15), .int .i64 (M 16), .int .i64 (M 17), .int .i64 (M 18), .int .i64 (M 19)] 42)).alloc (.cells #[.int .u8 p, .int .u8 q, .int .u8 r, .int .u8 t] 23)).alloc (.cells #[.int .u8 0, .int .u8 0, .int .u8 0, .int .u8 0] 23))).heap.size = w.heap.size + 1 + 1 + 1 := by simp
  clear HS hX HS2 hk02
  have hW := Lib.hid hW
  go_enter Try.func32, Try.ntmps32
  go_upto_region 1 with fail
  generalize (((w.alloc (.cells #[.int .i64 (M 0), .int .i64 (M 1), .int .i64 (M 2), .int .i64 (M 3), .int .i64 (M 4), .int .i64 (M 5), .int .i64 (M 6), .int .i64 (M 7), .int .i64 (M 8), .int .i64 (M 9), .int .i64 (M 10), .int .i64 (M 11), .int .i64 (M 12), .int .i64 (M 13), .int .i64 (M 14), .int .i64 (M 15), .int .i64 (M 16), .int .i64 (M 17), .int .i64 (M 18), .int .i64 (M 19)] 42)).alloc (.cells #[.int .u8 p, .int .u8 q, .int .u8 r, .int .u8 t] 23)).alloc (.cells #[.int .u8 0, .int .u8 0, .int .u8 0, .int .u8 0] 23)) = W3 at *
  generalize ((w.alloc (.cells #[.int .i64 (M 0), .int .i64 (M 1), .int .i64 (M 2), .int .i64 (M 3), .int .i64 (M 4), .int .i64 (M 5), .int .i64 (M 6), .int .i64 (M 7), .int .i64 (M 8), .int .i64 (M 9), .int .i64 (M 10), .int .i64 (M 11), .int .i64 (M 12), .int .i64 (M 13), .int .i64 (M 14), .int .i64 (M 15), .int .i64 (M 16), .int .i64 (M 17), .int .i64 (M 18), .int .i64 (M 19)] 42)).alloc (.cells #[.int .u8 p, .int .u8 q, .int .u8 r, .int .u8 t] 23)) = W2 at *
  apply wp_region_lit
  refine wpList_load_mid rfl 42 _ rfl w.heap.size 0 rfl X _ (HR.out _ hW.out) u0 rfl u1 ?_
  simp only [Act.put, List.setIfInBounds_toArray, List.set_cons_zero, List.set_cons_succ]
  go_wp2_with fail
  clear eX
  go_loopw [13] (fun i wr => ∃ j : Nat, j ≤ 20 ∧ i = .int .i64 j ∧ wr = W3 ∧ ∀ k, k < j → -65536 ≤ M k ∧ M k ≤ 65536) (fun i _ => 20 - (intOf i).toNat)
  case atStart => exact ⟨0, by omega, rfl, rfl, fun k hk => by omega⟩
  case round =>
    obtain ⟨j, hj, rfl, hwr, hg⟩ := hrel
    have hwr2 := hwr.symm
    clear hwr
    subst hwr2
    by_cases hlt : j < 20
    · have e2 := fun w => HX.out w j hlt
      have hg := Lib.hid hg
      by_cases hb : -65536 ≤ M j ∧ M j ≤ 65536
      · have hs := Lib.hid hb
        have hg2 := Lib.hid (fun k (hk : k < j + 1) => (by rcases Nat.lt_succ_iff_lt_or_eq.1 hk with h | h; exact hg.out k h; subst h; exact hb : -65536 ≤ M k ∧ M k ≤ 65536))
        clear hg
        obtain ⟨b0, b1⟩ := hb
        generalize M j = x at *
        go_wp2_with fail
        go_roundw
        case rel => exact ⟨j + 1, by omega, by go_num, (by first | trivial | rfl), hg2.out⟩
        case measure => simp [intOf]; omega
      · exact absurd (hM.out j hlt) hb
    · obtain rfl : j = 20 := by omega
      clear hlt hj hg HX hM
      rw [show ((20 : Nat) : Int) = 20 from rfl]
      go_wp2_with fail
      go_loopw [24] (fun i wr => ∃ j : Nat, j ≤ 4 ∧ i = .int .i64 j ∧ Keeps W3 wr ∧ Box4 true (w.heap.size + 1 + 1 + 1) (w.heap.size + 1 + 1 + 1) (.int .u8 (if 0 < j then r0 else 0)) (.int .u8 (if 1 < j then r1 else 0)) (.int .u8 (if 2 < j then r2 else 0)) (.int .u8 (if 3 < j then r3 else 0)) wr) (fun i _ => 4 - (intOf i).toNat)
      case atStart => exact ⟨0, by omega, rfl, (Keeps.refl _).alloc _, by have h := Box4.new (lo := W3.heap.size) (t := 68) (w := W3) (u := .int .u8 0) (v := .int .u8 0) (x := .int .u8 0) (y := .int .u8 0) (Nat.le_refl _); rw [hz3] at h; simpa using h⟩
      case round =>
        obtain ⟨j, hj, rfl, hk, hbx⟩ := hrel
        have hsz := hk.size
        by_cases hlt : j < 4
        · have hq : j = 0 ∨ j = 1 ∨ j = 2 ∨ j = 3 := by omega
          clear hlt hj
          rcases hq with rfl | rfl | rfl | rfl
          · have hb0 : Box4 true (w.heap.size + 1 + 1 + 1) (w.heap.size + 1 + 1 + 1) (.int .u8 0) (.int .u8 0) (.int .u8 0) (.int .u8 0) wr := by simpa using hbx
            clear hbx
            obtain ⟨k1, k2, k3, k4, k5, k6, k7, k8, k9, k10⟩ := hb0 rfl
            have e0 := HM.out _ (hW.out.trans hk) 0 (by omega)
            have e1 := HM.out _ (hW.out.trans hk) 1 (by omega)
            have e2 := HM.out _ (hW.out.trans hk) 2 (by omega)
            have e3 := HM.out _ (hW.out.trans hk) 3 (by omega)
            have e4 := HM.out _ (hW.out.trans hk) 4 (by omega)
            obtain ⟨c0, c1, c2, c3, _⟩ := HC.out _ (hW.out.trans hk)
            obtain ⟨b0, b1, b2, b3, b4⟩ := BD0.out
            obtain ⟨b00, b01⟩ := b0
            obtain ⟨b10, b11⟩ := b1
            obtain ⟨b20, b21⟩ := b2
            obtain ⟨b30, b31⟩ := b3
            obtain ⟨b40, b41⟩ := b4
            have hb0 := Lib.hid hb0
            go_wp2_with fail
            go_quiet (fail)
            go_wp2_with (first | (go_at_call 50; (with_reducible refine (G0.out _).mono ?_); rintro e w1 ⟨rfl, hk1⟩; obtain ⟨k1, k2, k3, k4, k5, k6, k7, k8, k9, k10⟩ := hb0.out.keeps (((Keeps.refl _).drewN _).trans hk1) rfl) | (go_at_call 57; (with_reducible refine (C0.out _).mono ?_); rintro e w2 ⟨rfl, rfl⟩))
            go_roundw
            case rel => exact ⟨1, by omega, by go_num, ((hk.drewN _).trans hk1).setNew (p := ⟨w.heap.size + 1 + 1 + 1, _, none⟩) (Nat.le_of_eq hz3) _, by simpa using (hb0.out.keeps (((Keeps.refl _).drewN _).trans hk1)).put0⟩
            case measure => simp [intOf]
          · have hb0 : Box4 true (w.heap.size + 1 + 1 + 1) (w.heap.size + 1 + 1 + 1) (.int .u8 r0) (.int .u8 0) (.int .u8 0) (.int .u8 0) wr := by simpa using hbx
            clear hbx
            obtain ⟨k1, k2, k3, k4, k5, k6, k7, k8, k9, k10⟩ := hb0 rfl
            have e0 := HM.out _ (hW.out.trans hk) 5 (by omega)
            have e1 := HM.out _ (hW.out.trans hk) 6 (by omega)
            have e2 := HM.out _ (hW.out.trans hk) 7 (by omega)
            have e3 := HM.out _ (hW.out.trans hk) 8 (by omega)
            have e4 := HM.out _ (hW.out.trans hk) 9 (by omega)
            obtain ⟨c0, c1, c2, c3, _⟩ := HC.out _ (hW.out.trans hk)
            obtain ⟨b0, b1, b2, b3, b4⟩ := BD1.out
            obtain ⟨b00, b01⟩ := b0
            obtain ⟨b10, b11⟩ := b1
            obtain ⟨b20, b21⟩ := b2
            obtain ⟨b30, b31⟩ := b3
            obtain ⟨b40, b41⟩ := b4
            have hb0 := Lib.hid hb0
            go_wp2_with fail
            go_quiet (fail)
            go_wp2_with (first | (go_at_call 50; (with_reducible refine (G1.out _).mono ?_); rintro e w1 ⟨rfl, hk1⟩; obtain ⟨k1, k2, k3, k4, k5, k6, k7, k8, k9, k10⟩ := hb0.out.keeps (((Keeps.refl _).drewN _).trans hk1) rfl) | (go_at_call 57; (with_reducible refine (C1.out _).mono ?_); rintro e w2 ⟨rfl, rfl⟩))
            go_roundw
            case rel => exact ⟨2, by omega, by go_num, ((hk.drewN _).trans hk1).setNew (p := ⟨w.heap.size + 1 + 1 + 1, _, none⟩) (Nat.le_of_eq hz3) _, by simpa using (hb0.out.keeps (((Keeps.refl _).drewN _).trans hk1)).put1⟩
            case measure => simp [intOf]
          · have hb0 : Box4 true (w.heap.size + 1 + 1 + 1) (w.heap.size + 1 + 1 + 1) (.int .u8 r0) (.int .u8 r1) (.int .u8 0) (.int .u8 0) wr := by simpa using hbx
            clear hbx
            obtain ⟨k1, k2, k3, k4, k5, k6, k7, k8, k9, k10⟩ := hb0 rfl
            have e0 := HM.out _ (hW.out.trans hk) 10 (by omega)
            have e1 := HM.out _ (hW.out.trans hk) 11 (by omega)
            have e2 := HM.out _ (hW.out.trans hk) 12 (by omega)
            have e3 := HM.out _ (hW.out.trans hk) 13 (by omega)
            have e4 := HM.out _ (hW.out.trans hk) 14 (by omega)
            obtain ⟨c0, c1, c2, c3, _⟩ := HC.out _ (hW.out.trans hk)
            obtain ⟨b0, b1, b2, b3, b4⟩ := BD2.out
            obtain ⟨b00, b01⟩ := b0
            obtain ⟨b10, b11⟩ := b1
            obtain ⟨b20, b21⟩ := b2
            obtain ⟨b30, b31⟩ := b3
            obtain ⟨b40, b41⟩ := b4
            have hb0 := Lib.hid hb0
            go_wp2_with fail
            go_quiet (fail)
            go_wp2_with (first | (go_at_call 50; (with_reducible refine (G2.out _).mono ?_); rintro e w1 ⟨rfl, hk1⟩; obtain ⟨k1, k2, k3, k4, k5, k6, k7, k8, k9, k10⟩ := hb0.out.keeps (((Keeps.refl _).drewN _).trans hk1) rfl) | (go_at_call 57; (with_reducible refine (C2.out _).mono ?_); rintro e w2 ⟨rfl, rfl⟩))
            go_roundw
            case rel => exact ⟨3, by omega, by go_num, ((hk.drewN _).trans hk1).setNew (p := ⟨w.heap.size + 1 + 1 + 1, _, none⟩) (Nat.le_of_eq hz3) _, by simpa using (hb0.out.keeps (((Keeps.refl _).drewN _).trans hk1)).put2⟩
            case measure => simp [intOf]
          · have hb0 : Box4 true (w.heap.size + 1 + 1 + 1) (w.heap.size + 1 + 1 + 1) (.int .u8 r0) (.int .u8 r1) (.int .u8 r2) (.int .u8 0) wr := by simpa using hbx
            clear hbx
            obtain ⟨k1, k2, k3, k4, k5, k6, k7, k8, k9, k10⟩ := hb0 rfl
            have e0 := HM.out _ (hW.out.trans hk) 15 (by omega)
            have e1 := HM.out _ (hW.out.trans hk) 16 (by omega)
            have e2 := HM.out _ (hW.out.trans hk) 17 (by omega)
            have e3 := HM.out _ (hW.out.trans hk) 18 (by omega)
            have e4 := HM.out _ (hW.out.trans hk) 19 (by omega)
            obtain ⟨c0, c1, c2, c3, _⟩ := HC.out _ (hW.out.trans hk)
            obtain ⟨b0, b1, b2, b3, b4⟩ := BD3.out
            obtain ⟨b00, b01⟩ := b0
            obtain ⟨b10, b11⟩ := b1
            obtain ⟨b20, b21⟩ := b2
            obtain ⟨b30, b31⟩ := b3
            obtain ⟨b40, b41⟩ := b4
            have hb0 := Lib.hid hb0
            go_wp2_with fail
            go_quiet (fail)
            go_wp2_with (first | (go_at_call 50; (with_reducible refine (G3.out _).mono ?_); rintro e w1 ⟨rfl, hk1⟩; obtain ⟨k1, k2, k3, k4, k5, k6, k7, k8, k9, k10⟩ := hb0.out.keeps (((Keeps.refl _).drewN _).trans hk1) rfl) | (go_at_call 57; (with_reducible refine (C3.out _).mono ?_); rintro e w2 ⟨rfl, rfl⟩))
            go_roundw
            case rel => exact ⟨4, by omega, by go_num, ((hk.drewN _).trans hk1).setNew (p := ⟨w.heap.size + 1 + 1 + 1, _, none⟩) (Nat.le_of_eq hz3) _, by simpa using (hb0.out.keeps (((Keeps.refl _).drewN _).trans hk1)).put3⟩
            case measure => simp [intOf]
        · obtain rfl : j = 4 := by omega
          have hb0 : Box4 true (w.heap.size + 1 + 1 + 1) (w.heap.size + 1 + 1 + 1) (.int .u8 r0) (.int .u8 r1) (.int .u8 r2) (.int .u8 r3) wr := by simpa using hbx
          clear hbx
          obtain ⟨k1, k2, k3, k4, k5, k6, k7, k8, k9, k10⟩ := hb0 rfl
          obtain ⟨n1, n2, n3, n4, n5, n6, n7, n8, n9, n10⟩ := HO.out.keeps hk rfl
          go_wp2_with fail
          exact bodyPost_ret (v := .tuple #[.agg #[.int .u8 r0, .int .u8 r1, .int .u8 r2, .int .u8 r3], .bool true]) (by simp [results, Try.results32, go_sem, *]) rfl ⟨rfl, ((Keeps.trans HB2.out hW.out).trans hk).far4 (by omega) _ _ _ _⟩
end Go.Proofs.Ytjfimlcljbdglaa
