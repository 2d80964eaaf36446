/- ColorMatrix of grisaillelaw27 returns true for all its arguments: every matrix and every color; no condition. -/
import Derived.Test.YtjfimlcljbdglaaE27
import Derived.Test.YtjfimlcljbdglaaCz
import Derived.Test.YtjfimlcljbdglaaOp
import Derived.Test.YtjfimlcljbdglaaKk
namespace Go.Proofs.Ytjfimlcljbdglaa.colorMatrix
open Go.RowKit Go.ChangeShapes Go.WideShapes Go.ChangeAt
set_option linter.unusedVariables false
open Go.Proofs.Ytjfimlcljbdglaa
theorem am_is (M : Nat → Int) (p q r t : Int) (h0 : u8b p) (h1 : u8b q) (h2 : u8b r) (h3 : u8b t) : ∃ x y z v : Int, ∃ k : Bool,
    (∀ w : World, Calls Try.prog 32 #[.agg #[.int .i64 (M 0), .int .i64 (M 1), .int .i64 (M 2), .int .i64 (M 3), .int .i64 (M 4), .int .i64 (M 5), .int .i64 (M 6), .int .i64 (M 7), .int .i64 (M 8), .int .i64 (M 9), .int .i64 (M 10), .int .i64 (M 11), .int .i64 (M 12), .int .i64 (M 13), .int .i64 (M 14), .int .i64 (M 15), .int .i64 (M 16), .int .i64 (M 17), .int .i64 (M 18), .int .i64 (M 19)], .agg #[.int .u8 p, .int .u8 q, .int .u8 r, .int .u8 t]] w fun e w' => e = .returned (.tuple #[.agg #[.int .u8 x, .int .u8 y, .int .u8 z, .int .u8 v], .bool k]) ∧ Keeps w w') ∧
    (∀ w : World, Calls Try.prog 33 #[.agg #[.int .i64 (M 0), .int .i64 (M 1), .int .i64 (M 2), .int .i64 (M 3), .int .i64 (M 4), .int .i64 (M 5), .int .i64 (M 6), .int .i64 (M 7), .int .i64 (M 8), .int .i64 (M 9), .int .i64 (M 10), .int .i64 (M 11), .int .i64 (M 12), .int .i64 (M 13), .int .i64 (M 14), .int .i64 (M 15), .int .i64 (M 16), .int .i64 (M 17), .int .i64 (M 18), .int .i64 (M 19)], .agg #[.int .u8 p, .int .u8 q, .int .u8 r, .int .u8 t]] w fun e w' => e = .returned (.tuple #[.agg #[.int .u8 x, .int .u8 y, .int .u8 z, .int .u8 v], .bool k]) ∧ Keeps w w') := by
  by_cases hM : mOk M
  · exact ⟨_, _, _, _, _, fun w => apply_ok M p q r t w hM h0 h1 h2 h3, fun w => rapply_ok M p q r t w hM h0 h1 h2 h3⟩
  · exact ⟨_, _, _, _, _, fun w => apply_no M p q r t w hM, fun w => rapply_no M p q r t w hM⟩
set_option maxRecDepth 100000 in
set_option maxHeartbeats 2000000 in
theorem walkM (M : Nat → Int) (p q r t : Int) (w : World) (l0 : 0 ≤ p) (u0 : p ≤ 255) (l1 : 0 ≤ q) (u1 : q ≤ 255) (l2 : 0 ≤ r) (u2 : r ≤ 255) (l3 : 0 ≤ t) (u3 : t ≤ 255) :
    Calls Try.prog 8 #[.agg #[.int .i64 (M 0), .int .i64 (M 1), .int .i64 (M 2), .int .i64 (M 3), .int .i64 (M 4), .int .i64 (M 5), .int .i64 (M 6), .int .i64 (M 7), .int .i64 (M 8), .int .i64 (M 9), .int .i64 (M 10), .int .i64 (M 11), .int .i64 (M 12), .int .i64 (M 13), .int .i64 (M 14), .int .i64 (M 15), .int .i64 (M 16), .int .i64 (M 17), .int .i64 (M 18), .int .i64 (M 19)], .agg #[.int .u8 p, .int .u8 q, .int .u8 r, .int .u8 t]] w fun e w' => e = .returned (.bool true) ∧ Below w.heap.size w w' := by
  have g3 := coGuard
  have g4 := coEql
  obtain ⟨x, y, z, v, k, hF, hG⟩ := am_is M p q r t ⟨l0, u0⟩ ⟨l1, u1⟩ ⟨l2, u2⟩ ⟨l3, u3⟩
  have q1 := eq4_refl x y z v
  have t1 : (k == k) = true := beq_self_eq_true _
  clear l0 u0 l1 u1 l2 u2 l3 u3
  have K9 := Lib.hid (fun w => example27_any w)
  have HS := Lib.hid (show ∀ w', Keeps ((w.alloc (.cells #[.int .i64 (M 0), .int .i64 (M 1), .int .i64 (M 2), .int .i64 (M 3), .int .i64 (M 4), .int .i64 (M 5), .int .i64 (M 6), .int .i64 (M 7), .int .i64 (M 8), .int .i64 (M 9), .int .i64 (M 10), .int .i64 (M 11), .int .i64 (M 12), .int .i64 (M 13), .int .i64 (M 14), .int .i64 (M 15), .int .i64 (M 16), .int .i64 (M 17), .int .i64 (M 18), .int .i64 (M 19)] 42)).alloc (.cells #[.int .u8 p, .int .u8 q, .int .u8 r, .int .u8 t] 23)) w' → w'.cell? ⟨w.heap.size, 0, none⟩ = some (.int .i64 (M 0)) ∧ w'.frozen? ⟨w.heap.size, 0, none⟩ = false ∧ w'.cell? ⟨w.heap.size, 1, none⟩ = some (.int .i64 (M 1)) ∧ w'.frozen? ⟨w.heap.size, 1, none⟩ = false ∧ w'.cell? ⟨w.heap.size, 2, none⟩ = some (.int .i64 (M 2)) ∧ w'.frozen? ⟨w.heap.size, 2, none⟩ = false ∧ w'.cell? ⟨w.heap.size, 3, none⟩ = some (.int .i64 (M 3)) ∧ w'.frozen? ⟨w.heap.size, 3, none⟩ = false ∧ w'.cell? ⟨w.heap.size, 4, none⟩ = some (.int .i64 (M 4)) ∧ w'.frozen? ⟨w.heap.size, 4, none⟩ = false ∧ w'.cell? ⟨w.heap.size, 5, none⟩ = some (.int .i64 (M 5)) ∧ w'.frozen? ⟨w.heap.size, 5, none⟩ = false ∧ w'.cell? ⟨w.heap.size, 6, none⟩ = some (.int .i64 (M 6)) ∧ w'.frozen? ⟨w.heap.size, 6, none⟩ = false ∧ w'.cell? ⟨w.heap.size, 7, none⟩ = some (.int .i64 (M 7)) ∧ w'.frozen? ⟨w.heap.size, 7, none⟩ = false ∧ w'.cell? ⟨w.heap.size, 8, none⟩ = some (.int .i64 (M 8)) ∧ w'.frozen? ⟨w.heap.size, 8, none⟩ = false ∧ w'.cell? ⟨w.heap.size, 9, none⟩ = some (.int .i64 (M 9)) ∧ w'.frozen? ⟨w.heap.size, 9, none⟩ = false ∧ w'.cell? ⟨w.heap.size, 10, none⟩ = some (.int .i64 (M 10)) ∧ w'.frozen? ⟨w.heap.size, 10, none⟩ = false ∧ w'.cell? ⟨w.heap.size, 11, none⟩ = some (.int .i64 (M 11)) ∧ w'.frozen? ⟨w.heap.size, 11, none⟩ = false ∧ w'.cell? ⟨w.heap.size, 12, none⟩ = some (.int .i64 (M 12)) ∧ w'.frozen? ⟨w.heap.size, 12, none⟩ = false ∧ w'.cell? ⟨w.heap.size, 13, none⟩ = some (.int .i64 (M 13)) ∧ w'.frozen? ⟨w.heap.size, 13, none⟩ = false ∧ w'.cell? ⟨w.heap.size, 14, none⟩ = some (.int .i64 (M 14)) ∧ w'.frozen? ⟨w.heap.size, 14, none⟩ = false ∧ w'.cell? ⟨w.heap.size, 15, none⟩ = some (.int .i64 (M 15)) ∧ w'.frozen? ⟨w.heap.size, 15, none⟩ = false ∧ w'.cell? ⟨w.heap.size, 16, none⟩ = some (.int .i64 (M 16)) ∧ w'.frozen? ⟨w.heap.size, 16, none⟩ = false ∧ w'.cell? ⟨w.heap.size, 17, none⟩ = some (.int .i64 (M 17)) ∧ w'.frozen? ⟨w.heap.size, 17, none⟩ = false ∧ w'.cell? ⟨w.heap.size, 18, none⟩ = some (.int .i64 (M 18)) ∧ w'.frozen? ⟨w.heap.size, 18, none⟩ = false ∧ w'.cell? ⟨w.heap.size, 19, none⟩ = some (.int .i64 (M 19)) ∧ w'.frozen? ⟨w.heap.size, 19, none⟩ = false ∧ w'.cell? ⟨w.heap.size + 1, 0, none⟩ = some (.int .u8 p) ∧ w'.frozen? ⟨w.heap.size + 1, 0, none⟩ = false ∧ w'.cell? ⟨w.heap.size + 1, 1, none⟩ = some (.int .u8 q) ∧ w'.frozen? ⟨w.heap.size + 1, 1, none⟩ = false ∧ w'.cell? ⟨w.heap.size + 1, 2, none⟩ = some (.int .u8 r) ∧ w'.frozen? ⟨w.heap.size + 1, 2, none⟩ = false ∧ w'.cell? ⟨w.heap.size + 1, 3, none⟩ = some (.int .u8 t) ∧ w'.frozen? ⟨w.heap.size + 1, 3, none⟩ = false from fun w' hk => ⟨(hk.cell (p := ⟨w.heap.size, 0, none⟩) (by first | (simp; done) | (simp; omega))).trans (by simp [go_sem]), (hk.frozen (p := ⟨w.heap.size, 0, none⟩) (by first | (simp; done) | (simp; omega))).trans (by simp [go_sem]), (hk.cell (p := ⟨w.heap.size, 1, none⟩) (by first | (simp; done) | (simp; omega))).trans (by simp [go_sem]), (hk.frozen (p := ⟨w.heap.size, 1, none⟩) (by first | (simp; done) | (simp; omega))).trans (by simp [go_sem]), (hk.cell (p := ⟨w.heap.size, 2, none⟩) (by first | (simp; done) | (simp; omega))).trans (by simp [go_sem]), (hk.frozen (p := ⟨w.heap.size, 2, none⟩) (by first | (simp; done) | (simp; omega))).trans (by simp [go_sem]), (hk.cell (p := ⟨w.heap.size, 3, none⟩) (by first | (simp; done) | (simp; omega))).trans (by simp [go_sem]), (hk.frozen (p := ⟨w.heap.size, 3, none⟩) (by first | (simp; done) | (simp; omega))).trans (by simp [go_sem]), (hk.cell (p := ⟨w.heap.size, 4, none⟩) (by first | (simp; done) | (simp; omega))).trans (by simp [go_sem]), (hk.frozen (p := ⟨w.heap.size, 4, none⟩) (by first | (simp; done) | (simp; omega))).trans (by simp [go_sem]), (hk.cell (p := ⟨w.heap.size, 5, none⟩) (by first | (simp; done) | (simp; omega))).trans (by simp [go_sem]), (hk.frozen (p := ⟨w.heap.size, 5, none⟩) (by first | (simp; done) | (simp; omega))).trans (by simp [go_sem]), (hk.cell (p := ⟨w.heap.size, 6, none⟩) (by first | (simp; done) | (simp; omega))).trans (by simp [go_sem]), (hk.frozen (p := ⟨w.heap.size, 6, none⟩) (by first | (simp; done) | (simp; omega))).trans (by simp [go_sem]), (hk.cell (p := ⟨w.heap.size, 7, none⟩) (by first | (simp; done) | (simp; omega))).trans (by simp [go_sem]), (hk.frozen (p := ⟨w.heap.size, 7, none⟩) (by first | (simp; done) | (simp; omega))).trans (by simp [go_sem]), (hk.cell (p := ⟨w.heap.size, 8, none⟩) (by first | (simp; done) | (simp; omega))).trans (by simp [go_sem]), (hk.frozen (p := ⟨w.heap.size, 8, none⟩) (by first | (simp; done) | (simp; omega))).trans (by simp [go_sem]), (hk.cell (p := ⟨w.heap.size, 9, none⟩) (by first | (simp; done) | (simp; omega))).trans (by simp [go_sem]), (hk.frozen (p := ⟨w.heap.size, 9, none⟩) (by first | (simp; done) | (simp; omega))).trans (by simp [go_sem]), (hk.cell (p := ⟨w.heap.size, 10, none⟩) (by first | (simp; done) | (simp; omega))).trans (by simp [go_sem]), (hk.frozen (p := ⟨w.heap.size, 10, none⟩) (by first | (simp; done) | (simp; omega))).trans (by simp [go_sem]), (hk.cell (p := ⟨w.heap.size, 11, none⟩) (by first | (simp; done) | (simp; omega))).trans (by simp [go_sem]), (hk.frozen (p := ⟨w.heap.size, 11, none⟩) (by first | (simp; done) | (simp; omega))).trans (by simp [go_sem]), (hk.cell (p := ⟨w.heap.size, 12, none⟩) (by first | (simp; done) | (simp; omega))).trans (by simp [go_sem]), (hk.frozen (p := ⟨w.heap.size, 12, none⟩) (by first | (simp; done) | (simp; omega))).trans (by simp [go_sem]), (hk.cell (p := ⟨w.heap.size, 13, none⟩) (by first | (simp; done) | (simp; omega))).trans (by simp [go_sem]), (hk.frozen (p := ⟨w.heap.size, 13, none⟩) (by first | (simp; done) | (simp; omega))).trans (by simp [go_sem]), (hk.cell (p := ⟨w.heap.size, 14, none⟩) (by first | (simp; done) | (simp; omega))).trans (by simp [go_sem]), (hk.frozen (p := ⟨w.heap.size, 14, none⟩) (by first | (simp; done) | (simp; omega))).trans (by simp [go_sem]), (hk.cell (p := ⟨w.heap.size, 15, none⟩) (by first | (simp; done) | (simp; omega))).trans (by simp [go_sem]), (hk.frozen (p := ⟨w.heap.size, 15, none⟩) (by first | (simp; done) | (simp; omega))).trans (by simp [go_sem]), (hk.cell (p := ⟨w.heap.size, 16, none⟩) (by first | (simp; done) | (simp; omega))).trans (by simp [go_sem]), (hk.frozen (p := ⟨w.heap.size, 16, none⟩) (by first | (simp; done) | (simp; omega))).trans (by simp [go_sem]), (hk.cell (p := ⟨w.heap.size, 17, none⟩) (by first | (simp; done) | (simp; omega))).trans (by simp [go_sem]), (hk.frozen (p := ⟨w.heap.size, 17, none⟩) (by first | (simp; done) | (simp; omega))).trans (by simp [go_sem]), (hk.cell (p := ⟨w.heap.size, 18, none⟩) (by first | (simp; done) | (simp; omega))).trans (by simp [go_sem]), (hk.frozen (p := ⟨w.heap.size, 18, none⟩) (by first | (simp; done) | (simp; omega))).trans (by simp [go_sem]), (hk.cell (p := ⟨w.heap.size, 19, none⟩) (by first | (simp; done) | (simp; omega))).trans (by simp [go_sem]), (hk.frozen (p := ⟨w.heap.size, 19, none⟩) (by first | (simp; done) | (simp; omega))).trans (by simp [go_sem]), (hk.cell (p := ⟨w.heap.size + 1, 0, none⟩) (by first | (simp; done) | (simp; omega))).trans (by simp [go_sem]), (hk.frozen (p := ⟨w.heap.size + 1, 0, none⟩) (by first | (simp; done) | (simp; omega))).trans (by simp [go_sem]), (hk.cell (p := ⟨w.heap.size + 1, 1, none⟩) (by first | (simp; done) | (simp; omega))).trans (by simp [go_sem]), (hk.frozen (p := ⟨w.heap.size + 1, 1, none⟩) (by first | (simp; done) | (simp; omega))).trans (by simp [go_sem]), (hk.cell (p := ⟨w.heap.size + 1, 2, none⟩) (by first | (simp; done) | (simp; omega))).trans (by simp [go_sem]), (hk.frozen (p := ⟨w.heap.size + 1, 2, none⟩) (by first | (simp; done) | (simp; omega))).trans (by simp [go_sem]), (hk.cell (p := ⟨w.heap.size + 1, 3, none⟩) (by first | (simp; done) | (simp; omega))).trans (by simp [go_sem]), (hk.frozen (p := ⟨w.heap.size + 1, 3, none⟩) (by first | (simp; done) | (simp; omega))).trans (by simp [go_sem])⟩)
  have HB := Lib.hid (show Keeps w ((w.alloc (.cells #[.int .i64 (M 0), .int .i64 (M 1), .int .i64 (M 2), .int .i64 (M 3), .int .i64 (M 4), .int .i64 (M 5), .int .i64 (M 6), .int .i64 (M 7), .int .i64 (M 8), .int .i64 (M 9), .int .i64 (M 10), .int .i64 (M 11), .int .i64 (M 12), .int .i64 (M 13), .int .i64 (M 14), .int .i64 (M 15), .int .i64 (M 16), .int .i64 (M 17), .int .i64 (M 18), .int .i64 (M 19)] 42)).alloc (.cells #[.int .u8 p, .int .u8 q, .int .u8 r, .int .u8 t] 23)) from (by (repeat (first | (with_reducible exact Keeps.refl _) | (with_reducible assumption) | (with_reducible refine Keeps.drewN ?_ _) | (with_reducible refine Keeps.drew ?_) | (with_reducible refine Keeps.alloc ?_ _) | (with_reducible refine Keeps.setNew ?_ ?_ _))) <;> (dsimp only; omega)))
  have hk0 := Keeps.refl ((w.alloc (.cells #[.int .i64 (M 0), .int .i64 (M 1), .int .i64 (M 2), .int .i64 (M 3), .int .i64 (M 4), .int .i64 (M 5), .int .i64 (M 6), .int .i64 (M 7), .int .i64 (M 8), .int .i64 (M 9), .int .i64 (M 10), .int .i64 (M 11), .int .i64 (M 12), .int .i64 (M 13), .int .i64 (M 14), .int .i64 (M 15), .int .i64 (M 16), .int .i64 (M 17), .int .i64 (M 18), .int .i64 (M 19)] 42)).alloc (.cells #[.int .u8 p, .int .u8 q, .int .u8 r, .int .u8 t] 23))
  obtain ⟨X, hX⟩ : ∃ X : List Value, Hid (X = [.int .i64 (M 0), .int .i64 (M 1), .int .i64 (M 2), .int .i64 (M 3), .int .i64 (M 4), .int .i64 (M 5), .int .i64 (M 6), .int .i64 (M 7), .int .i64 (M 8), .int .i64 (M 9), .int .i64 (M 10), .int .i64 (M 11), .int .i64 (M 12), .int .i64 (M 13), .int .i64 (M 14), .int .i64 (M 15), .int .i64 (M 16), .int .i64 (M 17), .int .i64 (M 18), .int .i64 (M 19)]) := ⟨_, Lib.hid rfl⟩
  have eX : Hid ((.agg #[.int .i64 (M 0), .int .i64 (M 1), .int .i64 (M 2), .int .i64 (M 3), .int .i64 (M 4), .int .i64 (M 5), .int .i64 (M 6), .int .i64 (M 7), .int .i64 (M 8), .int .i64 (M 9), .int .i64 (M 10), .int .i64 (M 11), .int .i64 (M 12), .int .i64 (M 13), .int .i64 (M 14), .int .i64 (M 15), .int .i64 (M 16), .int .i64 (M 17), .int .i64 (M 18), .int .i64 (M 19)] : Value) = .agg X.toArray) := Lib.hid (by rw [hX.out])
  have HR : Hid (∀ w', Keeps (((w.alloc (.cells #[.int .i64 (M 0), .int .i64 (M 1), .int .i64 (M 2), .int .i64 (M 3), .int .i64 (M 4), .int .i64 (M 5), .int .i64 (M 6), .int .i64 (M 7), .int .i64 (M 8), .int .i64 (M 9), .int .i64 (M 10), .int .i64 (M 11), .int .i64 (M 12), .int .i64 (M 13), .int .i64 (M 14), .int .i64 (M 15), .int .i64 (M 16), .int .i64 (M 17), .int .i64 (M 18), .int .i64 (M 19)] 42)).alloc (.cells #[.int .u8 p, .int .u8 q, .int .u8 r, .int .u8 t] 23))) w' → w'.rangeAt w.heap.size 0 X) := Lib.hid (fun w' hk => by
    obtain ⟨y0, y1, y2, y3, y4, y5, y6, y7, y8, y9, y10, y11, y12, y13, y14, y15, y16, y17, y18, y19, y20, y21, y22, y23, y24, y25, y26, y27, y28, y29, y30, y31, y32, y33, y34, y35, y36, y37, y38, y39, y40, y41, y42, y43, y44, y45, y46, y47⟩ := HS.out _ hk
    rw [hX.out]
    exact range20 w' M _ (fun j hj => by
      have hq : j = 0 ∨ j = 1 ∨ j = 2 ∨ j = 3 ∨ j = 4 ∨ j = 5 ∨ j = 6 ∨ j = 7 ∨ j = 8 ∨ j = 9 ∨ j = 10 ∨ j = 11 ∨ j = 12 ∨ j = 13 ∨ j = 14 ∨ j = 15 ∨ j = 16 ∨ j = 17 ∨ j = 18 ∨ j = 19 := by omega
      rcases hq with rfl | rfl | rfl | rfl | rfl | rfl | rfl | rfl | rfl | rfl | rfl | rfl | rfl | rfl | rfl | rfl | rfl | rfl | rfl | rfl <;> assumption))
  have HC : Hid (∀ w', Keeps (((w.alloc (.cells #[.int .i64 (M 0), .int .i64 (M 1), .int .i64 (M 2), .int .i64 (M 3), .int .i64 (M 4), .int .i64 (M 5), .int .i64 (M 6), .int .i64 (M 7), .int .i64 (M 8), .int .i64 (M 9), .int .i64 (M 10), .int .i64 (M 11), .int .i64 (M 12), .int .i64 (M 13), .int .i64 (M 14), .int .i64 (M 15), .int .i64 (M 16), .int .i64 (M 17), .int .i64 (M 18), .int .i64 (M 19)] 42)).alloc (.cells #[.int .u8 p, .int .u8 q, .int .u8 r, .int .u8 t] 23))) w' → w'.cell? ⟨w.heap.size + 1, 0, none⟩ = some (.int .u8 p) ∧ w'.cell? ⟨w.heap.size + 1, 1, none⟩ = some (.int .u8 q) ∧ w'.cell? ⟨w.heap.size + 1, 2, none⟩ = some (.int .u8 r) ∧ w'.cell? ⟨w.heap.size + 1, 3, none⟩ = some (.int .u8 t) ∧ True) := Lib.hid (fun w' hk => by
    obtain ⟨y0, y1, y2, y3, y4, y5, y6, y7, y8, y9, y10, y11, y12, y13, y14, y15, y16, y17, y18, y19, y20, y21, y22, y23, y24, y25, y26, y27, y28, y29, y30, y31, y32, y33, y34, y35, y36, y37, y38, y39, y40, y41, y42, y43, y44, y45, y46, y47⟩ := HS.out _ hk
    exact ⟨by assumption, by assumption, by assumption, by assumption, trivial⟩)
  have hz : (((w.alloc (.cells #[.int .i64 (M 0), .int .i64 (M 1), .int .i64 (M 2), .int .i64 (M 3), .int .i64 (M 4), .int .i64 (M 5), .int .i64 (M 6), .int .i64 (M 7), .int .i64 (M 8), .int .i64 (M 9), .int .i64 (M 10), .int .i64 (M 11), .int .i64 (M 12), .int .i64 (M 13), .int .i64 (M 14), .int .i64 (M 15), .int .i64 (M 16), .int .i64 (M 17), .int .i64 (M 18), .int .i64 (M 19)] 42)).alloc (.cells #[.int .u8 p, .int .u8 q, .int .u8 r, .int .u8 t] 23))).heap.size = w.heap.size + 1 + 1 := by simp
  have u0 := Try.underlying42
  have u1 : (Try.prog.info? 42).map (·.size) = some X.length := by rw [hX.out]; rfl
  have K1 := Lib.hid hF
  have K2 := Lib.hid hG
  simp only [eX.out] at K1 K2
  clear hF hG HS hX
  go_enter Try.func8, Try.ntmps8
  go_upto_region 1 with fail
  generalize ((w.alloc (.cells #[.int .i64 (M 0), .int .i64 (M 1), .int .i64 (M 2), .int .i64 (M 3), .int .i64 (M 4), .int .i64 (M 5), .int .i64 (M 6), .int .i64 (M 7), .int .i64 (M 8), .int .i64 (M 9), .int .i64 (M 10), .int .i64 (M 11), .int .i64 (M 12), .int .i64 (M 13), .int .i64 (M 14), .int .i64 (M 15), .int .i64 (M 16), .int .i64 (M 17), .int .i64 (M 18), .int .i64 (M 19)] 42)).alloc (.cells #[.int .u8 p, .int .u8 q, .int .u8 r, .int .u8 t] 23)) = W2 at *
  simp only [eX.out]
  clear eX
  obtain ⟨c0, c1, c2, c3, _⟩ := HC.out _ hk0
  apply wp_region_lit
  refine wpList_load_mid rfl 42 _ rfl w.heap.size 0 rfl X _ (HR.out _ hk0) u0 rfl u1 ?_
  simp only [Act.put, List.setIfInBounds_toArray, List.set_cons_zero, List.set_cons_succ]
  go_upto_region 2 with (go_at_call 32; (with_reducible refine (K1.out _).mono ?_); rintro e w1 ⟨rfl, hk1⟩; have HE := Lib.hid (box4 w1 (.int .u8 x) (.int .u8 y) (.int .u8 z) (.int .u8 v) 23 w1.heap.size rfl); have HK := Lib.hid (Keeps.alloc hk1 (.cells #[.int .u8 x, .int .u8 y, .int .u8 z, .int .u8 v] 23)); have hsz := hk1.size)
  obtain ⟨d0, d1, d2, d3, _⟩ := HC.out _ HK.out
  apply wp_region_lit
  refine wpList_load_mid rfl 42 _ rfl w.heap.size 0 rfl X _ (HR.out _ HK.out) u0 rfl u1 ?_
  simp only [Act.put, List.setIfInBounds_toArray, List.set_cons_zero, List.set_cons_succ]
  go_wp2_with (first | (go_at_call 33; (with_reducible refine (K2.out _).mono ?_); rintro e w2 ⟨rfl, hk2⟩; obtain ⟨x0, x1, x2, x3⟩ := HE.out _ hk2; have HK2 := Lib.hid ((HK.out.trans hk2).alloc (.cells #[.int .u8 x, .int .u8 y, .int .u8 z, .int .u8 v] 23)); have hsz2 : w1.heap.size < w2.heap.size := (by have h := hk2.size; simp at h; omega)) | (go_at_call 16; (with_reducible refine (K9.out _).mono ?_); rintro e w4 ⟨rfl, hk4⟩))
  go_ret
  exact ⟨rfl, HB.out.trans (HK2.out.trans hk4)⟩
theorem walk (m0 m1 m2 m3 m4 m5 m6 m7 m8 m9 m10 m11 m12 m13 m14 m15 m16 m17 m18 m19 p q r t : Int) (w : World) (_ : -9223372036854775808 ≤ m0) (_ : m0 ≤ 9223372036854775807) (_ : -9223372036854775808 ≤ m1) (_ : m1 ≤ 9223372036854775807) (_ : -9223372036854775808 ≤ m2) (_ : m2 ≤ 9223372036854775807) (_ : -9223372036854775808 ≤ m3) (_ : m3 ≤ 9223372036854775807) (_ : -9223372036854775808 ≤ m4) (_ : m4 ≤ 9223372036854775807) (_ : -9223372036854775808 ≤ m5) (_ : m5 ≤ 9223372036854775807) (_ : -9223372036854775808 ≤ m6) (_ : m6 ≤ 9223372036854775807) (_ : -9223372036854775808 ≤ m7) (_ : m7 ≤ 9223372036854775807) (_ : -9223372036854775808 ≤ m8) (_ : m8 ≤ 9223372036854775807) (_ : -9223372036854775808 ≤ m9) (_ : m9 ≤ 9223372036854775807) (_ : -9223372036854775808 ≤ m10) (_ : m10 ≤ 9223372036854775807) (_ : -9223372036854775808 ≤ m11) (_ : m11 ≤ 9223372036854775807) (_ : -9223372036854775808 ≤ m12) (_ : m12 ≤ 9223372036854775807) (_ : -9223372036854775808 ≤ m13) (_ : m13 ≤ 9223372036854775807) (_ : -9223372036854775808 ≤ m14) (_ : m14 ≤ 9223372036854775807) (_ : -9223372036854775808 ≤ m15) (_ : m15 ≤ 9223372036854775807) (_ : -9223372036854775808 ≤ m16) (_ : m16 ≤ 9223372036854775807) (_ : -9223372036854775808 ≤ m17) (_ : m17 ≤ 9223372036854775807) (_ : -9223372036854775808 ≤ m18) (_ : m18 ≤ 9223372036854775807) (_ : -9223372036854775808 ≤ m19) (_ : m19 ≤ 9223372036854775807) (l0 : 0 ≤ p) (u0 : p ≤ 255) (l1 : 0 ≤ q) (u1 : q ≤ 255) (l2 : 0 ≤ r) (u2 : r ≤ 255) (l3 : 0 ≤ t) (u3 : t ≤ 255) :
    Calls Try.prog 8 #[.agg #[.int .i64 m0, .int .i64 m1, .int .i64 m2, .int .i64 m3, .int .i64 m4, .int .i64 m5, .int .i64 m6, .int .i64 m7, .int .i64 m8, .int .i64 m9, .int .i64 m10, .int .i64 m11, .int .i64 m12, .int .i64 m13, .int .i64 m14, .int .i64 m15, .int .i64 m16, .int .i64 m17, .int .i64 m18, .int .i64 m19], .agg #[.int .u8 p, .int .u8 q, .int .u8 r, .int .u8 t]] w fun e w' => e = .returned (.bool true) ∧ Below w.heap.size w w' :=
  walkM (fun k => ([m0, m1, m2, m3, m4, m5, m6, m7, m8, m9, m10, m11, m12, m13, m14, m15, m16, m17, m18, m19] : List Int).getD k 0) p q r t w l0 u0 l1 u1 l2 u2 l3 u3

set_option maxRecDepth 100000 in
theorem lifted (os : Os) (started : os.Started) (H : Type) (enc : TypeId × Value → H) :
    ReturnsInHanded {} Try.checked os 8 .any (Rows.colorMatrixSpec.pre6 enc Try.prog Try.f8 Rows.colorMatrixRow.domain false) (Rows.colorMatrixSpec.post enc Try.prog Try.f8 false true false false) := by
  refine returnsInHanded_of_change (C := Try.checked) Try.own started (by kernel_rfl) Try.func8
    (ChangeSpec.witness6 (enc := enc) (C := Try.checked) false ⟨#[], #[.agg #[.int .i64 0, .int .i64 0, .int .i64 0, .int .i64 0, .int .i64 0, .int .i64 0, .int .i64 0, .int .i64 0, .int .i64 0, .int .i64 0, .int .i64 0, .int .i64 0, .int .i64 0, .int .i64 0, .int .i64 0, .int .i64 0, .int .i64 0, .int .i64 0, .int .i64 0, .int .i64 0], .agg #[.int .u8 0, .int .u8 0, .int .u8 0, .int .u8 0]], []⟩ 8 (by kernel_rfl) (by kernel_rfl) (by kernel_rfl) (by kernel_rfl)) ?_
  intro W base args ds gs before hval0 hW hcnd _
  have hval : ∀ (j : Nat) t v, Try.f8.params[j]? = some t → args[j]? = some v → Value.okWide Try.prog W .any base t v := hval0
  have hW' := hW
  obtain ⟨p, q, hA0, hV, rfl, hfz, hnd⟩ := hW
  have hA : DataW.TrodAll enc Try.prog W 0 (fun _ => true) true Try.f8.params.toList args.toList ds p := hA0
  have hAll := hA
  rw [Try.params8] at hA hval
  obtain ⟨v0, vs0, d0, ds0, p0, q0, hargs, rfl, rfl, h0, r0⟩ := trodAll_cons hA
  obtain ⟨v1, vs1, d1, ds1, p1, q1, rfl, rfl, rfl, h1, r1⟩ := trodAll_cons r0
  obtain ⟨rfl, rfl, rfl⟩ := trodAll_nil r1
  obtain rfl : args = #[v0, v1] := by cases args; simp_all
  obtain ⟨rfl, rfl⟩ := trodVars_none hV
  obtain ⟨c0, rfl, L0_0⟩ := open_flat (ks := [some .i64, some .i64, some .i64, some .i64, some .i64, some .i64, some .i64, some .i64, some .i64, some .i64, some .i64, some .i64, some .i64, some .i64, some .i64, some .i64, some .i64, some .i64, some .i64, some .i64]) (by kernel_rfl) (by kernel_rfl) (hval 0 42 v0 rfl rfl) h0
  obtain ⟨_, c0_0, rfl, ⟨a0_0, rfl, w0_0⟩, L0_1⟩ := leafs_cons L0_0
  obtain ⟨l0_0, u0_0⟩ := bounds_i64 w0_0
  obtain ⟨_, c0_1, rfl, ⟨a0_1, rfl, w0_1⟩, L0_2⟩ := leafs_cons L0_1
  obtain ⟨l0_1, u0_1⟩ := bounds_i64 w0_1
  obtain ⟨_, c0_2, rfl, ⟨a0_2, rfl, w0_2⟩, L0_3⟩ := leafs_cons L0_2
  obtain ⟨l0_2, u0_2⟩ := bounds_i64 w0_2
  obtain ⟨_, c0_3, rfl, ⟨a0_3, rfl, w0_3⟩, L0_4⟩ := leafs_cons L0_3
  obtain ⟨l0_3, u0_3⟩ := bounds_i64 w0_3
  obtain ⟨_, c0_4, rfl, ⟨a0_4, rfl, w0_4⟩, L0_5⟩ := leafs_cons L0_4
  obtain ⟨l0_4, u0_4⟩ := bounds_i64 w0_4
  obtain ⟨_, c0_5, rfl, ⟨a0_5, rfl, w0_5⟩, L0_6⟩ := leafs_cons L0_5
  obtain ⟨l0_5, u0_5⟩ := bounds_i64 w0_5
  obtain ⟨_, c0_6, rfl, ⟨a0_6, rfl, w0_6⟩, L0_7⟩ := leafs_cons L0_6
  obtain ⟨l0_6, u0_6⟩ := bounds_i64 w0_6
  obtain ⟨_, c0_7, rfl, ⟨a0_7, rfl, w0_7⟩, L0_8⟩ := leafs_cons L0_7
  obtain ⟨l0_7, u0_7⟩ := bounds_i64 w0_7
  obtain ⟨_, c0_8, rfl, ⟨a0_8, rfl, w0_8⟩, L0_9⟩ := leafs_cons L0_8
  obtain ⟨l0_8, u0_8⟩ := bounds_i64 w0_8
  obtain ⟨_, c0_9, rfl, ⟨a0_9, rfl, w0_9⟩, L0_10⟩ := leafs_cons L0_9
  obtain ⟨l0_9, u0_9⟩ := bounds_i64 w0_9
  obtain ⟨_, c0_10, rfl, ⟨a0_10, rfl, w0_10⟩, L0_11⟩ := leafs_cons L0_10
  obtain ⟨l0_10, u0_10⟩ := bounds_i64 w0_10
  obtain ⟨_, c0_11, rfl, ⟨a0_11, rfl, w0_11⟩, L0_12⟩ := leafs_cons L0_11
  obtain ⟨l0_11, u0_11⟩ := bounds_i64 w0_11
  obtain ⟨_, c0_12, rfl, ⟨a0_12, rfl, w0_12⟩, L0_13⟩ := leafs_cons L0_12
  obtain ⟨l0_12, u0_12⟩ := bounds_i64 w0_12
  obtain ⟨_, c0_13, rfl, ⟨a0_13, rfl, w0_13⟩, L0_14⟩ := leafs_cons L0_13
  obtain ⟨l0_13, u0_13⟩ := bounds_i64 w0_13
  obtain ⟨_, c0_14, rfl, ⟨a0_14, rfl, w0_14⟩, L0_15⟩ := leafs_cons L0_14
  obtain ⟨l0_14, u0_14⟩ := bounds_i64 w0_14
  obtain ⟨_, c0_15, rfl, ⟨a0_15, rfl, w0_15⟩, L0_16⟩ := leafs_cons L0_15
  obtain ⟨l0_15, u0_15⟩ := bounds_i64 w0_15
  obtain ⟨_, c0_16, rfl, ⟨a0_16, rfl, w0_16⟩, L0_17⟩ := leafs_cons L0_16
  obtain ⟨l0_16, u0_16⟩ := bounds_i64 w0_16
  obtain ⟨_, c0_17, rfl, ⟨a0_17, rfl, w0_17⟩, L0_18⟩ := leafs_cons L0_17
  obtain ⟨l0_17, u0_17⟩ := bounds_i64 w0_17
  obtain ⟨_, c0_18, rfl, ⟨a0_18, rfl, w0_18⟩, L0_19⟩ := leafs_cons L0_18
  obtain ⟨l0_18, u0_18⟩ := bounds_i64 w0_18
  obtain ⟨_, c0_19, rfl, ⟨a0_19, rfl, w0_19⟩, L0_20⟩ := leafs_cons L0_19
  obtain ⟨l0_19, u0_19⟩ := bounds_i64 w0_19
  obtain rfl := leafs_nil L0_20
  obtain ⟨c1, rfl, L1_0⟩ := open_flat (ks := [some .u8, some .u8, some .u8, some .u8]) (by kernel_rfl) (by kernel_rfl) (hval 1 23 v1 rfl rfl) h1
  obtain ⟨_, c1_0, rfl, ⟨a1_0, rfl, w1_0⟩, L1_1⟩ := leafs_cons L1_0
  obtain ⟨l1_0, u1_0⟩ := bounds_u8 w1_0
  obtain ⟨_, c1_1, rfl, ⟨a1_1, rfl, w1_1⟩, L1_2⟩ := leafs_cons L1_1
  obtain ⟨l1_1, u1_1⟩ := bounds_u8 w1_1
  obtain ⟨_, c1_2, rfl, ⟨a1_2, rfl, w1_2⟩, L1_3⟩ := leafs_cons L1_2
  obtain ⟨l1_2, u1_2⟩ := bounds_u8 w1_2
  obtain ⟨_, c1_3, rfl, ⟨a1_3, rfl, w1_3⟩, L1_4⟩ := leafs_cons L1_3
  obtain ⟨l1_3, u1_3⟩ := bounds_u8 w1_3
  obtain rfl := leafs_nil L1_4
  clear hA0 hval0
  refine (walk a0_0 a0_1 a0_2 a0_3 a0_4 a0_5 a0_6 a0_7 a0_8 a0_9 a0_10 a0_11 a0_12 a0_13 a0_14 a0_15 a0_16 a0_17 a0_18 a0_19 a1_0 a1_1 a1_2 a1_3 W l0_0 u0_0 l0_1 u0_1 l0_2 u0_2 l0_3 u0_3 l0_4 u0_4 l0_5 u0_5 l0_6 u0_6 l0_7 u0_7 l0_8 u0_8 l0_9 u0_9 l0_10 u0_10 l0_11 u0_11 l0_12 u0_12 l0_13 u0_13 l0_14 u0_14 l0_15 u0_15 l0_16 u0_16 l0_17 u0_17 l0_18 u0_18 l0_19 u0_19 l1_0 u1_0 l1_1 u1_1 l1_2 u1_2 l1_3 u1_3).mono fun e W' ⟨he, bel⟩ => ?_
  subst he
  exact ⟨_, rfl, _, _, _, [], _, [], hW', trodAll_mk1 (shut_bool Try.underlying4 _), below_trodAll Try.laidOut bel (reads_of (by kernel_rfl)) hAll, rfl, bel.frame _, fun h => by cases h⟩

theorem over : Rows.colorMatrixRow.holds Try.pinned (OpenSpec.ofChange Rows.colorMatrixSpec) :=
  OpenClaim.holds_of_wide 8 Try.f8 rfl rfl rfl rfl rfl rfl rfl ⟨rfl, rfl, rfl, rfl, rfl⟩ rfl rfl rfl rfl rfl (by kernel_rfl) Try.func8 (by kernel_rfl)
    (of_decide_eq_true (by kernel_rfl)) (by unfold Func.isWrapper; first | (rw [if_pos (by decide +kernel)]; kernel_rfl) | (rw [if_neg (by decide +kernel)]; exact ⟨rfl, rfl⟩))
    (fun os started H enc _ => lifted os started H enc)

/-- The statement. -/
theorem proved : Rows.ColorMatrixSaid := over
#print axioms proved
end Go.Proofs.Ytjfimlcljbdglaa.colorMatrix
