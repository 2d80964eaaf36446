/- Contracts of grey and exampleHolds of grisaillelaw31. -/
import Derived.Test.YtboomdbmeallfaaGc
namespace Go.Proofs.Ytboomdbmeallfaa
open Go.RowKit
set_option linter.unusedVariables false
set_option linter.unusedSimpArgs false
def greyL : List St := [(0, 0, 0, 0, 255), (65536, 255, 255, 255, 255)]
theorem sts2 (w : World) (a b : St) (ha : okSt a) (hb : okSt b) (w' : World) (hk : Keeps (w.alloc (.cells #[.int .i64 a.1, .int .u8 a.2.1, .int .u8 a.2.2.1, .int .u8 a.2.2.2.1, .int .u8 a.2.2.2.2, .int .i64 b.1, .int .u8 b.2.1, .int .u8 b.2.2.1, .int .u8 b.2.2.2.1, .int .u8 b.2.2.2.2] 31)) w') : Sts w' (some ⟨w.heap.size, 0, none⟩) 2 2 [a, b] := by
  refine Sts.keep ⟨rfl, by omega, by unfold maxLen; omega, ?_, fun _ => ⟨w.heap.size, 0, rfl, by simp, ?_⟩⟩ hk
  · intro s hs
    rcases List.mem_cons.1 hs with rfl | hs
    · exact ha
    · rcases List.mem_cons.1 hs with rfl | hs
      · exact hb
      · cases hs
  · intro k hk
    have hq : k = 0 ∨ k = 1 := by omega
    rcases hq with rfl | rfl
    · exact ⟨by simp [go_sem], by simp [go_sem], by simp [go_sem], by simp [go_sem], by simp [go_sem]⟩
    · exact ⟨by simp [go_sem], by simp [go_sem], by simp [go_sem], by simp [go_sem], by simp [go_sem]⟩
set_option maxRecDepth 100000 in
theorem grey_any (w : World) : Calls Try.prog 38 #[] w fun e w' => ∃ A, e = .returned (.slice A 2 2) ∧ Sts w' A 2 2 greyL ∧ Keeps w w' := by
  go_enter Try.func38, Try.ntmps38
  go_wp2
  go_ret
  exact ⟨_, rfl, sts2 w (0, 0, 0, 0, 255) (65536, 255, 255, 255, 255) (by simp [okSt, u8b]) (by simp [okSt, u8b]) _ (Keeps.refl _), (Keeps.refl _).alloc _⟩
set_option maxRecDepth 100000 in
set_option maxHeartbeats 1000000 in
theorem example31_any (w : World) : Calls Try.prog 14 #[] w fun e w' => e = .returned (.bool true) ∧ Keeps w w' := by
  have g3 := coGuard
  have g4 := coEql
  have q1 := eq4_refl 128 128 128 255
  have e1 : vB greyL = true := by decide
  have e2 : colV (cAt greyL 32768) = .agg #[.int .u8 128, .int .u8 128, .int .u8 128, .int .u8 255] := by
    rw [show cAt greyL 32768 = (128, 128, 128, 255) by decide +kernel]; rfl
  have G1 := Lib.hid (fun w => grey_any w)
  have G2 := Lib.hid (fun A w h => valid31_any A 2 2 greyL w h)
  rw [e1] at G2
  have G3 := Lib.hid (fun A w h => colorAt_any A 2 2 greyL 32768 w h (by omega) (by omega))
  rw [e2] at G3
  have G4 := Lib.hid (fun w => spread_any (-1) 2 w (by omega) (by omega))
  have G5 := Lib.hid (fun w => spread_any (-1) 3 w (by omega) (by omega))
  have G6 := Lib.hid (fun w => spread_any (-1) 1 w (by omega) (by omega))
  rw [show spI (-1) 2 = 65535 by decide] at G4
  rw [show spI (-1) 3 = 1 by decide] at G5
  rw [show spI (-1) 1 = 0 by decide] at G6
  have hk0 := Keeps.refl w
  clear e1 e2
  go_enter Try.func14, Try.ntmps14
  go_wp2_with (first | (go_at_call 38; (with_reducible refine (G1.out _).mono ?_); rintro e w1 ⟨A, rfl, hS, hk⟩; replace hk0 := hk0.trans hk; clear hk) | (go_at_call 16; (with_reducible refine (G2.out _ _ (by assumption)).mono ?_); rintro e w2 ⟨rfl, hk⟩; replace hk0 := hk0.trans hk; clear hk hS) | (go_at_call 17; (with_reducible refine (G3.out _ _ (by assumption)).mono ?_); rintro e w3 ⟨rfl, hk⟩; replace hk0 := hk0.trans hk; clear hk hS) | (go_at_call 13; (first | (with_reducible refine (G4.out _).mono ?_) | (with_reducible refine (G5.out _).mono ?_) | (with_reducible refine (G6.out _).mono ?_)); rintro e w4 ⟨rfl, rfl⟩))
  go_ret
  exact ⟨rfl, hk0⟩
end Go.Proofs.Ytboomdbmeallfaa
