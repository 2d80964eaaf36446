/- The example of the chapter on colors holds. -/
import Derived.Test.YtjfimlcljbdglaaCf
import Derived.Test.YtjfimlcljbdglaaCi
namespace Go.Proofs.Ytjfimlcljbdglaa
open Go.RowKit
set_option linter.unusedVariables false
set_option linter.unusedSimpArgs false
theorem box4 (w1 : World) (u v x y : Value) (t b : Nat) (hb : b = w1.heap.size) : ∀ w', Keeps (w1.alloc (.cells #[u, v, x, y] t)) w' → w'.cell? ⟨b, 0, none⟩ = some u ∧ w'.cell? ⟨b, 1, none⟩ = some v ∧ w'.cell? ⟨b, 2, none⟩ = some x ∧ w'.cell? ⟨b, 3, none⟩ = some y := by
  subst hb
  intro w' hk
  exact ⟨(hk.cell (by simp)).trans (by simp [go_sem]), (hk.cell (by simp)).trans (by simp [go_sem]), (hk.cell (by simp)).trans (by simp [go_sem]), (hk.cell (by simp)).trans (by simp [go_sem])⟩
set_option maxRecDepth 100000 in
set_option maxHeartbeats 1000000 in
theorem example27_any (w : World) : Calls Try.prog 16 #[] w fun e w' => e = .returned (.bool true) ∧ Keeps w w' := by
  have G1 := Lib.hid (fun w => parse_any ⟨#[35, 102, 102, 56, 48, 48, 48, 56, 48]⟩ 255 128 0 128 0 w (Or.inl ⟨rfl, by decide, by decide, by decide, by decide, by decide⟩))
  have G2 := Lib.hid (fun w => prem_any 255 128 0 128 w ⟨by decide, by decide⟩ ⟨by decide, by decide⟩ ⟨by decide, by decide⟩ ⟨by decide, by decide⟩)
  rw [show mn8 255 128 = 128 by decide, show mn8 128 128 = 64 by decide, show mn8 0 128 = 0 by decide] at G2
  have G3 := Lib.hid (fun w => format_any 255 128 0 128 w (by decide) (by decide) (by decide) (by decide))
  rw [show strB (fmtL 255 128 0 128) = ⟨#[35, 102, 102, 56, 48, 48, 48, 56, 48]⟩ by decide, show ((255 : Nat) : Int) = 255 from rfl, show ((128 : Nat) : Int) = 128 from rfl, show ((0 : Nat) : Int) = 0 from rfl] at G3
  have HC := Lib.hid (box4 w (.int .u8 255) (.int .u8 128) (.int .u8 0) (.int .u8 128) 23 w.heap.size rfl)
  have HK := Lib.hid ((Keeps.refl w).alloc (.cells #[.int .u8 255, .int .u8 128, .int .u8 0, .int .u8 128] 23))
  have g1 := pxGuard
  have g2 := pxEql
  have g3 := coGuard
  have g4 := coEql
  have q1 := eq4_refl 128 64 0 128
  have q2 := eq4_refl 255 128 0 128
  go_enter Try.func16, Try.ntmps16
  go_wp2_with (first | (go_at_call 13; (with_reducible refine (G1.out _).mono ?_); rintro e w1 ⟨rfl, hk⟩; have HD := Lib.hid (fun w' hk' => And.intro (HC.out w' ((hk.alloc (.cells #[.int .u8 255, .int .u8 128, .int .u8 0, .int .u8 128] 23)).trans hk')) (box4 w1 _ _ _ _ _ w1.heap.size rfl w' hk')); have HK2 := Lib.hid ((HK.out.trans hk).alloc (.cells #[.int .u8 255, .int .u8 128, .int .u8 0, .int .u8 128] 23)); obtain ⟨x0, x1, x2, x3⟩ := HC.out _ hk; have hsz : w.heap.size < w1.heap.size := (by have h := hk.size; simp at h; omega)) | (go_at_call 17; (with_reducible refine (G2.out _).mono ?_); rintro e w2 ⟨rfl, hk2⟩; obtain ⟨⟨y0, y1, y2, y3⟩, z0, z1, z2, z3⟩ := HD.out _ hk2) | (go_at_call 15; (with_reducible refine (G3.out _).mono ?_); rintro e w3 ⟨rfl, hk3⟩; obtain ⟨⟨y0, y1, y2, y3⟩, z0, z1, z2, z3⟩ := HD.out _ (hk2.trans hk3)))
  go_ret
  exact ⟨rfl, HK2.out.trans (hk2.trans hk3)⟩
end Go.Proofs.Ytjfimlcljbdglaa
