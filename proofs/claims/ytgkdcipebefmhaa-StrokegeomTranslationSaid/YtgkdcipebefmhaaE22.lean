/- The example of chapter 22 holds. -/
import Derived.Test.YtgkdcipebefmhaaQq
import Derived.Test.YtgkdcipebefmhaaQp
namespace Go.Proofs.Ytgkdcipebefmhaa
open Go.RowKit
set_option linter.unusedVariables false
set_option linter.unusedSimpArgs false
def want22 : List Pt := [(0, -128), (512, -128), (512, 128), (0, 128)]
def dot22 : List Pt := [(-1, -1), (1, -1), (1, 1), (-1, 1)]
theorem OwnP.pts {w0 w : World} {L : List Pt} {v : Value} {n : Nat} (h : w.ownsRow w0.heap.size 28 2 v L.length (rowP L)) (hn : L.length = n) (ho : ∀ p ∈ L, okP p) : ∃ A c, v = .slice A n c ∧ Pts w A n c L := by
  subst hn; exact Pts.of_own h rfl ho
theorem Pts.litH (w : World) (L : List Pt) (h : ∀ p ∈ L, okP p) (t : TypeId) (H n : Nat) (hH : w.heap.size = H) (hn : L.length = n) (hm : n ≤ maxLen) : Pts (w.alloc (.cells (rowP L).toArray t)) (some ⟨H, 0, none⟩) n n L := by
  subst hH hn
  exact Pts.lit w L h t hm
set_option maxRecDepth 100000 in
set_option maxHeartbeats 1000000 in
theorem example22_any (w : World) : Calls Try.prog 10 #[] w fun e w' => e = .returned (.bool true) ∧ Keeps w w' := by
  have g3 := ptGuard
  have g4 := ptEql
  have K1 := Lib.hid (fun w => ofs_any 512 0 256 w)
  rw [show ofs (512, 0) 256 = (0, 128) by decide +kernel] at K1
  have K2 := Lib.hid (fun w => body_any (0, 0) (512, 0) 256 w)
  rw [show bodyL (0, 0) (512, 0) 256 = want22 by decide +kernel] at K2
  have K3 := Lib.hid (fun w => dot_any (0, 0) 2 w)
  rw [show dotL (0, 0) 2 = dot22 by decide +kernel] at K3
  have K4 := Lib.hid (fun w => style_any 1 1 4 256 0 none 0 0 [] w ⟨rfl, Nat.le_refl _, Nat.zero_le _, (fun p hp => by cases hp), (fun h => absurd h (by omega))⟩)
  rw [show stB 1 1 4 256 0 [] = true by decide +kernel] at K4
  have ok1 : ∀ p ∈ want22, okP p := by unfold want22 okP i64b; intro p hp; simp at hp; rcases hp with rfl | rfl | rfl | rfl <;> (dsimp only; omega)
  have ok2 : ∀ p ∈ dot22, okP p := by unfold dot22 okP i64b; intro p hp; simp at hp; rcases hp with rfl | rfl | rfl | rfl <;> (dsimp only; omega)
  have ok1 := Lib.hid ok1
  have ok2 := Lib.hid ok2
  have hW1 := Lib.hid (show Pts (w.alloc (.cells (rowP want22).toArray 28)) (some ⟨w.heap.size, 0, none⟩) 4 4 want22 from Pts.lit w want22 ok1.out 28 (show 4 ≤ maxLen by unfold maxLen; omega))
  have hW2 := Lib.hid (show Pts ((w.alloc (.cells (rowP want22).toArray 28)).alloc (.cells (rowP dot22).toArray 28)) (some ⟨w.heap.size + 1, 0, none⟩) 4 4 dot22 from Pts.litH (w.alloc (.cells (rowP want22).toArray 28)) dot22 ok2.out 28 (w.heap.size + 1) 4 (by simp) rfl (show 4 ≤ maxLen by unfold maxLen; omega))
  have hk0 := Lib.hid ((Keeps.refl w).alloc (.cells (rowP want22).toArray 28))
  have hk1 := Lib.hid ((Keeps.refl (w.alloc (.cells (rowP want22).toArray 28))).alloc (.cells (rowP dot22).toArray 28))
  have hka := Lib.hid (hk0.out.trans hk1.out)
  have hP1 := Lib.hid (hW1.out.keep hk1.out)
  go_enter Try.func10, Try.ntmps10
  go_wp2_with (first | (go_at_call 13; (with_reducible refine (K1.out _).mono ?_); rintro e w1 ⟨rfl, hk⟩; have hka := Lib.hid (hka.out.trans hk); have hP1 := Lib.hid (hP1.out.keep hk); have hP2 := Lib.hid (hW2.out.keep hk); clear hk hW1 hW2)      | (go_at_call 16; (with_reducible refine (K2.out _).mono ?_); rintro e w2 ⟨v2, rfl, hown, hk⟩; have hka := Lib.hid (hka.out.trans hk); have hP1 := Lib.hid (hP1.out.keep hk); have hP2 := Lib.hid (hP2.out.keep hk); obtain ⟨A2, c2, rfl, hR⟩ := OwnP.pts (n := 4) hown rfl ok1.out; have KR := Lib.hid (ring_any A2 _ 4 c2 _ want22 w2 hR hP1.out); clear hk hown hR)      | (go_at_call 24; (with_reducible refine (K3.out _).mono ?_); rintro e w3 ⟨v3, rfl, hown, hk⟩; have hka := Lib.hid (hka.out.trans hk); have hP1 := Lib.hid (hP1.out.keep hk); have hP2 := Lib.hid (hP2.out.keep hk); obtain ⟨A3, c3, rfl, hR⟩ := OwnP.pts (n := 4) hown rfl ok2.out; have KR := Lib.hid (ring_any A3 _ 4 c3 _ dot22 w3 hR hP2.out); clear hk hown hR)      | (go_at_call 18; (with_reducible refine (KR.out).mono ?_); rintro e w4 ⟨rfl, hk⟩; have hka := Lib.hid (hka.out.trans hk); have hP1 := Lib.hid (hP1.out.keep hk); have hP2 := Lib.hid (hP2.out.keep hk); clear hk KR)      | (go_at_call 11; (with_reducible refine (K4.out _).mono ?_); rintro e w5 ⟨rfl, hk⟩; have hka := Lib.hid (hka.out.trans hk); clear hk))
  go_ret
  exact ⟨rfl, hka.out⟩
end Go.Proofs.Ytgkdcipebefmhaa
