/- LinejoinReversal of grisaillelaw23 returns true for all its arguments; no condition. -/
import Derived.Test.YtdodgnpjlicnoaaE23
import Derived.Test.YtdodgnpjlicnoaaJk
import Derived.Test.YtdodgnpjlicnoaaJh
import Derived.Test.YtdodgnpjlicnoaaOt
import Derived.Test.YtdodgnpjlicnoaaWe
import Derived.Test.YtdodgnpjlicnoaaOp
import Derived.Test.YtdodgnpjlicnoaaKk
namespace Go.Proofs.Ytdodgnpjlicnoaa.linejoinReversal
open Go.RowKit Go.ChangeShapes Go.WideShapes Go.ChangeAt
set_option linter.unusedVariables false
open Go.Proofs.Ytdodgnpjlicnoaa
set_option linter.unusedSimpArgs false
theorem RwsB.base {B B2 : Nat} {w : World} {A : Option Addr} {n c : Nat} {LL : List (List Pt)} (h : RwsB B w A n c LL) (hb : B2 ≤ B) : RwsB B2 w A n c LL := by
  obtain ⟨h1, h2, h3, h4⟩ := h
  refine ⟨h1, h2, h3, fun hn => ?_⟩
  obtain ⟨b, o, e, hB, hb', hx⟩ := h4 hn
  refine ⟨b, o, e, by omega, hb', fun k hk => ?_⟩
  obtain ⟨Ak, nk, ck, e1, hP, l1, hf⟩ := hx k hk
  exact ⟨Ak, nk, ck, e1, hP, l1, fun a ha => Nat.le_trans hb (hf a ha)⟩
theorem st_other {wd jn cp ml ph : Int} {D : List Int} (h : stB wd jn cp ml ph D = true) : stB wd jn 5 ml 7 [1, 2] = true := by
  unfold stB at h ⊢
  simp only [Bool.and_eq_true] at h ⊢
  obtain ⟨⟨⟨⟨⟨⟨⟨h1, h2⟩, h3⟩, h4⟩, h5⟩, h6⟩, h7⟩, h8⟩ := h
  exact ⟨⟨⟨⟨⟨⟨⟨h1, h2⟩, by decide⟩, h4⟩, h5⟩, by decide⟩, by decide⟩, by decide⟩
set_option maxRecDepth 100000 in
set_option maxHeartbeats 4000000 in
theorem walk (ux uy vx vy bx b_y : Int) (wd jn cp ml ph : Int) (A : Option Addr) (n c : Nat) (D : List Int) (w : World) (l0 : -9223372036854775808 ≤ ux) (u0 : ux ≤ 9223372036854775807) (l1 : -9223372036854775808 ≤ uy) (u1 : uy ≤ 9223372036854775807) (l2 : -9223372036854775808 ≤ vx) (u2 : vx ≤ 9223372036854775807) (l3 : -9223372036854775808 ≤ vy) (u3 : vy ≤ 9223372036854775807) (l4 : -9223372036854775808 ≤ bx) (u4 : bx ≤ 9223372036854775807) (l5 : -9223372036854775808 ≤ b_y) (u5 : b_y ≤ 9223372036854775807) (h : Ins w A n c D) (hB : i64b wd ∧ i64b jn ∧ i64b cp ∧ i64b ml ∧ i64b ph) :
    Calls Try.prog 6 #[.agg #[.int .i64 ux, .int .i64 uy, .int .i64 vx, .int .i64 vy, .int .i64 bx, .int .i64 b_y], .agg #[.int .i64 wd, .int .i64 jn, .int .i64 cp, .int .i64 ml, .slice A n c, .int .i64 ph]] w fun e w' => e = .returned (.bool true) ∧ Below w.heap.size w w' := by
  have HS := Lib.hid (show ∀ w', Keeps ((w.alloc (.cells #[.int .i64 ux, .int .i64 uy, .int .i64 vx, .int .i64 vy, .int .i64 bx, .int .i64 b_y] 24)).alloc (.cells #[.int .i64 wd, .int .i64 jn, .int .i64 cp, .int .i64 ml, .slice A n c, .int .i64 ph] 35)) w' → w'.cell? ⟨w.heap.size, 0, none⟩ = some (.int .i64 ux) ∧ w'.frozen? ⟨w.heap.size, 0, none⟩ = false ∧ w'.cell? ⟨w.heap.size, 1, none⟩ = some (.int .i64 uy) ∧ w'.frozen? ⟨w.heap.size, 1, none⟩ = false ∧ w'.cell? ⟨w.heap.size, 2, none⟩ = some (.int .i64 vx) ∧ w'.frozen? ⟨w.heap.size, 2, none⟩ = false ∧ w'.cell? ⟨w.heap.size, 3, none⟩ = some (.int .i64 vy) ∧ w'.frozen? ⟨w.heap.size, 3, none⟩ = false ∧ w'.cell? ⟨w.heap.size, 4, none⟩ = some (.int .i64 bx) ∧ w'.frozen? ⟨w.heap.size, 4, none⟩ = false ∧ w'.cell? ⟨w.heap.size, 5, none⟩ = some (.int .i64 b_y) ∧ w'.frozen? ⟨w.heap.size, 5, none⟩ = false ∧ w'.cell? ⟨w.heap.size + 1, 0, none⟩ = some (.int .i64 wd) ∧ w'.frozen? ⟨w.heap.size + 1, 0, none⟩ = false ∧ w'.cell? ⟨w.heap.size + 1, 1, none⟩ = some (.int .i64 jn) ∧ w'.frozen? ⟨w.heap.size + 1, 1, none⟩ = false ∧ w'.cell? ⟨w.heap.size + 1, 2, none⟩ = some (.int .i64 cp) ∧ w'.frozen? ⟨w.heap.size + 1, 2, none⟩ = false ∧ w'.cell? ⟨w.heap.size + 1, 3, none⟩ = some (.int .i64 ml) ∧ w'.frozen? ⟨w.heap.size + 1, 3, none⟩ = false ∧ w'.cell? ⟨w.heap.size + 1, 4, none⟩ = some (.slice A n c) ∧ w'.frozen? ⟨w.heap.size + 1, 4, none⟩ = false ∧ w'.cell? ⟨w.heap.size + 1, 5, none⟩ = some (.int .i64 ph) ∧ w'.frozen? ⟨w.heap.size + 1, 5, none⟩ = false from fun w' hk => ⟨(hk.cell (p := ⟨w.heap.size, 0, none⟩) (by first | (simp; done) | (simp; omega))).trans (by simp [go_sem]), (hk.frozen (p := ⟨w.heap.size, 0, none⟩) (by first | (simp; done) | (simp; omega))).trans (by simp [go_sem]), (hk.cell (p := ⟨w.heap.size, 1, none⟩) (by first | (simp; done) | (simp; omega))).trans (by simp [go_sem]), (hk.frozen (p := ⟨w.heap.size, 1, none⟩) (by first | (simp; done) | (simp; omega))).trans (by simp [go_sem]), (hk.cell (p := ⟨w.heap.size, 2, none⟩) (by first | (simp; done) | (simp; omega))).trans (by simp [go_sem]), (hk.frozen (p := ⟨w.heap.size, 2, none⟩) (by first | (simp; done) | (simp; omega))).trans (by simp [go_sem]), (hk.cell (p := ⟨w.heap.size, 3, none⟩) (by first | (simp; done) | (simp; omega))).trans (by simp [go_sem]), (hk.frozen (p := ⟨w.heap.size, 3, none⟩) (by first | (simp; done) | (simp; omega))).trans (by simp [go_sem]), (hk.cell (p := ⟨w.heap.size, 4, none⟩) (by first | (simp; done) | (simp; omega))).trans (by simp [go_sem]), (hk.frozen (p := ⟨w.heap.size, 4, none⟩) (by first | (simp; done) | (simp; omega))).trans (by simp [go_sem]), (hk.cell (p := ⟨w.heap.size, 5, none⟩) (by first | (simp; done) | (simp; omega))).trans (by simp [go_sem]), (hk.frozen (p := ⟨w.heap.size, 5, none⟩) (by first | (simp; done) | (simp; omega))).trans (by simp [go_sem]), (hk.cell (p := ⟨w.heap.size + 1, 0, none⟩) (by first | (simp; done) | (simp; omega))).trans (by simp [go_sem]), (hk.frozen (p := ⟨w.heap.size + 1, 0, none⟩) (by first | (simp; done) | (simp; omega))).trans (by simp [go_sem]), (hk.cell (p := ⟨w.heap.size + 1, 1, none⟩) (by first | (simp; done) | (simp; omega))).trans (by simp [go_sem]), (hk.frozen (p := ⟨w.heap.size + 1, 1, none⟩) (by first | (simp; done) | (simp; omega))).trans (by simp [go_sem]), (hk.cell (p := ⟨w.heap.size + 1, 2, none⟩) (by first | (simp; done) | (simp; omega))).trans (by simp [go_sem]), (hk.frozen (p := ⟨w.heap.size + 1, 2, none⟩) (by first | (simp; done) | (simp; omega))).trans (by simp [go_sem]), (hk.cell (p := ⟨w.heap.size + 1, 3, none⟩) (by first | (simp; done) | (simp; omega))).trans (by simp [go_sem]), (hk.frozen (p := ⟨w.heap.size + 1, 3, none⟩) (by first | (simp; done) | (simp; omega))).trans (by simp [go_sem]), (hk.cell (p := ⟨w.heap.size + 1, 4, none⟩) (by first | (simp; done) | (simp; omega))).trans (by simp [go_sem]), (hk.frozen (p := ⟨w.heap.size + 1, 4, none⟩) (by first | (simp; done) | (simp; omega))).trans (by simp [go_sem]), (hk.cell (p := ⟨w.heap.size + 1, 5, none⟩) (by first | (simp; done) | (simp; omega))).trans (by simp [go_sem]), (hk.frozen (p := ⟨w.heap.size + 1, 5, none⟩) (by first | (simp; done) | (simp; omega))).trans (by simp [go_sem])⟩)
  have HB := Lib.hid (show Keeps w ((w.alloc (.cells #[.int .i64 ux, .int .i64 uy, .int .i64 vx, .int .i64 vy, .int .i64 bx, .int .i64 b_y] 24)).alloc (.cells #[.int .i64 wd, .int .i64 jn, .int .i64 cp, .int .i64 ml, .slice A n c, .int .i64 ph] 35)) from (by (repeat (first | (with_reducible exact Keeps.refl _) | (with_reducible assumption) | (with_reducible refine Keeps.drewN ?_ _) | (with_reducible refine Keeps.drew ?_) | (with_reducible refine Keeps.alloc ?_ _) | (with_reducible refine Keeps.setNew ?_ ?_ _))) <;> (dsimp only; omega)))
  have hk0 := Keeps.refl ((w.alloc (.cells #[.int .i64 ux, .int .i64 uy, .int .i64 vx, .int .i64 vy, .int .i64 bx, .int .i64 b_y] 24)).alloc (.cells #[.int .i64 wd, .int .i64 jn, .int .i64 cp, .int .i64 ml, .slice A n c, .int .i64 ph] 35))
  have K9 := Lib.hid (fun w => example23_any w)
  have hmx := h.max
  have K1 := Lib.hid (fun w' (hk : Keeps ((w.alloc (.cells #[.int .i64 ux, .int .i64 uy, .int .i64 vx, .int .i64 vy, .int .i64 bx, .int .i64 b_y] 24)).alloc (.cells #[.int .i64 wd, .int .i64 jn, .int .i64 cp, .int .i64 ml, .slice A n c, .int .i64 ph] 35)) w') => ljoinF_any (ux, uy) (vx, vy) (bx, b_y) wd jn cp ml ph A n c D w' (h.keep (HB.out.trans hk)))
  have K2 := Lib.hid (fun w' (hk : Keeps ((w.alloc (.cells #[.int .i64 ux, .int .i64 uy, .int .i64 vx, .int .i64 vy, .int .i64 bx, .int .i64 b_y] 24)).alloc (.cells #[.int .i64 wd, .int .i64 jn, .int .i64 cp, .int .i64 ml, .slice A n c, .int .i64 ph] 35)) w') => ljoin_any (bx, b_y) (vx, vy) (ux, uy) wd jn cp ml ph A n c D w' (h.keep (HB.out.trans hk)))
  rw [joinL_rev] at K2
  have KV := Lib.hid (fun w' (hk : Keeps ((w.alloc (.cells #[.int .i64 ux, .int .i64 uy, .int .i64 vx, .int .i64 vy, .int .i64 bx, .int .i64 b_y] 24)).alloc (.cells #[.int .i64 wd, .int .i64 jn, .int .i64 cp, .int .i64 ml, .slice A n c, .int .i64 ph] 35)) w') => rstyle_any wd jn cp ml ph A n c D w' (h.keep (HB.out.trans hk)))
  have K3 := Lib.hid (fun A2 w' (h2 : Ins w' A2 2 2 [1, 2]) => ljoin_any (ux, uy) (vx, vy) (bx, b_y) wd jn 5 ml 7 A2 2 2 [1, 2] w' h2)
  have hpen := fun (h : stB wd jn cp ml ph D = true) => joinL_pen (ux, uy) (vx, vy) (bx, b_y) wd jn cp ml ph 5 7 D [1, 2] (h.trans (st_other h).symm)
  have hbad := joinL_bad (ux, uy) (vx, vy) (bx, b_y) wd jn cp ml ph D
  unfold RetF at K1
  unfold RetJ at K2 K3
  have hW0 : (((w.alloc (.cells #[.int .i64 ux, .int .i64 uy, .int .i64 vx, .int .i64 vy, .int .i64 bx, .int .i64 b_y] 24)).alloc (.cells #[.int .i64 wd, .int .i64 jn, .int .i64 cp, .int .i64 ml, .slice A n c, .int .i64 ph] 35))).heap.size = w.heap.size + 2 := by simp
  have hW0 := Lib.hid hW0
  have hk := hk0
  clear h hB l0 u0 l1 u1 l2 u2 l3 u3 l4 u4 l5 u5
  by_cases h40 : n ≤ 40
  · have t1 : decide (40 < (n : Int)) = false := decide_eq_false (by omega)
    have t2 : ¬ (40 < (n : Int)) := by omega
    have t3 : decide (40 < n) = false := decide_eq_false (by omega)
    cases hst : stB wd jn cp ml ph D with
    | false =>
      rw [hst] at KV
      rw [hbad hst] at K1 K2
      obtain ⟨LL, hLL⟩ : ∃ LL : List (List Pt), LL = [] := ⟨_, rfl⟩
      have hLl : LL.length = 0 := by rw [hLL]; rfl
      rw [← hLL] at K1 K2
      clear hbad hpen hst K3 hLL
      rw [hLl] at K1 K2
      have hLl := Lib.hid hLl
      go_enter Try.func6, Try.ntmps6
      go_wp2_with (first | (go_at_call 19; (with_reducible refine (K1.out _ hk).mono ?_); rintro e w1 ⟨A1, c1, rfl, hR1, hk1⟩; have hR1 := Lib.hid (RwsB.base hR1 hk.size); replace hk := hk.trans hk1; clear hk1; obtain ⟨y0, y1, y2, y3, y4, y5, y6, y7, y8, y9, y10, y11, y12, y13, y14, y15, y16, y17, y18, y19, y20, y21, y22, y23⟩ := HS.out _ hk) | (go_at_call 19; (with_reducible refine (K2.out _ hk).mono ?_); rintro e w2 ⟨A2, c2, rfl, hR2, hk2⟩; have hR1 := Lib.hid (hR1.out.keep hk2); have KS := Lib.hid (same23_any A2 A1 _ c2 c1 LL w2 hR2 hR1.out.rws); replace hk := hk.trans hk2; clear hk2 hR2) | (go_at_call 18; (with_reducible refine KS.out.mono ?_); rintro e w3 ⟨rfl, hk3⟩; have hR1 := Lib.hid (hR1.out.keep hk3); replace hk := hk.trans hk3; clear hk3 KS; obtain ⟨y0, y1, y2, y3, y4, y5, y6, y7, y8, y9, y10, y11, y12, y13, y14, y15, y16, y17, y18, y19, y20, y21, y22, y23⟩ := HS.out _ hk) | (go_at_call 21; (with_reducible refine (keepk (KV.out _ hk) (Keeps.refl _)).mono ?_); rintro e wv ⟨rfl, hkv⟩; have hR1 := Lib.hid (hR1.out.keep hkv); replace hk := hk.trans hkv; clear hkv; have hs1 : w.heap.size + 1 < wv.heap.size := (by have h := hk.size; rw [hW0.out] at h; omega); obtain ⟨y0, y1, y2, y3, y4, y5, y6, y7, y8, y9, y10, y11, y12, y13, y14, y15, y16, y17, y18, y19, y20, y21, y22, y23⟩ := HS.out _ hk) | (go_at_call 15; (with_reducible refine (keepk (K9.out _) hk).mono ?_); rintro e w9 ⟨rfl, hk⟩) | fail "ARM")
      go_ret
      exact ⟨rfl, HB.out.trans hk⟩
    | true =>
      rw [hst] at KV
      rw [← hpen hst] at K3
      clear hbad hpen hst
      generalize joinL (ux, uy) (vx, vy) (bx, b_y) wd jn cp ml ph D = LL at *
      go_enter Try.func6, Try.ntmps6
      go_upto_region 11 with (first | (go_at_call 19; (with_reducible refine (K1.out _ hk).mono ?_); rintro e w1 ⟨A1, c1, rfl, hR1, hk1⟩; have hR1 := Lib.hid (RwsB.base hR1 hk.size); replace hk := hk.trans hk1; clear hk1; obtain ⟨y0, y1, y2, y3, y4, y5, y6, y7, y8, y9, y10, y11, y12, y13, y14, y15, y16, y17, y18, y19, y20, y21, y22, y23⟩ := HS.out _ hk) | (go_at_call 19; (with_reducible refine (K2.out _ hk).mono ?_); rintro e w2 ⟨A2, c2, rfl, hR2, hk2⟩; have hR1 := Lib.hid (hR1.out.keep hk2); have KS := Lib.hid (same23_any A2 A1 _ c2 c1 LL w2 hR2 hR1.out.rws); replace hk := hk.trans hk2; clear hk2 hR2) | (go_at_call 18; (with_reducible refine KS.out.mono ?_); rintro e w3 ⟨rfl, hk3⟩; have hR1 := Lib.hid (hR1.out.keep hk3); replace hk := hk.trans hk3; clear hk3 KS; obtain ⟨y0, y1, y2, y3, y4, y5, y6, y7, y8, y9, y10, y11, y12, y13, y14, y15, y16, y17, y18, y19, y20, y21, y22, y23⟩ := HS.out _ hk) | (go_at_call 21; (with_reducible refine (keepk (KV.out _ hk) (Keeps.refl _)).mono ?_); rintro e wv ⟨rfl, hkv⟩; have hR1 := Lib.hid (hR1.out.keep hkv); replace hk := hk.trans hkv; clear hkv; have hs1 : w.heap.size + 1 < wv.heap.size := (by have h := hk.size; rw [hW0.out] at h; omega); obtain ⟨y0, y1, y2, y3, y4, y5, y6, y7, y8, y9, y10, y11, y12, y13, y14, y15, y16, y17, y18, y19, y20, y21, y22, y23⟩ := HS.out _ hk) | (go_at_call 15; (with_reducible refine (keepk (K9.out _) hk).mono ?_); rintro e w9 ⟨rfl, hk⟩) | fail "ARM")
      refine name_world (fun WM hWM => ?_)
      have hsv := hk.size
      have hs0 : w.heap.size < wv.heap.size := by omega
      have hwv : Keeps w wv := HB.out.trans hk
      have hkM : Keeps w WM := by rw [hWM]; exact (by (repeat (first | (with_reducible exact Keeps.refl _) | (with_reducible assumption) | (with_reducible refine Keeps.drewN ?_ _) | (with_reducible refine Keeps.drew ?_) | (with_reducible refine Keeps.alloc ?_ _) | (with_reducible refine Keeps.setNew ?_ ?_ _))) <;> ((try dsimp only); omega))
      have hsM : wv.heap.size < WM.heap.size := by rw [hWM]; simp
      have hold : ∀ p : Addr, w.heap.size + 2 ≤ p.block → p.block < wv.heap.size → WM.cell? p = wv.cell? p := by
        intro p h1 h2
        rw [hWM]
        repeat (first | rw [World.cell?_alloc_lt _ _ _ (by simp; omega)] | rw [World.cell?_setCell_other _ _ _ _ (by intro e; rw [← e] at h1; dsimp only at h1; omega)])
      have hI : Ins WM (some ⟨wv.heap.size, 0, none⟩) 2 2 [1, 2] := by
        refine ⟨rfl, Nat.le_refl _, by unfold maxLen; omega, ?_, fun _ => ⟨_, _, rfl, hsM, fun k hk => ?_⟩⟩
        · intro d hd; unfold i64b; simp at hd; omega
        · rcases (show k = 0 ∨ k = 1 by omega) with rfl | rfl <;> (rw [hWM]; go_simp)
      have hC : WM.cell? ⟨w.heap.size, 0, none⟩ = some (.int .i64 ux) ∧ WM.cell? ⟨w.heap.size, 1, none⟩ = some (.int .i64 uy) ∧ WM.cell? ⟨w.heap.size, 2, none⟩ = some (.int .i64 vx) ∧ WM.cell? ⟨w.heap.size, 3, none⟩ = some (.int .i64 vy) ∧ WM.cell? ⟨w.heap.size, 4, none⟩ = some (.int .i64 bx) ∧ WM.cell? ⟨w.heap.size, 5, none⟩ = some (.int .i64 b_y) ∧ WM.cell? ⟨w.heap.size + 1, 0, none⟩ = some (.int .i64 wd) ∧ WM.cell? ⟨w.heap.size + 1, 1, none⟩ = some (.int .i64 jn) ∧ WM.cell? ⟨w.heap.size + 1, 2, none⟩ = some (.int .i64 5) ∧ WM.cell? ⟨w.heap.size + 1, 3, none⟩ = some (.int .i64 ml) ∧ WM.cell? ⟨w.heap.size + 1, 4, none⟩ = some (.slice (some ⟨wv.heap.size, 0, none⟩) 2 2) ∧ WM.cell? ⟨w.heap.size + 1, 5, none⟩ = some (.int .i64 7) := by
        rw [hWM]
        refine ⟨?_, ?_, ?_, ?_, ?_, ?_, ?_, ?_, ?_, ?_, ?_, ?_⟩ <;> go_simp
      clear hWM
      obtain ⟨x0, x1, x2, x3, x4, x5, p0, p1, p2, p3, p4, p5⟩ := hC
      have hRb := hR1.out
      rw [hW0.out] at hRb
      have hRM := Lib.hid (hRb.step (Nat.le_of_lt hsM) hold)
      have KN := Lib.hid (K3.out _ WM hI)
      clear hRb hR1 hold hI K1 K2 K3 KV HS hk hwv hsv y0 y1 y2 y3 y4 y5 y6 y7 y8 y9 y10 y11 y12 y13 y14 y15 y16 y17 y18 y19 y20 y21 y22 y23
      go_wp2_with (first | (go_at_call 19; (with_reducible refine (KN.out).mono ?_); rintro e w5 ⟨A5, c5, rfl, hR5, hk5⟩; have KS := Lib.hid (same23_any A5 A1 _ c5 c1 LL w5 hR5 (hRM.out.rws.keep hk5)); replace hkM := hkM.trans hk5; clear hR5 hk5) | (go_at_call 18; (with_reducible refine KS.out.mono ?_); rintro e w6 ⟨rfl, hk6⟩; replace hkM := hkM.trans hk6) | (go_at_call 15; (with_reducible refine (K9.out _).mono ?_); rintro e w9 ⟨rfl, hk9⟩; replace hkM := hkM.trans hk9) | fail "ARM")
      go_ret
      exact ⟨rfl, hkM⟩
  · have t1 : decide (40 < (n : Int)) = true := decide_eq_true (by omega)
    have t2 : (40 < (n : Int)) := by omega
    have t3 : decide (40 < n) = true := decide_eq_true (by omega)
    clear hpen hbad
    go_enter Try.func6, Try.ntmps6
    go_wp2_with (first | (go_at_call 15; (with_reducible refine (keepk (K9.out _) hk).mono ?_); rintro e w9 ⟨rfl, hk⟩) | fail "ARM")
    go_ret
    exact ⟨rfl, HB.out.trans hk⟩

set_option maxRecDepth 100000 in
theorem lifted (os : Os) (started : os.Started) (H : Type) (enc : TypeId × Value → H) :
    ReturnsInHanded {} Try.checked os 6 .any (Rows.linejoinReversalSpec.pre6 enc Try.prog Try.f6 Rows.linejoinReversalRow.domain false) (Rows.linejoinReversalSpec.post enc Try.prog Try.f6 false true false false) := by
  refine returnsInHanded_of_change (C := Try.checked) Try.own started (by kernel_rfl) Try.func6
    (ChangeSpec.witness6 (enc := enc) (C := Try.checked) false ⟨#[], #[.agg #[.int .i64 0, .int .i64 0, .int .i64 0, .int .i64 0, .int .i64 0, .int .i64 0], .agg #[.int .i64 0, .int .i64 0, .int .i64 0, .int .i64 0, .slice none 0 0, .int .i64 0]], []⟩ 8 (by kernel_rfl) (by kernel_rfl) (by kernel_rfl) (by kernel_rfl)) ?_
  intro W base args ds gs before hval0 hW hcnd _
  have hval : ∀ (j : Nat) t v, Try.f6.params[j]? = some t → args[j]? = some v → Value.okWide Try.prog W .any base t v := hval0
  have hW' := hW
  obtain ⟨p, q, hA0, hV, rfl, hfz, hnd⟩ := hW
  have hA : DataW.TrodAll enc Try.prog W 0 (fun _ => true) true Try.f6.params.toList args.toList ds p := hA0
  have hAll := hA
  rw [Try.params6] at hA hval
  obtain ⟨v0, vs0, d0, ds0, p0, q0, hargs, rfl, rfl, h0, r0⟩ := trodAll_cons hA
  obtain ⟨v1, vs1, d1, ds1, p1, q1, rfl, rfl, rfl, h1, r1⟩ := trodAll_cons r0
  obtain ⟨rfl, rfl, rfl⟩ := trodAll_nil r1
  obtain rfl : args = #[v0, v1] := by cases args; simp_all
  obtain ⟨rfl, rfl⟩ := trodVars_none hV
  obtain ⟨c0, rfl, L0_0⟩ := open_flat (ks := [some .i64, some .i64, some .i64, some .i64, some .i64, some .i64]) (by kernel_rfl) (by kernel_rfl) (hval 0 24 v0 rfl rfl) h0
  obtain ⟨_, c0_0, rfl, ⟨a0_0, rfl, w0_0⟩, L0_1⟩ := leafs_cons L0_0
  obtain ⟨l0_0, u0_0⟩ := bounds_i64 w0_0
  obtain ⟨_, c0_1, rfl, ⟨a0_1, rfl, w0_1⟩, L0_2⟩ := leafs_cons L0_1
  obtain ⟨l0_1, u0_1⟩ := bounds_i64 w0_1
  obtain ⟨_, c0_2, rfl, ⟨a0_2, rfl, w0_2⟩, L0_3⟩ := leafs_cons L0_2
  obtain ⟨l0_2, u0_2⟩ := bounds_i64 w0_2
  obtain ⟨_, c0_3, rfl, ⟨a0_3, rfl, w0_3⟩, L0_4⟩ := leafs_cons L0_3
  obtain ⟨l0_3, u0_3⟩ := bounds_i64 w0_3
  obtain ⟨_, c0_4, rfl, ⟨a0_4, rfl, w0_4⟩, L0_5⟩ := leafs_cons L0_4
  obtain ⟨l0_4, u0_4⟩ := bounds_i64 w0_4
  obtain ⟨_, c0_5, rfl, ⟨a0_5, rfl, w0_5⟩, L0_6⟩ := leafs_cons L0_5
  obtain ⟨l0_5, u0_5⟩ := bounds_i64 w0_5
  obtain rfl := leafs_nil L0_6
  obtain ⟨wd1, jn1, cp1, ml1, ph1, A1, n1, c1, D1, rfl, I1, B1⟩ := open_style (hval 1 35 v1 rfl rfl) h1
  clear hA0 hval0
  refine (walk a0_0 a0_1 a0_2 a0_3 a0_4 a0_5 wd1 jn1 cp1 ml1 ph1 A1 n1 c1 D1 W l0_0 u0_0 l0_1 u0_1 l0_2 u0_2 l0_3 u0_3 l0_4 u0_4 l0_5 u0_5 I1 B1).mono fun e W' ⟨he, bel⟩ => ?_
  subst he
  exact ⟨_, rfl, _, _, _, [], _, [], hW', trodAll_mk1 (shut_bool Try.underlying4 _), below_trodAll Try.laidOut bel (reads_of (by kernel_rfl)) hAll, rfl, bel.frame _, fun h => by cases h⟩

theorem over : Rows.linejoinReversalRow.holds Try.pinned (OpenSpec.ofChange Rows.linejoinReversalSpec) :=
  OpenClaim.holds_of_wide 6 Try.f6 rfl rfl rfl rfl rfl rfl rfl ⟨rfl, rfl, rfl, rfl, rfl⟩ rfl rfl rfl rfl rfl (by kernel_rfl) Try.func6 (by kernel_rfl)
    (of_decide_eq_true (by kernel_rfl)) (by unfold Func.isWrapper; first | (rw [if_pos (by decide +kernel)]; kernel_rfl) | (rw [if_neg (by decide +kernel)]; exact ⟨rfl, rfl⟩))
    (fun os started H enc _ => lifted os started H enc)

/-- The statement. -/
theorem proved : Rows.LinejoinReversalSaid := over
#print axioms proved
end Go.Proofs.Ytdodgnpjlicnoaa.linejoinReversal
