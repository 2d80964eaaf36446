/- The example of chapter 25. -/
import Derived.Test.YtihmhpleiefodaaDo
namespace Go.Proofs.Ytihmhpleiefodaa
open Go.RowKit Go.Shelf
attribute [local go_sem ↓] Go.wp_at_zero Go.wp_at_succ
set_option linter.unusedVariables false
set_option linter.unusedSimpArgs false
theorem ex_ap : apV false [(0, 0), (4, 0)] 1 1 4 256 0 [1, 1] = ([(false, [(0, 0), (1, 0)]), (false, [(2, 0), (3, 0)])], 0) := by decide +kernel
theorem ex_len : lenP false [(0, 0), (4, 0)] = 1024 := by decide +kernel
theorem ex_on : isOnB 1 1 4 256 0 [1, 1] 255 = true := by decide +kernel
theorem ex_off : isOnB 1 1 4 256 0 [1, 1] 256 = false := by decide +kernel
theorem ins_lit (w w' : World) (H : Nat) (hH : w.heap.size = H) (hk : Keeps (w.alloc (.cells #[.int .i64 1, .int .i64 1] 3)) w') : Ins w' (some ⟨H, 0, none⟩) 2 2 [1, 1] := by
  subst hH
  have h := World.ownsRow_lit (base := w.heap.size) (e := 3) (size := 1) w #[.int .i64 1, .int .i64 1] 2 (Nat.le_refl _) (by unfold maxLen; omega) (by simp)
  obtain ⟨A, c, e, hI⟩ := Ins.of_own (L := [1, 1]) h rfl (fun d hd => by simp at hd; subst hd; exact ⟨by decide, by decide⟩)
  cases e
  exact hI.keep hk
theorem pts_lit (w w' : World) (a b : Pt) (ha : okP a) (hb : okP b) (H : Nat) (hH : w.heap.size = H) (hk : Keeps (w.alloc (.cells #[.int .i64 a.1, .int .i64 a.2, .int .i64 b.1, .int .i64 b.2] 50)) w') : Pts w' (some ⟨H, 0, none⟩) 2 2 [a, b] := by
  subst hH
  have h := World.ownsRow_lit (base := w.heap.size) (e := 50) (size := 2) w #[.int .i64 a.1, .int .i64 a.2, .int .i64 b.1, .int .i64 b.2] 2 (Nat.le_refl _) (by unfold maxLen; omega) (by simp)
  obtain ⟨A, c, e, hI⟩ := Pts.of_own (L := [a, b]) h rfl (fun d hd => by
    rcases List.mem_cons.1 hd with rfl | hd
    · exact ha
    · rw [List.mem_singleton.1 hd]; exact hb)
  cases e
  exact hI.keep hk
set_option maxHeartbeats 1000000 in
theorem pen_any (A : Option Addr) (n c : Nat) (w : World) :
    Calls Try.prog 26 #[.slice A n c] w fun e w' => e = .returned (.agg #[.int .i64 1, .int .i64 1, .int .i64 4, .int .i64 256, .slice A n c, .int .i64 0]) ∧ Keeps w w' := by
  go_enter Try.func26, Try.ntmps26
  go_wp2_with fail
  refine bodyPost_ret (v := .agg #[.int .i64 1, .int .i64 1, .int .i64 4, .int .i64 256, .slice A n c, .int .i64 0]) (by simp [results, Try.results26, go_sem, *]) rfl ⟨rfl, ?_⟩
  exact (by (repeat (first | (with_reducible exact Keeps.refl _) | (with_reducible assumption) | (with_reducible refine Keeps.drewN ?_ _) | (with_reducible refine Keeps.drew ?_) | (with_reducible refine Keeps.alloc ?_ _) | (with_reducible refine Keeps.setNew ?_ ?_ _))) <;> (dsimp only; omega))
set_option maxRecDepth 100000 in
set_option maxHeartbeats 2000000 in
theorem example25_any (w : World) : Calls Try.prog 11 #[] w fun e w' => e = .returned (.bool true) ∧ Keeps w w' := by
  go_enter Try.func11, Try.ntmps11
  go_upto_region 2 with (first | (go_at_call 26; refine (pen_any _ _ _ _).mono ?_; rintro e w1 ⟨rfl, hk1⟩) | (go_at_call 19; refine (apply_any false _ 2 2 [(0, 0), (4, 0)] 1 1 4 256 0 _ 2 2 [1, 1] _ (pts_lit w _ (0, 0) (4, 0) ⟨⟨by decide, by decide⟩, ⟨by decide, by decide⟩⟩ ⟨⟨by decide, by decide⟩, ⟨by decide, by decide⟩⟩ _ rfl (((Keeps.refl _).alloc _).trans hk1)) (ins_lit _ _ _ (by simp) hk1) (by omega)).mono ?_; rw [ex_ap]; rintro e w2 ⟨A9, c9, rfl, hPl, hk2⟩; dsimp only [List.length_cons, List.length_nil] at *))
  go_upto_region 3 with fail
  have hkA := (((Keeps.refl w2).alloc (.cells #[.int .i64 0, .int .i64 0, .int .i64 1, .int .i64 0] 50)).alloc (.cells #[.int .i64 2, .int .i64 0, .int .i64 3, .int .i64 0] 50)).alloc (.cells #[.slice (some ⟨w2.heap.size, 0, none⟩) 2 2, .bool false, .slice (some ⟨w2.heap.size + 1, 0, none⟩) 2 2, .bool false] 24)
  have hPl2 : Pls (((w2.alloc (.cells #[.int .i64 0, .int .i64 0, .int .i64 1, .int .i64 0] 50)).alloc (.cells #[.int .i64 2, .int .i64 0, .int .i64 3, .int .i64 0] 50)).alloc (.cells #[.slice (some ⟨w2.heap.size, 0, none⟩) 2 2, .bool false, .slice (some ⟨w2.heap.size + 1, 0, none⟩) 2 2, .bool false] 24)) (some ⟨w2.heap.size + 1 + 1, 0, none⟩) 2 2 [(false, [(0, 0), (1, 0)]), (false, [(2, 0), (3, 0)])] := by
    have h1 := pts_lit w2 (((w2.alloc (.cells #[.int .i64 0, .int .i64 0, .int .i64 1, .int .i64 0] 50)).alloc (.cells #[.int .i64 2, .int .i64 0, .int .i64 3, .int .i64 0] 50)).alloc (.cells #[.slice (some ⟨w2.heap.size, 0, none⟩) 2 2, .bool false, .slice (some ⟨w2.heap.size + 1, 0, none⟩) 2 2, .bool false] 24)) (0, 0) (1, 0) ⟨⟨by decide, by decide⟩, ⟨by decide, by decide⟩⟩ ⟨⟨by decide, by decide⟩, ⟨by decide, by decide⟩⟩ _ rfl (((Keeps.refl _).alloc _).alloc _)
    have h2 := pts_lit (w2.alloc (.cells #[.int .i64 0, .int .i64 0, .int .i64 1, .int .i64 0] 50)) (((w2.alloc (.cells #[.int .i64 0, .int .i64 0, .int .i64 1, .int .i64 0] 50)).alloc (.cells #[.int .i64 2, .int .i64 0, .int .i64 3, .int .i64 0] 50)).alloc (.cells #[.slice (some ⟨w2.heap.size, 0, none⟩) 2 2, .bool false, .slice (some ⟨w2.heap.size + 1, 0, none⟩) 2 2, .bool false] 24)) (2, 0) (3, 0) ⟨⟨by decide, by decide⟩, ⟨by decide, by decide⟩⟩ ⟨⟨by decide, by decide⟩, ⟨by decide, by decide⟩⟩ (w2.heap.size + 1) (by simp) ((Keeps.refl _).alloc _)
    refine ⟨rfl, by omega, by unfold maxLen; omega, fun _ => ⟨w2.heap.size + 1 + 1, 0, rfl, by simp, fun k hk => ?_⟩⟩
    match k, hk with
    | 0, _ => exact ⟨_, _, _, by simp [go_sem], by simp [go_sem], h1⟩
    | 1, _ => exact ⟨_, _, _, by simp [go_sem], by simp [go_sem], h2⟩
  have hPl3 := hPl.keep hkA
  have hkW : Keeps w (((w2.alloc (.cells #[.int .i64 0, .int .i64 0, .int .i64 1, .int .i64 0] 50)).alloc (.cells #[.int .i64 2, .int .i64 0, .int .i64 3, .int .i64 0] 50)).alloc (.cells #[.slice (some ⟨w2.heap.size, 0, none⟩) 2 2, .bool false, .slice (some ⟨w2.heap.size + 1, 0, none⟩) 2 2, .bool false] 24)) := ((((((Keeps.refl w).alloc _).alloc _).trans hk1).trans hk2).alloc _).alloc _ |>.alloc _
  clear hPl hkA hk1 hk2
  generalize (((w2.alloc (.cells #[.int .i64 0, .int .i64 0, .int .i64 1, .int .i64 0] 50)).alloc (.cells #[.int .i64 2, .int .i64 0, .int .i64 3, .int .i64 0] 50)).alloc (.cells #[.slice (some ⟨w2.heap.size, 0, none⟩) 2 2, .bool false, .slice (some ⟨w2.heap.size + 1, 0, none⟩) 2 2, .bool false] 24)) = W3 at *
  generalize w2.heap.size = B2 at *
  replace hPl2 := Lib.hid hPl2
  replace hPl3 := Lib.hid hPl3
  have KS := Lib.hid (same25_any _ _ 2 _ _ [(false, [(0, 0), (1, 0)]), (false, [(2, 0), (3, 0)])] _ hPl3.out hPl2.out)
  have KL := Lib.hid (fun w' A (h : Pts w' A 2 2 [(0, 0), (4, 0)]) => dlen_any false A 2 2 [(0, 0), (4, 0)] w' h (by omega))
  rw [ex_len] at KL
  have K1 := Lib.hid (fun w' A (h : Ins w' A 2 2 [1, 1]) => ison_any 1 1 4 256 0 A 2 2 [1, 1] 255 w' h (by omega))
  rw [ex_on] at K1
  have K2 := Lib.hid (fun w' A (h : Ins w' A 2 2 [1, 1]) => ison_any 1 1 4 256 0 A 2 2 [1, 1] 256 w' h (by omega))
  rw [ex_off] at K2
  have KP := Lib.hid pen_any
  go_wp2_with (first | (go_at_call 21; (with_reducible refine KS.out.mono ?_); clear KS; rintro e w4 ⟨rfl, hk4⟩; have hp4 := Lib.hid (pts_lit w4 _ (0, 0) (4, 0) ⟨⟨by decide, by decide⟩, ⟨by decide, by decide⟩⟩ ⟨⟨by decide, by decide⟩, ⟨by decide, by decide⟩⟩ _ rfl (Keeps.refl _))) | (go_at_call 12; (with_reducible refine (KL.out _ _ hp4.out).mono ?_); clear KL hp4; rintro e w5 ⟨rfl, hk5⟩) | (go_at_call 26; (with_reducible refine (KP.out _ _ _ _).mono ?_); rintro e w6 ⟨rfl, hk6⟩; have hI6 := Lib.hid (ins_lit _ _ _ rfl hk6)) | (go_at_call 14; (with_reducible refine (K1.out _ _ hI6.out).mono ?_); clear K1 hI6; rintro e w7 ⟨rfl, hk7⟩; replace hk7 := hk6.trans hk7; clear hk6) | (go_at_call 14; (with_reducible refine (K2.out _ _ hI6.out).mono ?_); clear K2; rintro e w8 ⟨rfl, hk8⟩; replace hk8 := hk6.trans hk8))
  go_ret
  refine ⟨rfl, ?_⟩
  exact (((hkW.trans hk4).alloc _ |>.trans hk5).alloc _ |>.trans hk7).alloc _ |>.trans hk8
def fewB (n nd : Nat) : Bool := decide (n ≤ 60) && decide (nd ≤ 40)
set_option maxRecDepth 100000 in
set_option maxHeartbeats 1000000 in
theorem few_any (cl : Bool) (A : Option Addr) (n c : Nat) (wd jn cp ml ph : Int) (Ad : Option Addr) (nd cd : Nat) (w : World) :
    Calls Try.prog 10 #[.agg #[.slice A n c, .bool cl], .agg #[.int .i64 wd, .int .i64 jn, .int .i64 cp, .int .i64 ml, .slice Ad nd cd, .int .i64 ph]] w fun e w' => e = .returned (.bool (fewB n nd)) ∧ Keeps w w' := by
  have HS := Lib.hid (show ∀ w', Keeps ((w.alloc (.cells #[.slice A n c, .bool cl] 24)).alloc (.cells #[.int .i64 wd, .int .i64 jn, .int .i64 cp, .int .i64 ml, .slice Ad nd cd, .int .i64 ph] 27)) w' → w'.cell? ⟨w.heap.size, 0, none⟩ = some (.slice A n c) ∧ w'.frozen? ⟨w.heap.size, 0, none⟩ = false ∧ w'.cell? ⟨w.heap.size, 1, none⟩ = some (.bool cl) ∧ w'.frozen? ⟨w.heap.size, 1, none⟩ = false ∧ w'.cell? ⟨w.heap.size + 1, 0, none⟩ = some (.int .i64 wd) ∧ w'.frozen? ⟨w.heap.size + 1, 0, none⟩ = false ∧ w'.cell? ⟨w.heap.size + 1, 1, none⟩ = some (.int .i64 jn) ∧ w'.frozen? ⟨w.heap.size + 1, 1, none⟩ = false ∧ w'.cell? ⟨w.heap.size + 1, 2, none⟩ = some (.int .i64 cp) ∧ w'.frozen? ⟨w.heap.size + 1, 2, none⟩ = false ∧ w'.cell? ⟨w.heap.size + 1, 3, none⟩ = some (.int .i64 ml) ∧ w'.frozen? ⟨w.heap.size + 1, 3, none⟩ = false ∧ w'.cell? ⟨w.heap.size + 1, 4, none⟩ = some (.slice Ad nd cd) ∧ w'.frozen? ⟨w.heap.size + 1, 4, none⟩ = false ∧ w'.cell? ⟨w.heap.size + 1, 5, none⟩ = some (.int .i64 ph) ∧ w'.frozen? ⟨w.heap.size + 1, 5, none⟩ = false from fun w' hk => ⟨(hk.cell (p := ⟨w.heap.size, 0, none⟩) (by first | (simp; done) | (simp; omega))).trans (by simp [go_sem]), (hk.frozen (p := ⟨w.heap.size, 0, none⟩) (by first | (simp; done) | (simp; omega))).trans (by simp [go_sem]), (hk.cell (p := ⟨w.heap.size, 1, none⟩) (by first | (simp; done) | (simp; omega))).trans (by simp [go_sem]), (hk.frozen (p := ⟨w.heap.size, 1, none⟩) (by first | (simp; done) | (simp; omega))).trans (by simp [go_sem]), (hk.cell (p := ⟨w.heap.size + 1, 0, none⟩) (by first | (simp; done) | (simp; omega))).trans (by simp [go_sem]), (hk.frozen (p := ⟨w.heap.size + 1, 0, none⟩) (by first | (simp; done) | (simp; omega))).trans (by simp [go_sem]), (hk.cell (p := ⟨w.heap.size + 1, 1, none⟩) (by first | (simp; done) | (simp; omega))).trans (by simp [go_sem]), (hk.frozen (p := ⟨w.heap.size + 1, 1, none⟩) (by first | (simp; done) | (simp; omega))).trans (by simp [go_sem]), (hk.cell (p := ⟨w.heap.size + 1, 2, none⟩) (by first | (simp; done) | (simp; omega))).trans (by simp [go_sem]), (hk.frozen (p := ⟨w.heap.size + 1, 2, none⟩) (by first | (simp; done) | (simp; omega))).trans (by simp [go_sem]), (hk.cell (p := ⟨w.heap.size + 1, 3, none⟩) (by first | (simp; done) | (simp; omega))).trans (by simp [go_sem]), (hk.frozen (p := ⟨w.heap.size + 1, 3, none⟩) (by first | (simp; done) | (simp; omega))).trans (by simp [go_sem]), (hk.cell (p := ⟨w.heap.size + 1, 4, none⟩) (by first | (simp; done) | (simp; omega))).trans (by simp [go_sem]), (hk.frozen (p := ⟨w.heap.size + 1, 4, none⟩) (by first | (simp; done) | (simp; omega))).trans (by simp [go_sem]), (hk.cell (p := ⟨w.heap.size + 1, 5, none⟩) (by first | (simp; done) | (simp; omega))).trans (by simp [go_sem]), (hk.frozen (p := ⟨w.heap.size + 1, 5, none⟩) (by first | (simp; done) | (simp; omega))).trans (by simp [go_sem])⟩)
  have HB := Lib.hid (show Keeps w ((w.alloc (.cells #[.slice A n c, .bool cl] 24)).alloc (.cells #[.int .i64 wd, .int .i64 jn, .int .i64 cp, .int .i64 ml, .slice Ad nd cd, .int .i64 ph] 27)) from (by (repeat (first | (with_reducible exact Keeps.refl _) | (with_reducible assumption) | (with_reducible refine Keeps.drewN ?_ _) | (with_reducible refine Keeps.drew ?_) | (with_reducible refine Keeps.alloc ?_ _) | (with_reducible refine Keeps.setNew ?_ ?_ _))) <;> (dsimp only; omega)))
  have hk0 := Keeps.refl ((w.alloc (.cells #[.slice A n c, .bool cl] 24)).alloc (.cells #[.int .i64 wd, .int .i64 jn, .int .i64 cp, .int .i64 ml, .slice Ad nd cd, .int .i64 ph] 27))
  obtain ⟨y0, y1, y2, y3, y4, y5, y6, y7, y8, y9, y10, y11, y12, y13, y14, y15⟩ := HS.out _ hk0
  by_cases h1 : n ≤ 60
  · have h1i : (n : Int) ≤ 60 := by omega
    go_enter Try.func10, Try.ntmps10
    go_wp2_with fail
    go_ret
    exact ⟨ret_bool (by unfold fewB; rw [decide_eq_true h1, Bool.true_and, Bool.eq_iff_iff]; simp; omega), HB.out⟩
  · have h1i : ¬ (n : Int) ≤ 60 := by omega
    go_enter Try.func10, Try.ntmps10
    go_wp2_with fail
    go_ret
    exact ⟨ret_bool (by unfold fewB; rw [decide_eq_false h1]; rfl), HB.out⟩
end Go.Proofs.Ytihmhpleiefodaa
