/- Contracts of reference 02's Neg, Add, Sub, Cmp for numbers that are not negative. -/
import Derived.Test.YtdodgnpjlicnoaaN18
namespace Go.Proofs.Ytdodgnpjlicnoaa
open Go.RowKit
set_option linter.unusedVariables false
set_option linter.unusedSimpArgs false
def absd (a b : Nat) : Nat := if a < b then b - a else a - b
theorem RetDgT.mono {w0 w1 w' : World} {L : List Nat} {e : Ending} (h : RetDgT w1 L e w') (hk : Keeps w0 w1) : RetDgT w0 L e w' := by
  obtain ⟨A, c, he, hd, hk1, hf⟩ := h
  exact ⟨A, c, he, hd, hk.trans hk1, hf.back hk⟩
set_option maxRecDepth 100000 in
set_option maxHeartbeats 2000000 in
theorem neg2_any (D : List Nat) (A : Option Addr) (n c : Nat) (w : World) (h : Dg w A n c D) (hsm : n ≤ 1000) :
    Calls Try.prog 112 #[.agg #[.bool false, .slice A n c]] w (RetBI w (decide (nv D ≠ 0)) (nv D)) := by
  have HS := Lib.hid (show ∀ w', Keeps ((w.alloc (.cells #[.bool false, .slice A n c] 74)).alloc (.cells #[.bool false, .slice none 0 0] 74)) w' → w'.cell? ⟨w.heap.size, 0, none⟩ = some (.bool false) ∧ w'.frozen? ⟨w.heap.size, 0, none⟩ = false ∧ w'.cell? ⟨w.heap.size, 1, none⟩ = some (.slice A n c) ∧ w'.frozen? ⟨w.heap.size, 1, none⟩ = false ∧ w'.cell? ⟨w.heap.size + 1, 0, none⟩ = some (.bool false) ∧ w'.frozen? ⟨w.heap.size + 1, 0, none⟩ = false ∧ w'.cell? ⟨w.heap.size + 1, 1, none⟩ = some (.slice none 0 0) ∧ w'.frozen? ⟨w.heap.size + 1, 1, none⟩ = false from fun w' hk => ⟨(hk.cell (p := ⟨w.heap.size, 0, none⟩) (by first | (simp; done) | (simp; omega))).trans (by simp [go_sem]), (hk.frozen (p := ⟨w.heap.size, 0, none⟩) (by first | (simp; done) | (simp; omega))).trans (by simp [go_sem]), (hk.cell (p := ⟨w.heap.size, 1, none⟩) (by first | (simp; done) | (simp; omega))).trans (by simp [go_sem]), (hk.frozen (p := ⟨w.heap.size, 1, none⟩) (by first | (simp; done) | (simp; omega))).trans (by simp [go_sem]), (hk.cell (p := ⟨w.heap.size + 1, 0, none⟩) (by first | (simp; done) | (simp; omega))).trans (by simp [go_sem]), (hk.frozen (p := ⟨w.heap.size + 1, 0, none⟩) (by first | (simp; done) | (simp; omega))).trans (by simp [go_sem]), (hk.cell (p := ⟨w.heap.size + 1, 1, none⟩) (by first | (simp; done) | (simp; omega))).trans (by simp [go_sem]), (hk.frozen (p := ⟨w.heap.size + 1, 1, none⟩) (by first | (simp; done) | (simp; omega))).trans (by simp [go_sem])⟩)
  have HB := Lib.hid (show Keeps w ((w.alloc (.cells #[.bool false, .slice A n c] 74)).alloc (.cells #[.bool false, .slice none 0 0] 74)) from (by (repeat (first | (with_reducible exact Keeps.refl _) | (with_reducible assumption) | (with_reducible refine Keeps.drewN ?_ _) | (with_reducible refine Keeps.drew ?_) | (with_reducible refine Keeps.alloc ?_ _) | (with_reducible refine Keeps.setNew ?_ ?_ _))) <;> (dsimp only; omega)))
  have hk0 := Keeps.refl ((w.alloc (.cells #[.bool false, .slice A n c] 74)).alloc (.cells #[.bool false, .slice none 0 0] 74))
  have GW := Lib.hid (fun w' hk => (new_any true D A n c w' (h.keep (HB.out.trans hk)) hsm).mono fun e w1 h => RetBI.mono h hk)
  rw [Bool.true_and] at GW
  generalize nv D = x at *
  generalize decide (x ≠ 0) = bb at *
  clear h
  go_enter Try.func112, Try.ntmps112
  go_wp2_with ((go_at_call 86; (with_reducible refine (GW.out _ (by first | assumption | exact Keeps.drew (by assumption) | exact Keeps.drewN (by assumption) _)).mono ?_); intro e w4 hret; obtain ⟨A4, c4, rfl, hD4, hk, hF4⟩ := hret); obtain ⟨y0, y1, y2, y3, y4, y5, y6, y7⟩ := HS.out _ hk)
  exact bodyPost_ret (v := .agg #[.bool bb, .slice A4 (dig x).length c4]) (by simp [results, Try.results112, go_sem, *]) rfl ⟨A4, c4, rfl, (hD4.far (hF4.ne (by simp)) _).far (hF4.ne (by simp)) _, (HB.out.trans hk).far2 (by omega) _ _, hF4.back HB.out⟩
set_option maxRecDepth 100000 in
set_option maxHeartbeats 2000000 in
theorem addP2_any (D E : List Nat) (A B : Option Addr) (n c m c2 : Nat) (w : World) (h : Dg w A n c D) (h2 : Dg w B m c2 E) (hsm : n ≤ 100) (hsm2 : m ≤ 100) :
    Calls Try.prog 111 #[.agg #[.bool false, .slice A n c], .agg #[.bool false, .slice B m c2]] w (RetBI w false (nv D + nv E)) := by
  have HS := Lib.hid (show ∀ w', Keeps (((w.alloc (.cells #[.bool false, .slice A n c] 74)).alloc (.cells #[.bool false, .slice B m c2] 74)).alloc (.cells #[.bool false, .slice none 0 0] 74)) w' → w'.cell? ⟨w.heap.size, 0, none⟩ = some (.bool false) ∧ w'.frozen? ⟨w.heap.size, 0, none⟩ = false ∧ w'.cell? ⟨w.heap.size, 1, none⟩ = some (.slice A n c) ∧ w'.frozen? ⟨w.heap.size, 1, none⟩ = false ∧ w'.cell? ⟨w.heap.size + 1, 0, none⟩ = some (.bool false) ∧ w'.frozen? ⟨w.heap.size + 1, 0, none⟩ = false ∧ w'.cell? ⟨w.heap.size + 1, 1, none⟩ = some (.slice B m c2) ∧ w'.frozen? ⟨w.heap.size + 1, 1, none⟩ = false ∧ w'.cell? ⟨w.heap.size + 1 + 1, 0, none⟩ = some (.bool false) ∧ w'.frozen? ⟨w.heap.size + 1 + 1, 0, none⟩ = false ∧ w'.cell? ⟨w.heap.size + 1 + 1, 1, none⟩ = some (.slice none 0 0) ∧ w'.frozen? ⟨w.heap.size + 1 + 1, 1, none⟩ = false from fun w' hk => ⟨(hk.cell (p := ⟨w.heap.size, 0, none⟩) (by first | (simp; done) | (simp; omega))).trans (by simp [go_sem]), (hk.frozen (p := ⟨w.heap.size, 0, none⟩) (by first | (simp; done) | (simp; omega))).trans (by simp [go_sem]), (hk.cell (p := ⟨w.heap.size, 1, none⟩) (by first | (simp; done) | (simp; omega))).trans (by simp [go_sem]), (hk.frozen (p := ⟨w.heap.size, 1, none⟩) (by first | (simp; done) | (simp; omega))).trans (by simp [go_sem]), (hk.cell (p := ⟨w.heap.size + 1, 0, none⟩) (by first | (simp; done) | (simp; omega))).trans (by simp [go_sem]), (hk.frozen (p := ⟨w.heap.size + 1, 0, none⟩) (by first | (simp; done) | (simp; omega))).trans (by simp [go_sem]), (hk.cell (p := ⟨w.heap.size + 1, 1, none⟩) (by first | (simp; done) | (simp; omega))).trans (by simp [go_sem]), (hk.frozen (p := ⟨w.heap.size + 1, 1, none⟩) (by first | (simp; done) | (simp; omega))).trans (by simp [go_sem]), (hk.cell (p := ⟨w.heap.size + 1 + 1, 0, none⟩) (by first | (simp; done) | (simp; omega))).trans (by simp [go_sem]), (hk.frozen (p := ⟨w.heap.size + 1 + 1, 0, none⟩) (by first | (simp; done) | (simp; omega))).trans (by simp [go_sem]), (hk.cell (p := ⟨w.heap.size + 1 + 1, 1, none⟩) (by first | (simp; done) | (simp; omega))).trans (by simp [go_sem]), (hk.frozen (p := ⟨w.heap.size + 1 + 1, 1, none⟩) (by first | (simp; done) | (simp; omega))).trans (by simp [go_sem])⟩)
  have HB := Lib.hid (show Keeps w (((w.alloc (.cells #[.bool false, .slice A n c] 74)).alloc (.cells #[.bool false, .slice B m c2] 74)).alloc (.cells #[.bool false, .slice none 0 0] 74)) from (by (repeat (first | (with_reducible exact Keeps.refl _) | (with_reducible assumption) | (with_reducible refine Keeps.drewN ?_ _) | (with_reducible refine Keeps.drew ?_) | (with_reducible refine Keeps.alloc ?_ _) | (with_reducible refine Keeps.setNew ?_ ?_ _))) <;> (dsimp only; omega)))
  have hk0 := Keeps.refl (((w.alloc (.cells #[.bool false, .slice A n c] 74)).alloc (.cells #[.bool false, .slice B m c2] 74)).alloc (.cells #[.bool false, .slice none 0 0] 74))
  have HS2 := Lib.hid (show ∀ w', Keeps ((w.alloc (.cells #[.bool false, .slice A n c] 74)).alloc (.cells #[.bool false, .slice B m c2] 74)) w' → w'.cell? ⟨w.heap.size, 0, none⟩ = some (.bool false) ∧ w'.frozen? ⟨w.heap.size, 0, none⟩ = false ∧ w'.cell? ⟨w.heap.size, 1, none⟩ = some (.slice A n c) ∧ w'.frozen? ⟨w.heap.size, 1, none⟩ = false ∧ w'.cell? ⟨w.heap.size + 1, 0, none⟩ = some (.bool false) ∧ w'.frozen? ⟨w.heap.size + 1, 0, none⟩ = false ∧ w'.cell? ⟨w.heap.size + 1, 1, none⟩ = some (.slice B m c2) ∧ w'.frozen? ⟨w.heap.size + 1, 1, none⟩ = false from fun w' hk => ⟨(hk.cell (p := ⟨w.heap.size, 0, none⟩) (by first | (simp; done) | (simp; omega))).trans (by simp [go_sem]), (hk.frozen (p := ⟨w.heap.size, 0, none⟩) (by first | (simp; done) | (simp; omega))).trans (by simp [go_sem]), (hk.cell (p := ⟨w.heap.size, 1, none⟩) (by first | (simp; done) | (simp; omega))).trans (by simp [go_sem]), (hk.frozen (p := ⟨w.heap.size, 1, none⟩) (by first | (simp; done) | (simp; omega))).trans (by simp [go_sem]), (hk.cell (p := ⟨w.heap.size + 1, 0, none⟩) (by first | (simp; done) | (simp; omega))).trans (by simp [go_sem]), (hk.frozen (p := ⟨w.heap.size + 1, 0, none⟩) (by first | (simp; done) | (simp; omega))).trans (by simp [go_sem]), (hk.cell (p := ⟨w.heap.size + 1, 1, none⟩) (by first | (simp; done) | (simp; omega))).trans (by simp [go_sem]), (hk.frozen (p := ⟨w.heap.size + 1, 1, none⟩) (by first | (simp; done) | (simp; omega))).trans (by simp [go_sem])⟩)
  have HB2 := Lib.hid (show Keeps w ((w.alloc (.cells #[.bool false, .slice A n c] 74)).alloc (.cells #[.bool false, .slice B m c2] 74)) from (by (repeat (first | (with_reducible exact Keeps.refl _) | (with_reducible assumption) | (with_reducible refine Keeps.drewN ?_ _) | (with_reducible refine Keeps.drew ?_) | (with_reducible refine Keeps.alloc ?_ _) | (with_reducible refine Keeps.setNew ?_ ?_ _))) <;> (dsimp only; omega)))
  have hk02 := Keeps.refl ((w.alloc (.cells #[.bool false, .slice A n c] 74)).alloc (.cells #[.bool false, .slice B m c2] 74))
  have hW : Keeps (((w.alloc (.cells #[.bool false, .slice A n c] 74)).alloc (.cells #[.bool false, .slice B m c2] 74))) ((((w.alloc (.cells #[.bool false, .slice A n c] 74)).alloc (.cells #[.bool false, .slice B m c2] 74)).alloc (.cells #[.bool false, .slice none 0 0] 74))) := (Keeps.refl _).alloc _
  have HT := Lib.hid (fun w' hk => HS2.out w' (hW.trans hk))
  have HU := Lib.hid (fun w' u v hk => HS2.out _ ((hW.trans (w1 := w') hk).far2 (g := w.heap.size + 1 + 1) (by simp) u v))
  clear hW hk02 HS2
  have GM := Lib.hid (fun w' hk => (add1_any D E A B n c m c2 w' (h.keep (HB.out.trans hk)) (h2.keep (HB.out.trans hk)) (by omega) (by omega)).mono fun e w1 h => RetDg.mono h hk)
  have GW := Lib.hid (fun k A3 c3 w' (hk : Keeps ((((w.alloc (.cells #[.bool false, .slice A n c] 74)).alloc (.cells #[.bool false, .slice B m c2] 74)).alloc (.cells #[.bool false, .slice none 0 0] 74))) w') (hd : Dg w' A3 k c3 (dig (nv D + nv E))) => (new_any false _ A3 k c3 w' hd (by
    rw [← hd.len]
    have := add_len h.2 h2.2 h.len h2.len hsm hsm2
    omega)).mono fun e w1 h => RetBI.mono h hk)
  rw [nv_dig, Bool.false_and] at GW
  generalize nv D + nv E = x at *
  clear h h2
  go_enter Try.func111, Try.ntmps111
  go_wp2_with fail
  go_region_held3 (fun w' => w'.cell? ⟨w.heap.size, 0, none⟩ = some (.bool false) ∧ w'.frozen? ⟨w.heap.size, 0, none⟩ = false ∧ w'.cell? ⟨w.heap.size, 1, none⟩ = some (.slice A n c) ∧ w'.frozen? ⟨w.heap.size, 1, none⟩ = false ∧ w'.cell? ⟨w.heap.size + 1, 0, none⟩ = some (.bool false) ∧ w'.frozen? ⟨w.heap.size + 1, 0, none⟩ = false ∧ w'.cell? ⟨w.heap.size + 1, 1, none⟩ = some (.slice B m c2) ∧ w'.frozen? ⟨w.heap.size + 1, 1, none⟩ = false) (first | exact HT.out _ (by assumption) | exact HT.out _ (Keeps.drew (by assumption)) | exact HU.out _ _ _ (by assumption) | fail "KEEP")
    (first | ((go_at_call 115; (with_reducible refine (GM.out _ (by first | assumption | exact Keeps.drew (by assumption) | exact Keeps.drewN (by assumption) _)).mono ?_); intro e w3 hret; obtain ⟨A3, c3, rfl, hD3, hk, hF3⟩ := hret)) | ((go_at_call 86; (with_reducible refine (GW.out _ _ _ _ (by first | assumption | exact Keeps.drew (by assumption) | exact Keeps.drewN (by assumption) _) (by assumption)).mono ?_); intro e w4 hret; obtain ⟨A4, c4, rfl, hD4, hk, hF4⟩ := hret); obtain ⟨y0, y1, y2, y3, y4, y5, y6, y7, y8, y9, y10, y11⟩ := HS.out _ hk) | fail "ARM")
  go_wp2
  exact bodyPost_ret (v := .agg #[.bool false, .slice A4 (dig x).length c4]) (by simp [results, Try.results111, go_sem, *]) rfl ⟨A4, c4, rfl, (hD4.far (hF4.ne (by simp)) _).far (hF4.ne (by simp)) _, (HB.out.trans hk).far2 (by omega) _ _, hF4.back HB.out⟩
set_option maxRecDepth 100000 in
set_option maxHeartbeats 2000000 in
theorem addM2_any (D E : List Nat) (A B : Option Addr) (n c m c2 : Nat) (w : World) (h : Dg w A n c D) (h2 : Dg w B m c2 E) (hsm : n ≤ 100) (hsm2 : m ≤ 100) :
    Calls Try.prog 111 #[.agg #[.bool false, .slice A n c], .agg #[.bool true, .slice B m c2]] w (RetBI w (decide (nv D < nv E)) (absd (nv D) (nv E))) := by
  have HS := Lib.hid (show ∀ w', Keeps (((w.alloc (.cells #[.bool false, .slice A n c] 74)).alloc (.cells #[.bool true, .slice B m c2] 74)).alloc (.cells #[.bool false, .slice none 0 0] 74)) w' → w'.cell? ⟨w.heap.size, 0, none⟩ = some (.bool false) ∧ w'.frozen? ⟨w.heap.size, 0, none⟩ = false ∧ w'.cell? ⟨w.heap.size, 1, none⟩ = some (.slice A n c) ∧ w'.frozen? ⟨w.heap.size, 1, none⟩ = false ∧ w'.cell? ⟨w.heap.size + 1, 0, none⟩ = some (.bool true) ∧ w'.frozen? ⟨w.heap.size + 1, 0, none⟩ = false ∧ w'.cell? ⟨w.heap.size + 1, 1, none⟩ = some (.slice B m c2) ∧ w'.frozen? ⟨w.heap.size + 1, 1, none⟩ = false ∧ w'.cell? ⟨w.heap.size + 1 + 1, 0, none⟩ = some (.bool false) ∧ w'.frozen? ⟨w.heap.size + 1 + 1, 0, none⟩ = false ∧ w'.cell? ⟨w.heap.size + 1 + 1, 1, none⟩ = some (.slice none 0 0) ∧ w'.frozen? ⟨w.heap.size + 1 + 1, 1, none⟩ = false from fun w' hk => ⟨(hk.cell (p := ⟨w.heap.size, 0, none⟩) (by first | (simp; done) | (simp; omega))).trans (by simp [go_sem]), (hk.frozen (p := ⟨w.heap.size, 0, none⟩) (by first | (simp; done) | (simp; omega))).trans (by simp [go_sem]), (hk.cell (p := ⟨w.heap.size, 1, none⟩) (by first | (simp; done) | (simp; omega))).trans (by simp [go_sem]), (hk.frozen (p := ⟨w.heap.size, 1, none⟩) (by first | (simp; done) | (simp; omega))).trans (by simp [go_sem]), (hk.cell (p := ⟨w.heap.size + 1, 0, none⟩) (by first | (simp; done) | (simp; omega))).trans (by simp [go_sem]), (hk.frozen (p := ⟨w.heap.size + 1, 0, none⟩) (by first | (simp; done) | (simp; omega))).trans (by simp [go_sem]), (hk.cell (p := ⟨w.heap.size + 1, 1, none⟩) (by first | (simp; done) | (simp; omega))).trans (by simp [go_sem]), (hk.frozen (p := ⟨w.heap.size + 1, 1, none⟩) (by first | (simp; done) | (simp; omega))).trans (by simp [go_sem]), (hk.cell (p := ⟨w.heap.size + 1 + 1, 0, none⟩) (by first | (simp; done) | (simp; omega))).trans (by simp [go_sem]), (hk.frozen (p := ⟨w.heap.size + 1 + 1, 0, none⟩) (by first | (simp; done) | (simp; omega))).trans (by simp [go_sem]), (hk.cell (p := ⟨w.heap.size + 1 + 1, 1, none⟩) (by first | (simp; done) | (simp; omega))).trans (by simp [go_sem]), (hk.frozen (p := ⟨w.heap.size + 1 + 1, 1, none⟩) (by first | (simp; done) | (simp; omega))).trans (by simp [go_sem])⟩)
  have HB := Lib.hid (show Keeps w (((w.alloc (.cells #[.bool false, .slice A n c] 74)).alloc (.cells #[.bool true, .slice B m c2] 74)).alloc (.cells #[.bool false, .slice none 0 0] 74)) from (by (repeat (first | (with_reducible exact Keeps.refl _) | (with_reducible assumption) | (with_reducible refine Keeps.drewN ?_ _) | (with_reducible refine Keeps.drew ?_) | (with_reducible refine Keeps.alloc ?_ _) | (with_reducible refine Keeps.setNew ?_ ?_ _))) <;> (dsimp only; omega)))
  have hk0 := Keeps.refl (((w.alloc (.cells #[.bool false, .slice A n c] 74)).alloc (.cells #[.bool true, .slice B m c2] 74)).alloc (.cells #[.bool false, .slice none 0 0] 74))
  have hl1 : ∀ x, x ≤ nv D → (dig x).length ≤ 1000 := fun x hx => by
    have := dig_length (Nat.lt_of_le_of_lt hx (by have := nv_lt h.2; rwa [h.len] at this)); omega
  have hl2 : ∀ x, x ≤ nv E → (dig x).length ≤ 1000 := fun x hx => by
    have := dig_length (Nat.lt_of_le_of_lt hx (by have := nv_lt h2.2; rwa [h2.len] at this)); omega
  by_cases hlt : nv D < nv E
  · rw [decide_eq_true hlt, show absd (nv D) (nv E) = nv E - nv D by unfold absd; rw [if_pos hlt]]
    have G1 := Lib.hid (fun w' hk => sub1_lt D E A B n c m c2 w' (h.keep (HB.out.trans hk)) (h2.keep (HB.out.trans hk)) (by omega) (by omega) hlt)
    have G2 := Lib.hid (fun w' hk => (sub1_ge E D B A m c2 n c w' (h2.keep (HB.out.trans hk)) (h.keep (HB.out.trans hk)) (by omega) (by omega) (by omega)).mono fun e w1 h => RetDgT.mono h hk)
    have GW := Lib.hid (fun k A3 c3 w' (hk : Keeps ((((w.alloc (.cells #[.bool false, .slice A n c] 74)).alloc (.cells #[.bool true, .slice B m c2] 74)).alloc (.cells #[.bool false, .slice none 0 0] 74))) w') (hd : Dg w' A3 k c3 (dig (nv E - nv D))) => (new_any true _ A3 k c3 w' hd (by
      rw [← hd.len]; exact hl2 _ (by omega))).mono fun e w1 h => RetBI.mono h hk)
    rw [nv_dig, Bool.true_and, decide_eq_true (show nv E - nv D ≠ 0 by omega)] at GW
    generalize nv E - nv D = x at *
    clear h h2 hl1 hl2 hlt
    go_enter Try.func111, Try.ntmps111
    go_wp2_with (first | (go_at_call 123; (with_reducible refine (G1.out _ (by first | assumption | exact Keeps.drew (by assumption) | exact Keeps.drewN (by assumption) _)).mono ?_); rintro e w1 ⟨rfl, rfl⟩) | ((go_at_call 123; (with_reducible refine (G2.out _ (by first | assumption | exact Keeps.drew (by assumption) | exact Keeps.drewN (by assumption) _)).mono ?_); intro e w3 hret; obtain ⟨A3, c3, rfl, hD3, hk, hF3⟩ := hret); obtain ⟨y0, y1, y2, y3, y4, y5, y6, y7, y8, y9, y10, y11⟩ := HS.out _ hk) | ((go_at_call 86; (with_reducible refine (GW.out _ _ _ _ (by first | assumption | exact Keeps.drew (by assumption) | exact Keeps.drewN (by assumption) _) (by assumption)).mono ?_); intro e w4 hret; obtain ⟨A4, c4, rfl, hD4, hk, hF4⟩ := hret); obtain ⟨y0, y1, y2, y3, y4, y5, y6, y7, y8, y9, y10, y11⟩ := HS.out _ hk) | fail "ARM")
    exact bodyPost_ret (v := .agg #[.bool true, .slice A4 (dig x).length c4]) (by simp [results, Try.results111, go_sem, *]) rfl ⟨A4, c4, rfl, (hD4.far (hF4.ne (by simp)) _).far (hF4.ne (by simp)) _, (HB.out.trans hk).far2 (by omega) _ _, hF4.back HB.out⟩
  · rw [decide_eq_false hlt, show absd (nv D) (nv E) = nv D - nv E by unfold absd; rw [if_neg hlt]]
    have G2 := Lib.hid (fun w' hk => (sub1_ge D E A B n c m c2 w' (h.keep (HB.out.trans hk)) (h2.keep (HB.out.trans hk)) (by omega) (by omega) (by omega)).mono fun e w1 h => RetDgT.mono h hk)
    have GW := Lib.hid (fun k A3 c3 w' (hk : Keeps ((((w.alloc (.cells #[.bool false, .slice A n c] 74)).alloc (.cells #[.bool true, .slice B m c2] 74)).alloc (.cells #[.bool false, .slice none 0 0] 74))) w') (hd : Dg w' A3 k c3 (dig (nv D - nv E))) => (new_any false _ A3 k c3 w' hd (by
      rw [← hd.len]; exact hl1 _ (by omega))).mono fun e w1 h => RetBI.mono h hk)
    rw [nv_dig, Bool.false_and] at GW
    generalize nv D - nv E = x at *
    clear h h2 hl1 hl2 hlt
    go_enter Try.func111, Try.ntmps111
    go_wp2_with (first | ((go_at_call 123; (with_reducible refine (G2.out _ (by first | assumption | exact Keeps.drew (by assumption) | exact Keeps.drewN (by assumption) _)).mono ?_); intro e w3 hret; obtain ⟨A3, c3, rfl, hD3, hk, hF3⟩ := hret); obtain ⟨y0, y1, y2, y3, y4, y5, y6, y7, y8, y9, y10, y11⟩ := HS.out _ hk) | ((go_at_call 86; (with_reducible refine (GW.out _ _ _ _ (by first | assumption | exact Keeps.drew (by assumption) | exact Keeps.drewN (by assumption) _) (by assumption)).mono ?_); intro e w4 hret; obtain ⟨A4, c4, rfl, hD4, hk, hF4⟩ := hret); obtain ⟨y0, y1, y2, y3, y4, y5, y6, y7, y8, y9, y10, y11⟩ := HS.out _ hk) | fail "ARM")
    exact bodyPost_ret (v := .agg #[.bool false, .slice A4 (dig x).length c4]) (by simp [results, Try.results111, go_sem, *]) rfl ⟨A4, c4, rfl, (hD4.far (hF4.ne (by simp)) _).far (hF4.ne (by simp)) _, (HB.out.trans hk).far2 (by omega) _ _, hF4.back HB.out⟩
theorem dig_le_len {D : List Nat} {n k : Nat} (hD : isD D) (hl : D.length = n) (hn : n ≤ k) : (dig (nv D)).length ≤ k := by
  have h1 := nv_lt hD
  rw [hl] at h1
  have := dig_length h1; omega
theorem add2_any (D : List Nat) (x : Nat) (A B : Option Addr) (n c c2 : Nat) (w : World) (h : Dg w A n c D) (h2 : Dg w B (dig x).length c2 (dig x)) (hsm : n ≤ 100) (hsm2 : (dig x).length ≤ 100) :
    Calls Try.prog 111 #[.agg #[.bool false, .slice A n c], .agg #[.bool (decide (x ≠ 0)), .slice B (dig x).length c2]] w (RetBI w (decide (nv D < x)) (absd (nv D) x)) := by
  by_cases h0 : x = 0
  · subst h0
    have h3 := addP2_any D (dig 0) A B n c _ c2 w h h2 hsm hsm2
    rw [nv_dig, Nat.add_zero] at h3
    have e1 : decide (nv D < 0) = false := decide_eq_false (by omega)
    have e2 : absd (nv D) 0 = nv D := by unfold absd; rw [if_neg (by omega), Nat.sub_zero]
    rw [e1, e2]
    exact h3
  · rw [decide_eq_true h0]
    have h3 := addM2_any D (dig x) A B n c _ c2 w h h2 hsm hsm2
    rw [nv_dig] at h3
    exact h3
set_option maxRecDepth 100000 in
set_option maxHeartbeats 2000000 in
theorem sub2_any (D E : List Nat) (A B : Option Addr) (n c m c2 : Nat) (w : World) (h : Dg w A n c D) (h2 : Dg w B m c2 E) (hsm : n ≤ 100) (hsm2 : m ≤ 100) :
    Calls Try.prog 85 #[.agg #[.bool false, .slice A n c], .agg #[.bool false, .slice B m c2]] w (RetBI w (decide (nv D < nv E)) (absd (nv D) (nv E))) := by
  have HS := Lib.hid (show ∀ w', Keeps (((w.alloc (.cells #[.bool false, .slice A n c] 74)).alloc (.cells #[.bool false, .slice B m c2] 74)).alloc (.cells #[.bool false, .slice none 0 0] 74)) w' → w'.cell? ⟨w.heap.size, 0, none⟩ = some (.bool false) ∧ w'.frozen? ⟨w.heap.size, 0, none⟩ = false ∧ w'.cell? ⟨w.heap.size, 1, none⟩ = some (.slice A n c) ∧ w'.frozen? ⟨w.heap.size, 1, none⟩ = false ∧ w'.cell? ⟨w.heap.size + 1, 0, none⟩ = some (.bool false) ∧ w'.frozen? ⟨w.heap.size + 1, 0, none⟩ = false ∧ w'.cell? ⟨w.heap.size + 1, 1, none⟩ = some (.slice B m c2) ∧ w'.frozen? ⟨w.heap.size + 1, 1, none⟩ = false ∧ w'.cell? ⟨w.heap.size + 1 + 1, 0, none⟩ = some (.bool false) ∧ w'.frozen? ⟨w.heap.size + 1 + 1, 0, none⟩ = false ∧ w'.cell? ⟨w.heap.size + 1 + 1, 1, none⟩ = some (.slice none 0 0) ∧ w'.frozen? ⟨w.heap.size + 1 + 1, 1, none⟩ = false from fun w' hk => ⟨(hk.cell (p := ⟨w.heap.size, 0, none⟩) (by first | (simp; done) | (simp; omega))).trans (by simp [go_sem]), (hk.frozen (p := ⟨w.heap.size, 0, none⟩) (by first | (simp; done) | (simp; omega))).trans (by simp [go_sem]), (hk.cell (p := ⟨w.heap.size, 1, none⟩) (by first | (simp; done) | (simp; omega))).trans (by simp [go_sem]), (hk.frozen (p := ⟨w.heap.size, 1, none⟩) (by first | (simp; done) | (simp; omega))).trans (by simp [go_sem]), (hk.cell (p := ⟨w.heap.size + 1, 0, none⟩) (by first | (simp; done) | (simp; omega))).trans (by simp [go_sem]), (hk.frozen (p := ⟨w.heap.size + 1, 0, none⟩) (by first | (simp; done) | (simp; omega))).trans (by simp [go_sem]), (hk.cell (p := ⟨w.heap.size + 1, 1, none⟩) (by first | (simp; done) | (simp; omega))).trans (by simp [go_sem]), (hk.frozen (p := ⟨w.heap.size + 1, 1, none⟩) (by first | (simp; done) | (simp; omega))).trans (by simp [go_sem]), (hk.cell (p := ⟨w.heap.size + 1 + 1, 0, none⟩) (by first | (simp; done) | (simp; omega))).trans (by simp [go_sem]), (hk.frozen (p := ⟨w.heap.size + 1 + 1, 0, none⟩) (by first | (simp; done) | (simp; omega))).trans (by simp [go_sem]), (hk.cell (p := ⟨w.heap.size + 1 + 1, 1, none⟩) (by first | (simp; done) | (simp; omega))).trans (by simp [go_sem]), (hk.frozen (p := ⟨w.heap.size + 1 + 1, 1, none⟩) (by first | (simp; done) | (simp; omega))).trans (by simp [go_sem])⟩)
  have HB := Lib.hid (show Keeps w (((w.alloc (.cells #[.bool false, .slice A n c] 74)).alloc (.cells #[.bool false, .slice B m c2] 74)).alloc (.cells #[.bool false, .slice none 0 0] 74)) from (by (repeat (first | (with_reducible exact Keeps.refl _) | (with_reducible assumption) | (with_reducible refine Keeps.drewN ?_ _) | (with_reducible refine Keeps.drew ?_) | (with_reducible refine Keeps.alloc ?_ _) | (with_reducible refine Keeps.setNew ?_ ?_ _))) <;> (dsimp only; omega)))
  have hk0 := Keeps.refl (((w.alloc (.cells #[.bool false, .slice A n c] 74)).alloc (.cells #[.bool false, .slice B m c2] 74)).alloc (.cells #[.bool false, .slice none 0 0] 74))
  have HS2 := Lib.hid (show ∀ w', Keeps ((w.alloc (.cells #[.bool false, .slice A n c] 74)).alloc (.cells #[.bool false, .slice B m c2] 74)) w' → w'.cell? ⟨w.heap.size, 0, none⟩ = some (.bool false) ∧ w'.frozen? ⟨w.heap.size, 0, none⟩ = false ∧ w'.cell? ⟨w.heap.size, 1, none⟩ = some (.slice A n c) ∧ w'.frozen? ⟨w.heap.size, 1, none⟩ = false ∧ w'.cell? ⟨w.heap.size + 1, 0, none⟩ = some (.bool false) ∧ w'.frozen? ⟨w.heap.size + 1, 0, none⟩ = false ∧ w'.cell? ⟨w.heap.size + 1, 1, none⟩ = some (.slice B m c2) ∧ w'.frozen? ⟨w.heap.size + 1, 1, none⟩ = false from fun w' hk => ⟨(hk.cell (p := ⟨w.heap.size, 0, none⟩) (by first | (simp; done) | (simp; omega))).trans (by simp [go_sem]), (hk.frozen (p := ⟨w.heap.size, 0, none⟩) (by first | (simp; done) | (simp; omega))).trans (by simp [go_sem]), (hk.cell (p := ⟨w.heap.size, 1, none⟩) (by first | (simp; done) | (simp; omega))).trans (by simp [go_sem]), (hk.frozen (p := ⟨w.heap.size, 1, none⟩) (by first | (simp; done) | (simp; omega))).trans (by simp [go_sem]), (hk.cell (p := ⟨w.heap.size + 1, 0, none⟩) (by first | (simp; done) | (simp; omega))).trans (by simp [go_sem]), (hk.frozen (p := ⟨w.heap.size + 1, 0, none⟩) (by first | (simp; done) | (simp; omega))).trans (by simp [go_sem]), (hk.cell (p := ⟨w.heap.size + 1, 1, none⟩) (by first | (simp; done) | (simp; omega))).trans (by simp [go_sem]), (hk.frozen (p := ⟨w.heap.size + 1, 1, none⟩) (by first | (simp; done) | (simp; omega))).trans (by simp [go_sem])⟩)
  have HB2 := Lib.hid (show Keeps w ((w.alloc (.cells #[.bool false, .slice A n c] 74)).alloc (.cells #[.bool false, .slice B m c2] 74)) from (by (repeat (first | (with_reducible exact Keeps.refl _) | (with_reducible assumption) | (with_reducible refine Keeps.drewN ?_ _) | (with_reducible refine Keeps.drew ?_) | (with_reducible refine Keeps.alloc ?_ _) | (with_reducible refine Keeps.setNew ?_ ?_ _))) <;> (dsimp only; omega)))
  have hk02 := Keeps.refl ((w.alloc (.cells #[.bool false, .slice A n c] 74)).alloc (.cells #[.bool false, .slice B m c2] 74))
  have hW : Keeps (((w.alloc (.cells #[.bool false, .slice A n c] 74)).alloc (.cells #[.bool false, .slice B m c2] 74))) ((((w.alloc (.cells #[.bool false, .slice A n c] 74)).alloc (.cells #[.bool false, .slice B m c2] 74)).alloc (.cells #[.bool false, .slice none 0 0] 74))) := (Keeps.refl _).alloc _
  have HT := Lib.hid (fun w' hk => HS2.out w' (hW.trans hk))
  have HU := Lib.hid (fun w' u v hk => HS2.out _ ((hW.trans (w1 := w') hk).far2 (g := w.heap.size + 1 + 1) (by simp) u v))
  clear hW hk02 HS2
  have GN := Lib.hid (fun w' hk => (neg2_any E B m c2 w' (h2.keep (HB.out.trans hk)) (by omega)).mono fun e w1 h => RetBI.mono h hk)
  have GA := Lib.hid (fun A3 c3 w' (hk : Keeps ((((w.alloc (.cells #[.bool false, .slice A n c] 74)).alloc (.cells #[.bool false, .slice B m c2] 74)).alloc (.cells #[.bool false, .slice none 0 0] 74))) w') (hd : Dg w' A3 (dig (nv E)).length c3 (dig (nv E))) => (add2_any D (nv E) A A3 n c c3 w' (h.keep (HB.out.trans hk)) hd hsm (dig_le_len h2.2 h2.len hsm2)).mono fun e w1 h => RetBI.mono h hk)
  generalize absd (nv D) (nv E) = x at *
  generalize decide (nv D < nv E) = bb at *
  generalize nv E = y at *
  generalize decide (y ≠ 0) = b9 at *
  clear h h2
  go_enter Try.func85, Try.ntmps85
  go_wp2_with fail
  go_region_held3 (fun w' => w'.cell? ⟨w.heap.size, 0, none⟩ = some (.bool false) ∧ w'.frozen? ⟨w.heap.size, 0, none⟩ = false ∧ w'.cell? ⟨w.heap.size, 1, none⟩ = some (.slice A n c) ∧ w'.frozen? ⟨w.heap.size, 1, none⟩ = false ∧ w'.cell? ⟨w.heap.size + 1, 0, none⟩ = some (.bool false) ∧ w'.frozen? ⟨w.heap.size + 1, 0, none⟩ = false ∧ w'.cell? ⟨w.heap.size + 1, 1, none⟩ = some (.slice B m c2) ∧ w'.frozen? ⟨w.heap.size + 1, 1, none⟩ = false) (first | exact HT.out _ (by assumption) | exact HT.out _ (Keeps.drew (by assumption)) | exact HU.out _ _ _ (by assumption) | fail "KEEP")
    (first | ((go_at_call 112; (with_reducible refine (GN.out _ (by first | assumption | exact Keeps.drew (by assumption) | exact Keeps.drewN (by assumption) _)).mono ?_); intro e w3 hret; obtain ⟨A3, c3, rfl, hD3, hk, hF3⟩ := hret)) | ((go_at_call 111; (with_reducible refine (GA.out _ _ _ (by first | assumption | exact Keeps.drew (by assumption) | exact Keeps.drewN (by assumption) _) (by assumption)).mono ?_); intro e w4 hret; obtain ⟨A4, c4, rfl, hD4, hk, hF4⟩ := hret); obtain ⟨y0, y1, y2, y3, y4, y5, y6, y7, y8, y9, y10, y11⟩ := HS.out _ hk) | fail "ARM")
  go_wp2
  exact bodyPost_ret (v := .agg #[.bool bb, .slice A4 (dig x).length c4]) (by simp [results, Try.results85, go_sem, *]) rfl ⟨A4, c4, rfl, (hD4.far (hF4.ne (by simp)) _).far (hF4.ne (by simp)) _, (HB.out.trans hk).far2 (by omega) _ _, hF4.back HB.out⟩
theorem sgn_cmp (a b : Nat) : sgnI (decide (a < b)) (absd a b) = cmpN a b := by
  unfold sgnI absd cmpN
  by_cases h : a < b
  · rw [if_pos h, if_neg (by omega), if_pos (by simp [h]), if_pos h]
  · rw [if_neg h, if_neg h]
    by_cases h2 : a - b = 0
    · rw [if_pos h2, if_neg (by omega)]
    · rw [if_neg h2, if_neg (by simp [h]), if_pos (by omega)]
set_option maxRecDepth 100000 in
set_option maxHeartbeats 2000000 in
theorem cmp2_any (D E : List Nat) (A B : Option Addr) (n c m c2 : Nat) (w : World) (h : Dg w A n c D) (h2 : Dg w B m c2 E) (hsm : n ≤ 100) (hsm2 : m ≤ 100) :
    Calls Try.prog 50 #[.agg #[.bool false, .slice A n c], .agg #[.bool false, .slice B m c2]] w fun e w' => e = .returned (.int .i64 (cmpN (nv D) (nv E))) ∧ Keeps w w' := by
  have HS := Lib.hid (show ∀ w', Keeps ((w.alloc (.cells #[.bool false, .slice A n c] 74)).alloc (.cells #[.bool false, .slice B m c2] 74)) w' → w'.cell? ⟨w.heap.size, 0, none⟩ = some (.bool false) ∧ w'.frozen? ⟨w.heap.size, 0, none⟩ = false ∧ w'.cell? ⟨w.heap.size, 1, none⟩ = some (.slice A n c) ∧ w'.frozen? ⟨w.heap.size, 1, none⟩ = false ∧ w'.cell? ⟨w.heap.size + 1, 0, none⟩ = some (.bool false) ∧ w'.frozen? ⟨w.heap.size + 1, 0, none⟩ = false ∧ w'.cell? ⟨w.heap.size + 1, 1, none⟩ = some (.slice B m c2) ∧ w'.frozen? ⟨w.heap.size + 1, 1, none⟩ = false from fun w' hk => ⟨(hk.cell (p := ⟨w.heap.size, 0, none⟩) (by first | (simp; done) | (simp; omega))).trans (by simp [go_sem]), (hk.frozen (p := ⟨w.heap.size, 0, none⟩) (by first | (simp; done) | (simp; omega))).trans (by simp [go_sem]), (hk.cell (p := ⟨w.heap.size, 1, none⟩) (by first | (simp; done) | (simp; omega))).trans (by simp [go_sem]), (hk.frozen (p := ⟨w.heap.size, 1, none⟩) (by first | (simp; done) | (simp; omega))).trans (by simp [go_sem]), (hk.cell (p := ⟨w.heap.size + 1, 0, none⟩) (by first | (simp; done) | (simp; omega))).trans (by simp [go_sem]), (hk.frozen (p := ⟨w.heap.size + 1, 0, none⟩) (by first | (simp; done) | (simp; omega))).trans (by simp [go_sem]), (hk.cell (p := ⟨w.heap.size + 1, 1, none⟩) (by first | (simp; done) | (simp; omega))).trans (by simp [go_sem]), (hk.frozen (p := ⟨w.heap.size + 1, 1, none⟩) (by first | (simp; done) | (simp; omega))).trans (by simp [go_sem])⟩)
  have HB := Lib.hid (show Keeps w ((w.alloc (.cells #[.bool false, .slice A n c] 74)).alloc (.cells #[.bool false, .slice B m c2] 74)) from (by (repeat (first | (with_reducible exact Keeps.refl _) | (with_reducible assumption) | (with_reducible refine Keeps.drewN ?_ _) | (with_reducible refine Keeps.drew ?_) | (with_reducible refine Keeps.alloc ?_ _) | (with_reducible refine Keeps.setNew ?_ ?_ _))) <;> (dsimp only; omega)))
  have hk0 := Keeps.refl ((w.alloc (.cells #[.bool false, .slice A n c] 74)).alloc (.cells #[.bool false, .slice B m c2] 74))
  have GS := Lib.hid (fun w' hk => (sub2_any D E A B n c m c2 w' (h.keep (HB.out.trans hk)) (h2.keep (HB.out.trans hk)) hsm hsm2).mono fun e w1 h => RetBI.mono h hk)
  have hlen : (dig (absd (nv D) (nv E))).length ≤ 1000 := by
    have e1 := nv_lt h.2
    have e2 := nv_lt h2.2
    rw [h.len] at e1
    rw [h2.len] at e2
    unfold absd
    split
    · have := dig_length (Nat.lt_of_le_of_lt (Nat.sub_le (nv E) (nv D)) e2); omega
    · have := dig_length (Nat.lt_of_le_of_lt (Nat.sub_le (nv D) (nv E)) e1); omega
  have GG := Lib.hid (fun A3 c3 w' (hd : Dg w' A3 (dig (absd (nv D) (nv E))).length c3 (dig (absd (nv D) (nv E)))) => sign2_any (decide (nv D < nv E)) _ A3 _ c3 w' hd hlen)
  rw [nv_dig, sgn_cmp] at GG
  generalize absd (nv D) (nv E) = x at *
  generalize decide (nv D < nv E) = bb at *
  generalize cmpN (nv D) (nv E) = r at *
  clear h h2 hlen
  go_enter Try.func50, Try.ntmps50
  go_wp2_with (first | ((go_at_call 85; (with_reducible refine (GS.out _ (by first | assumption | exact Keeps.drew (by assumption) | exact Keeps.drewN (by assumption) _)).mono ?_); intro e w3 hret; obtain ⟨A3, c3, rfl, hD3, hk, hF3⟩ := hret)) | (go_at_call 84; (with_reducible refine (GG.out _ _ _ hD3).mono ?_); rintro e w1 ⟨rfl, hk1⟩) | fail "ARM")
  go_ret
  exact ⟨rfl, (HB.out.trans hk).trans hk1⟩
end Go.Proofs.Ytdodgnpjlicnoaa
