/- Contracts of linejoin's wide, way, plus, MiterTip and of reference 23's wide, MiterTip. -/
import Derived.Test.YtdodgnpjlicnoaaGreatN19
import Derived.Test.YtdodgnpjlicnoaaGreatQm
import Derived.Test.YtdodgnpjlicnoaaGreatShelf
import Derived.IntWalk
namespace Go.Proofs.YtdodgnpjlicnoaaGreat
section
open Go.RowKit
set_option linter.unusedVariables false
set_option linter.unusedSimpArgs false
def absd (a b : Nat) : Nat := if a < b then b - a else a - b
theorem RetDgT.mono {w0 w1 w' : World} {L : List Nat} {e : Ending} (h : RetDgT w1 L e w') (hk : Keeps w0 w1) : RetDgT w0 L e w' := by
  obtain ⟨A, c, he, hd, hk1, hf⟩ := h
  exact ⟨A, c, he, hd, hk.trans hk1, hf.back hk⟩
set_option maxRecDepth 100000 in
set_option maxHeartbeats 2000000 in
theorem neg2_any (D : List Nat) (A : Option Addr) (n c : Nat) (w : World) (h : Dg w A n c D) (hsm : n ≤ 1000) :
    Calls Tryz.prog 121 #[.agg #[.bool false, .slice A n c]] w (RetBI w (decide (nv D ≠ 0)) (nv D)) := by
  have HS := Lib.hid (show ∀ w', Keeps ((w.alloc (.cells #[.bool false, .slice A n c] 104)).alloc (.cells #[.bool false, .slice none 0 0] 104)) w' → w'.cell? ⟨w.heap.size, 0, none⟩ = some (.bool false) ∧ w'.frozen? ⟨w.heap.size, 0, none⟩ = false ∧ w'.cell? ⟨w.heap.size, 1, none⟩ = some (.slice A n c) ∧ w'.frozen? ⟨w.heap.size, 1, none⟩ = false ∧ w'.cell? ⟨w.heap.size + 1, 0, none⟩ = some (.bool false) ∧ w'.frozen? ⟨w.heap.size + 1, 0, none⟩ = false ∧ w'.cell? ⟨w.heap.size + 1, 1, none⟩ = some (.slice none 0 0) ∧ w'.frozen? ⟨w.heap.size + 1, 1, none⟩ = false from fun w' hk => ⟨(hk.cell (p := ⟨w.heap.size, 0, none⟩) (by first | (simp; done) | (simp; omega))).trans (by simp [go_sem]), (hk.frozen (p := ⟨w.heap.size, 0, none⟩) (by first | (simp; done) | (simp; omega))).trans (by simp [go_sem]), (hk.cell (p := ⟨w.heap.size, 1, none⟩) (by first | (simp; done) | (simp; omega))).trans (by simp [go_sem]), (hk.frozen (p := ⟨w.heap.size, 1, none⟩) (by first | (simp; done) | (simp; omega))).trans (by simp [go_sem]), (hk.cell (p := ⟨w.heap.size + 1, 0, none⟩) (by first | (simp; done) | (simp; omega))).trans (by simp [go_sem]), (hk.frozen (p := ⟨w.heap.size + 1, 0, none⟩) (by first | (simp; done) | (simp; omega))).trans (by simp [go_sem]), (hk.cell (p := ⟨w.heap.size + 1, 1, none⟩) (by first | (simp; done) | (simp; omega))).trans (by simp [go_sem]), (hk.frozen (p := ⟨w.heap.size + 1, 1, none⟩) (by first | (simp; done) | (simp; omega))).trans (by simp [go_sem])⟩)
  have HB := Lib.hid (show Keeps w ((w.alloc (.cells #[.bool false, .slice A n c] 104)).alloc (.cells #[.bool false, .slice none 0 0] 104)) from (by (repeat (first | (with_reducible exact Keeps.refl _) | (with_reducible assumption) | (with_reducible refine Keeps.drewN ?_ _) | (with_reducible refine Keeps.drew ?_) | (with_reducible refine Keeps.alloc ?_ _) | (with_reducible refine Keeps.setNew ?_ ?_ _))) <;> (dsimp only; omega)))
  have hk0 := Keeps.refl ((w.alloc (.cells #[.bool false, .slice A n c] 104)).alloc (.cells #[.bool false, .slice none 0 0] 104))
  have GW := Lib.hid (fun w' hk => (new_any true D A n c w' (h.keep (HB.out.trans hk)) hsm).mono fun e w1 h => RetBI.mono h hk)
  rw [Bool.true_and] at GW
  generalize nv D = x at *
  generalize decide (x ≠ 0) = bb at *
  clear h
  go_enter Tryz.func121, Tryz.ntmps121
  go_wp2_with ((go_at_call 114; (with_reducible refine (GW.out _ (by first | assumption | exact Keeps.drew (by assumption) | exact Keeps.drewN (by assumption) _)).mono ?_); intro e w4 hret; obtain ⟨A4, c4, rfl, hD4, hk, hF4⟩ := hret); obtain ⟨y0, y1, y2, y3, y4, y5, y6, y7⟩ := HS.out _ hk)
  exact bodyPost_ret (v := .agg #[.bool bb, .slice A4 (dig x).length c4]) (by simp [results, Tryz.results121, go_sem, *]) rfl ⟨A4, c4, rfl, (hD4.far (hF4.ne (by simp)) _).far (hF4.ne (by simp)) _, (HB.out.trans hk).far2 (by omega) _ _, hF4.back HB.out⟩
set_option maxRecDepth 100000 in
set_option maxHeartbeats 2000000 in
theorem addP2_any (D E : List Nat) (A B : Option Addr) (n c m c2 : Nat) (w : World) (h : Dg w A n c D) (h2 : Dg w B m c2 E) (hsm : n ≤ 100) (hsm2 : m ≤ 100) :
    Calls Tryz.prog 120 #[.agg #[.bool false, .slice A n c], .agg #[.bool false, .slice B m c2]] w (RetBI w false (nv D + nv E)) := by
  have HS := Lib.hid (show ∀ w', Keeps (((w.alloc (.cells #[.bool false, .slice A n c] 104)).alloc (.cells #[.bool false, .slice B m c2] 104)).alloc (.cells #[.bool false, .slice none 0 0] 104)) w' → w'.cell? ⟨w.heap.size, 0, none⟩ = some (.bool false) ∧ w'.frozen? ⟨w.heap.size, 0, none⟩ = false ∧ w'.cell? ⟨w.heap.size, 1, none⟩ = some (.slice A n c) ∧ w'.frozen? ⟨w.heap.size, 1, none⟩ = false ∧ w'.cell? ⟨w.heap.size + 1, 0, none⟩ = some (.bool false) ∧ w'.frozen? ⟨w.heap.size + 1, 0, none⟩ = false ∧ w'.cell? ⟨w.heap.size + 1, 1, none⟩ = some (.slice B m c2) ∧ w'.frozen? ⟨w.heap.size + 1, 1, none⟩ = false ∧ w'.cell? ⟨w.heap.size + 1 + 1, 0, none⟩ = some (.bool false) ∧ w'.frozen? ⟨w.heap.size + 1 + 1, 0, none⟩ = false ∧ w'.cell? ⟨w.heap.size + 1 + 1, 1, none⟩ = some (.slice none 0 0) ∧ w'.frozen? ⟨w.heap.size + 1 + 1, 1, none⟩ = false from fun w' hk => ⟨(hk.cell (p := ⟨w.heap.size, 0, none⟩) (by first | (simp; done) | (simp; omega))).trans (by simp [go_sem]), (hk.frozen (p := ⟨w.heap.size, 0, none⟩) (by first | (simp; done) | (simp; omega))).trans (by simp [go_sem]), (hk.cell (p := ⟨w.heap.size, 1, none⟩) (by first | (simp; done) | (simp; omega))).trans (by simp [go_sem]), (hk.frozen (p := ⟨w.heap.size, 1, none⟩) (by first | (simp; done) | (simp; omega))).trans (by simp [go_sem]), (hk.cell (p := ⟨w.heap.size + 1, 0, none⟩) (by first | (simp; done) | (simp; omega))).trans (by simp [go_sem]), (hk.frozen (p := ⟨w.heap.size + 1, 0, none⟩) (by first | (simp; done) | (simp; omega))).trans (by simp [go_sem]), (hk.cell (p := ⟨w.heap.size + 1, 1, none⟩) (by first | (simp; done) | (simp; omega))).trans (by simp [go_sem]), (hk.frozen (p := ⟨w.heap.size + 1, 1, none⟩) (by first | (simp; done) | (simp; omega))).trans (by simp [go_sem]), (hk.cell (p := ⟨w.heap.size + 1 + 1, 0, none⟩) (by first | (simp; done) | (simp; omega))).trans (by simp [go_sem]), (hk.frozen (p := ⟨w.heap.size + 1 + 1, 0, none⟩) (by first | (simp; done) | (simp; omega))).trans (by simp [go_sem]), (hk.cell (p := ⟨w.heap.size + 1 + 1, 1, none⟩) (by first | (simp; done) | (simp; omega))).trans (by simp [go_sem]), (hk.frozen (p := ⟨w.heap.size + 1 + 1, 1, none⟩) (by first | (simp; done) | (simp; omega))).trans (by simp [go_sem])⟩)
  have HB := Lib.hid (show Keeps w (((w.alloc (.cells #[.bool false, .slice A n c] 104)).alloc (.cells #[.bool false, .slice B m c2] 104)).alloc (.cells #[.bool false, .slice none 0 0] 104)) from (by (repeat (first | (with_reducible exact Keeps.refl _) | (with_reducible assumption) | (with_reducible refine Keeps.drewN ?_ _) | (with_reducible refine Keeps.drew ?_) | (with_reducible refine Keeps.alloc ?_ _) | (with_reducible refine Keeps.setNew ?_ ?_ _))) <;> (dsimp only; omega)))
  have hk0 := Keeps.refl (((w.alloc (.cells #[.bool false, .slice A n c] 104)).alloc (.cells #[.bool false, .slice B m c2] 104)).alloc (.cells #[.bool false, .slice none 0 0] 104))
  have HS2 := Lib.hid (show ∀ w', Keeps ((w.alloc (.cells #[.bool false, .slice A n c] 104)).alloc (.cells #[.bool false, .slice B m c2] 104)) w' → w'.cell? ⟨w.heap.size, 0, none⟩ = some (.bool false) ∧ w'.frozen? ⟨w.heap.size, 0, none⟩ = false ∧ w'.cell? ⟨w.heap.size, 1, none⟩ = some (.slice A n c) ∧ w'.frozen? ⟨w.heap.size, 1, none⟩ = false ∧ w'.cell? ⟨w.heap.size + 1, 0, none⟩ = some (.bool false) ∧ w'.frozen? ⟨w.heap.size + 1, 0, none⟩ = false ∧ w'.cell? ⟨w.heap.size + 1, 1, none⟩ = some (.slice B m c2) ∧ w'.frozen? ⟨w.heap.size + 1, 1, none⟩ = false from fun w' hk => ⟨(hk.cell (p := ⟨w.heap.size, 0, none⟩) (by first | (simp; done) | (simp; omega))).trans (by simp [go_sem]), (hk.frozen (p := ⟨w.heap.size, 0, none⟩) (by first | (simp; done) | (simp; omega))).trans (by simp [go_sem]), (hk.cell (p := ⟨w.heap.size, 1, none⟩) (by first | (simp; done) | (simp; omega))).trans (by simp [go_sem]), (hk.frozen (p := ⟨w.heap.size, 1, none⟩) (by first | (simp; done) | (simp; omega))).trans (by simp [go_sem]), (hk.cell (p := ⟨w.heap.size + 1, 0, none⟩) (by first | (simp; done) | (simp; omega))).trans (by simp [go_sem]), (hk.frozen (p := ⟨w.heap.size + 1, 0, none⟩) (by first | (simp; done) | (simp; omega))).trans (by simp [go_sem]), (hk.cell (p := ⟨w.heap.size + 1, 1, none⟩) (by first | (simp; done) | (simp; omega))).trans (by simp [go_sem]), (hk.frozen (p := ⟨w.heap.size + 1, 1, none⟩) (by first | (simp; done) | (simp; omega))).trans (by simp [go_sem])⟩)
  have HB2 := Lib.hid (show Keeps w ((w.alloc (.cells #[.bool false, .slice A n c] 104)).alloc (.cells #[.bool false, .slice B m c2] 104)) from (by (repeat (first | (with_reducible exact Keeps.refl _) | (with_reducible assumption) | (with_reducible refine Keeps.drewN ?_ _) | (with_reducible refine Keeps.drew ?_) | (with_reducible refine Keeps.alloc ?_ _) | (with_reducible refine Keeps.setNew ?_ ?_ _))) <;> (dsimp only; omega)))
  have hk02 := Keeps.refl ((w.alloc (.cells #[.bool false, .slice A n c] 104)).alloc (.cells #[.bool false, .slice B m c2] 104))
  have hW : Keeps (((w.alloc (.cells #[.bool false, .slice A n c] 104)).alloc (.cells #[.bool false, .slice B m c2] 104))) ((((w.alloc (.cells #[.bool false, .slice A n c] 104)).alloc (.cells #[.bool false, .slice B m c2] 104)).alloc (.cells #[.bool false, .slice none 0 0] 104))) := (Keeps.refl _).alloc _
  have HT := Lib.hid (fun w' hk => HS2.out w' (hW.trans hk))
  have HU := Lib.hid (fun w' u v hk => HS2.out _ ((hW.trans (w1 := w') hk).far2 (g := w.heap.size + 1 + 1) (by simp) u v))
  clear hW hk02 HS2
  have GM := Lib.hid (fun w' hk => (add1_any D E A B n c m c2 w' (h.keep (HB.out.trans hk)) (h2.keep (HB.out.trans hk)) (by omega) (by omega)).mono fun e w1 h => RetDg.mono h hk)
  have GW := Lib.hid (fun k A3 c3 w' (hk : Keeps ((((w.alloc (.cells #[.bool false, .slice A n c] 104)).alloc (.cells #[.bool false, .slice B m c2] 104)).alloc (.cells #[.bool false, .slice none 0 0] 104))) w') (hd : Dg w' A3 k c3 (dig (nv D + nv E))) => (new_any false _ A3 k c3 w' hd (by
    rw [← hd.len]
    have := add_len h.2 h2.2 h.len h2.len hsm hsm2
    omega)).mono fun e w1 h => RetBI.mono h hk)
  rw [nv_dig, Bool.false_and] at GW
  generalize nv D + nv E = x at *
  clear h h2
  go_enter Tryz.func120, Tryz.ntmps120
  go_wp2_with fail
  go_region_held3 (fun w' => w'.cell? ⟨w.heap.size, 0, none⟩ = some (.bool false) ∧ w'.frozen? ⟨w.heap.size, 0, none⟩ = false ∧ w'.cell? ⟨w.heap.size, 1, none⟩ = some (.slice A n c) ∧ w'.frozen? ⟨w.heap.size, 1, none⟩ = false ∧ w'.cell? ⟨w.heap.size + 1, 0, none⟩ = some (.bool false) ∧ w'.frozen? ⟨w.heap.size + 1, 0, none⟩ = false ∧ w'.cell? ⟨w.heap.size + 1, 1, none⟩ = some (.slice B m c2) ∧ w'.frozen? ⟨w.heap.size + 1, 1, none⟩ = false) (first | exact HT.out _ (by assumption) | exact HT.out _ (Keeps.drew (by assumption)) | exact HU.out _ _ _ (by assumption) | fail "KEEP")
    (first | ((go_at_call 124; (with_reducible refine (GM.out _ (by first | assumption | exact Keeps.drew (by assumption) | exact Keeps.drewN (by assumption) _)).mono ?_); intro e w3 hret; obtain ⟨A3, c3, rfl, hD3, hk, hF3⟩ := hret)) | ((go_at_call 114; (with_reducible refine (GW.out _ _ _ _ (by first | assumption | exact Keeps.drew (by assumption) | exact Keeps.drewN (by assumption) _) (by assumption)).mono ?_); intro e w4 hret; obtain ⟨A4, c4, rfl, hD4, hk, hF4⟩ := hret); obtain ⟨y0, y1, y2, y3, y4, y5, y6, y7, y8, y9, y10, y11⟩ := HS.out _ hk) | fail "ARM")
  go_wp2
  exact bodyPost_ret (v := .agg #[.bool false, .slice A4 (dig x).length c4]) (by simp [results, Tryz.results120, go_sem, *]) rfl ⟨A4, c4, rfl, (hD4.far (hF4.ne (by simp)) _).far (hF4.ne (by simp)) _, (HB.out.trans hk).far2 (by omega) _ _, hF4.back HB.out⟩
set_option maxRecDepth 100000 in
set_option maxHeartbeats 2000000 in
theorem addM2_any (D E : List Nat) (A B : Option Addr) (n c m c2 : Nat) (w : World) (h : Dg w A n c D) (h2 : Dg w B m c2 E) (hsm : n ≤ 100) (hsm2 : m ≤ 100) :
    Calls Tryz.prog 120 #[.agg #[.bool false, .slice A n c], .agg #[.bool true, .slice B m c2]] w (RetBI w (decide (nv D < nv E)) (absd (nv D) (nv E))) := by
  have HS := Lib.hid (show ∀ w', Keeps (((w.alloc (.cells #[.bool false, .slice A n c] 104)).alloc (.cells #[.bool true, .slice B m c2] 104)).alloc (.cells #[.bool false, .slice none 0 0] 104)) w' → w'.cell? ⟨w.heap.size, 0, none⟩ = some (.bool false) ∧ w'.frozen? ⟨w.heap.size, 0, none⟩ = false ∧ w'.cell? ⟨w.heap.size, 1, none⟩ = some (.slice A n c) ∧ w'.frozen? ⟨w.heap.size, 1, none⟩ = false ∧ w'.cell? ⟨w.heap.size + 1, 0, none⟩ = some (.bool true) ∧ w'.frozen? ⟨w.heap.size + 1, 0, none⟩ = false ∧ w'.cell? ⟨w.heap.size + 1, 1, none⟩ = some (.slice B m c2) ∧ w'.frozen? ⟨w.heap.size + 1, 1, none⟩ = false ∧ w'.cell? ⟨w.heap.size + 1 + 1, 0, none⟩ = some (.bool false) ∧ w'.frozen? ⟨w.heap.size + 1 + 1, 0, none⟩ = false ∧ w'.cell? ⟨w.heap.size + 1 + 1, 1, none⟩ = some (.slice none 0 0) ∧ w'.frozen? ⟨w.heap.size + 1 + 1, 1, none⟩ = false from fun w' hk => ⟨(hk.cell (p := ⟨w.heap.size, 0, none⟩) (by first | (simp; done) | (simp; omega))).trans (by simp [go_sem]), (hk.frozen (p := ⟨w.heap.size, 0, none⟩) (by first | (simp; done) | (simp; omega))).trans (by simp [go_sem]), (hk.cell (p := ⟨w.heap.size, 1, none⟩) (by first | (simp; done) | (simp; omega))).trans (by simp [go_sem]), (hk.frozen (p := ⟨w.heap.size, 1, none⟩) (by first | (simp; done) | (simp; omega))).trans (by simp [go_sem]), (hk.cell (p := ⟨w.heap.size + 1, 0, none⟩) (by first | (simp; done) | (simp; omega))).trans (by simp [go_sem]), (hk.frozen (p := ⟨w.heap.size + 1, 0, none⟩) (by first | (simp; done) | (simp; omega))).trans (by simp [go_sem]), (hk.cell (p := ⟨w.heap.size + 1, 1, none⟩) (by first | (simp; done) | (simp; omega))).trans (by simp [go_sem]), (hk.frozen (p := ⟨w.heap.size + 1, 1, none⟩) (by first | (simp; done) | (simp; omega))).trans (by simp [go_sem]), (hk.cell (p := ⟨w.heap.size + 1 + 1, 0, none⟩) (by first | (simp; done) | (simp; omega))).trans (by simp [go_sem]), (hk.frozen (p := ⟨w.heap.size + 1 + 1, 0, none⟩) (by first | (simp; done) | (simp; omega))).trans (by simp [go_sem]), (hk.cell (p := ⟨w.heap.size + 1 + 1, 1, none⟩) (by first | (simp; done) | (simp; omega))).trans (by simp [go_sem]), (hk.frozen (p := ⟨w.heap.size + 1 + 1, 1, none⟩) (by first | (simp; done) | (simp; omega))).trans (by simp [go_sem])⟩)
  have HB := Lib.hid (show Keeps w (((w.alloc (.cells #[.bool false, .slice A n c] 104)).alloc (.cells #[.bool true, .slice B m c2] 104)).alloc (.cells #[.bool false, .slice none 0 0] 104)) from (by (repeat (first | (with_reducible exact Keeps.refl _) | (with_reducible assumption) | (with_reducible refine Keeps.drewN ?_ _) | (with_reducible refine Keeps.drew ?_) | (with_reducible refine Keeps.alloc ?_ _) | (with_reducible refine Keeps.setNew ?_ ?_ _))) <;> (dsimp only; omega)))
  have hk0 := Keeps.refl (((w.alloc (.cells #[.bool false, .slice A n c] 104)).alloc (.cells #[.bool true, .slice B m c2] 104)).alloc (.cells #[.bool false, .slice none 0 0] 104))
  have hl1 : ∀ x, x ≤ nv D → (dig x).length ≤ 1000 := fun x hx => by
    have := dig_length (Nat.lt_of_le_of_lt hx (by have := nv_lt h.2; rwa [h.len] at this)); omega
  have hl2 : ∀ x, x ≤ nv E → (dig x).length ≤ 1000 := fun x hx => by
    have := dig_length (Nat.lt_of_le_of_lt hx (by have := nv_lt h2.2; rwa [h2.len] at this)); omega
  by_cases hlt : nv D < nv E
  · rw [decide_eq_true hlt, show absd (nv D) (nv E) = nv E - nv D by unfold absd; rw [if_pos hlt]]
    have G1 := Lib.hid (fun w' hk => sub1_lt D E A B n c m c2 w' (h.keep (HB.out.trans hk)) (h2.keep (HB.out.trans hk)) (by omega) (by omega) hlt)
    have G2 := Lib.hid (fun w' hk => (sub1_ge E D B A m c2 n c w' (h2.keep (HB.out.trans hk)) (h.keep (HB.out.trans hk)) (by omega) (by omega) (by omega)).mono fun e w1 h => RetDgT.mono h hk)
    have GW := Lib.hid (fun k A3 c3 w' (hk : Keeps ((((w.alloc (.cells #[.bool false, .slice A n c] 104)).alloc (.cells #[.bool true, .slice B m c2] 104)).alloc (.cells #[.bool false, .slice none 0 0] 104))) w') (hd : Dg w' A3 k c3 (dig (nv E - nv D))) => (new_any true _ A3 k c3 w' hd (by
      rw [← hd.len]; exact hl2 _ (by omega))).mono fun e w1 h => RetBI.mono h hk)
    rw [nv_dig, Bool.true_and, decide_eq_true (show nv E - nv D ≠ 0 by omega)] at GW
    generalize nv E - nv D = x at *
    clear h h2 hl1 hl2 hlt
    go_enter Tryz.func120, Tryz.ntmps120
    go_wp2_with (first | (go_at_call 126; (with_reducible refine (G1.out _ (by first | assumption | exact Keeps.drew (by assumption) | exact Keeps.drewN (by assumption) _)).mono ?_); rintro e w1 ⟨rfl, rfl⟩) | ((go_at_call 126; (with_reducible refine (G2.out _ (by first | assumption | exact Keeps.drew (by assumption) | exact Keeps.drewN (by assumption) _)).mono ?_); intro e w3 hret; obtain ⟨A3, c3, rfl, hD3, hk, hF3⟩ := hret); obtain ⟨y0, y1, y2, y3, y4, y5, y6, y7, y8, y9, y10, y11⟩ := HS.out _ hk) | ((go_at_call 114; (with_reducible refine (GW.out _ _ _ _ (by first | assumption | exact Keeps.drew (by assumption) | exact Keeps.drewN (by assumption) _) (by assumption)).mono ?_); intro e w4 hret; obtain ⟨A4, c4, rfl, hD4, hk, hF4⟩ := hret); obtain ⟨y0, y1, y2, y3, y4, y5, y6, y7, y8, y9, y10, y11⟩ := HS.out _ hk) | fail "ARM")
    exact bodyPost_ret (v := .agg #[.bool true, .slice A4 (dig x).length c4]) (by simp [results, Tryz.results120, go_sem, *]) rfl ⟨A4, c4, rfl, (hD4.far (hF4.ne (by simp)) _).far (hF4.ne (by simp)) _, (HB.out.trans hk).far2 (by omega) _ _, hF4.back HB.out⟩
  · rw [decide_eq_false hlt, show absd (nv D) (nv E) = nv D - nv E by unfold absd; rw [if_neg hlt]]
    have G2 := Lib.hid (fun w' hk => (sub1_ge D E A B n c m c2 w' (h.keep (HB.out.trans hk)) (h2.keep (HB.out.trans hk)) (by omega) (by omega) (by omega)).mono fun e w1 h => RetDgT.mono h hk)
    have GW := Lib.hid (fun k A3 c3 w' (hk : Keeps ((((w.alloc (.cells #[.bool false, .slice A n c] 104)).alloc (.cells #[.bool true, .slice B m c2] 104)).alloc (.cells #[.bool false, .slice none 0 0] 104))) w') (hd : Dg w' A3 k c3 (dig (nv D - nv E))) => (new_any false _ A3 k c3 w' hd (by
      rw [← hd.len]; exact hl1 _ (by omega))).mono fun e w1 h => RetBI.mono h hk)
    rw [nv_dig, Bool.false_and] at GW
    generalize nv D - nv E = x at *
    clear h h2 hl1 hl2 hlt
    go_enter Tryz.func120, Tryz.ntmps120
    go_wp2_with (first | ((go_at_call 126; (with_reducible refine (G2.out _ (by first | assumption | exact Keeps.drew (by assumption) | exact Keeps.drewN (by assumption) _)).mono ?_); intro e w3 hret; obtain ⟨A3, c3, rfl, hD3, hk, hF3⟩ := hret); obtain ⟨y0, y1, y2, y3, y4, y5, y6, y7, y8, y9, y10, y11⟩ := HS.out _ hk) | ((go_at_call 114; (with_reducible refine (GW.out _ _ _ _ (by first | assumption | exact Keeps.drew (by assumption) | exact Keeps.drewN (by assumption) _) (by assumption)).mono ?_); intro e w4 hret; obtain ⟨A4, c4, rfl, hD4, hk, hF4⟩ := hret); obtain ⟨y0, y1, y2, y3, y4, y5, y6, y7, y8, y9, y10, y11⟩ := HS.out _ hk) | fail "ARM")
    exact bodyPost_ret (v := .agg #[.bool false, .slice A4 (dig x).length c4]) (by simp [results, Tryz.results120, go_sem, *]) rfl ⟨A4, c4, rfl, (hD4.far (hF4.ne (by simp)) _).far (hF4.ne (by simp)) _, (HB.out.trans hk).far2 (by omega) _ _, hF4.back HB.out⟩
theorem dig_le_len {D : List Nat} {n k : Nat} (hD : isD D) (hl : D.length = n) (hn : n ≤ k) : (dig (nv D)).length ≤ k := by
  have h1 := nv_lt hD
  rw [hl] at h1
  have := dig_length h1; omega
theorem add2_any (D : List Nat) (x : Nat) (A B : Option Addr) (n c c2 : Nat) (w : World) (h : Dg w A n c D) (h2 : Dg w B (dig x).length c2 (dig x)) (hsm : n ≤ 100) (hsm2 : (dig x).length ≤ 100) :
    Calls Tryz.prog 120 #[.agg #[.bool false, .slice A n c], .agg #[.bool (decide (x ≠ 0)), .slice B (dig x).length c2]] w (RetBI w (decide (nv D < x)) (absd (nv D) x)) := by
  by_cases h0 : x = 0
  · subst h0
    have h3 := addP2_any D (dig 0) A B n c _ c2 w h h2 hsm hsm2
    rw [nv_dig, Nat.add_zero] at h3
    have e1 : decide (nv D < 0) = false := decide_eq_false (by omega)
    have e2 : absd (nv D) 0 = nv D := by unfold absd; rw [if_neg (by omega), Nat.sub_zero]
    rw [e1, e2]
    exact h3
  · rw [decide_eq_true h0]
    have h3 := addM2_any D (dig x) A B n c _ c2 w h h2 hsm hsm2
    rw [nv_dig] at h3
    exact h3
set_option maxRecDepth 100000 in
set_option maxHeartbeats 2000000 in
theorem sub2_any (D E : List Nat) (A B : Option Addr) (n c m c2 : Nat) (w : World) (h : Dg w A n c D) (h2 : Dg w B m c2 E) (hsm : n ≤ 100) (hsm2 : m ≤ 100) :
    Calls Tryz.prog 113 #[.agg #[.bool false, .slice A n c], .agg #[.bool false, .slice B m c2]] w (RetBI w (decide (nv D < nv E)) (absd (nv D) (nv E))) := by
  have HS := Lib.hid (show ∀ w', Keeps (((w.alloc (.cells #[.bool false, .slice A n c] 104)).alloc (.cells #[.bool false, .slice B m c2] 104)).alloc (.cells #[.bool false, .slice none 0 0] 104)) w' → w'.cell? ⟨w.heap.size, 0, none⟩ = some (.bool false) ∧ w'.frozen? ⟨w.heap.size, 0, none⟩ = false ∧ w'.cell? ⟨w.heap.size, 1, none⟩ = some (.slice A n c) ∧ w'.frozen? ⟨w.heap.size, 1, none⟩ = false ∧ w'.cell? ⟨w.heap.size + 1, 0, none⟩ = some (.bool false) ∧ w'.frozen? ⟨w.heap.size + 1, 0, none⟩ = false ∧ w'.cell? ⟨w.heap.size + 1, 1, none⟩ = some (.slice B m c2) ∧ w'.frozen? ⟨w.heap.size + 1, 1, none⟩ = false ∧ w'.cell? ⟨w.heap.size + 1 + 1, 0, none⟩ = some (.bool false) ∧ w'.frozen? ⟨w.heap.size + 1 + 1, 0, none⟩ = false ∧ w'.cell? ⟨w.heap.size + 1 + 1, 1, none⟩ = some (.slice none 0 0) ∧ w'.frozen? ⟨w.heap.size + 1 + 1, 1, none⟩ = false from fun w' hk => ⟨(hk.cell (p := ⟨w.heap.size, 0, none⟩) (by first | (simp; done) | (simp; omega))).trans (by simp [go_sem]), (hk.frozen (p := ⟨w.heap.size, 0, none⟩) (by first | (simp; done) | (simp; omega))).trans (by simp [go_sem]), (hk.cell (p := ⟨w.heap.size, 1, none⟩) (by first | (simp; done) | (simp; omega))).trans (by simp [go_sem]), (hk.frozen (p := ⟨w.heap.size, 1, none⟩) (by first | (simp; done) | (simp; omega))).trans (by simp [go_sem]), (hk.cell (p := ⟨w.heap.size + 1, 0, none⟩) (by first | (simp; done) | (simp; omega))).trans (by simp [go_sem]), (hk.frozen (p := ⟨w.heap.size + 1, 0, none⟩) (by first | (simp; done) | (simp; omega))).trans (by simp [go_sem]), (hk.cell (p := ⟨w.heap.size + 1, 1, none⟩) (by first | (simp; done) | (simp; omega))).trans (by simp [go_sem]), (hk.frozen (p := ⟨w.heap.size + 1, 1, none⟩) (by first | (simp; done) | (simp; omega))).trans (by simp [go_sem]), (hk.cell (p := ⟨w.heap.size + 1 + 1, 0, none⟩) (by first | (simp; done) | (simp; omega))).trans (by simp [go_sem]), (hk.frozen (p := ⟨w.heap.size + 1 + 1, 0, none⟩) (by first | (simp; done) | (simp; omega))).trans (by simp [go_sem]), (hk.cell (p := ⟨w.heap.size + 1 + 1, 1, none⟩) (by first | (simp; done) | (simp; omega))).trans (by simp [go_sem]), (hk.frozen (p := ⟨w.heap.size + 1 + 1, 1, none⟩) (by first | (simp; done) | (simp; omega))).trans (by simp [go_sem])⟩)
  have HB := Lib.hid (show Keeps w (((w.alloc (.cells #[.bool false, .slice A n c] 104)).alloc (.cells #[.bool false, .slice B m c2] 104)).alloc (.cells #[.bool false, .slice none 0 0] 104)) from (by (repeat (first | (with_reducible exact Keeps.refl _) | (with_reducible assumption) | (with_reducible refine Keeps.drewN ?_ _) | (with_reducible refine Keeps.drew ?_) | (with_reducible refine Keeps.alloc ?_ _) | (with_reducible refine Keeps.setNew ?_ ?_ _))) <;> (dsimp only; omega)))
  have hk0 := Keeps.refl (((w.alloc (.cells #[.bool false, .slice A n c] 104)).alloc (.cells #[.bool false, .slice B m c2] 104)).alloc (.cells #[.bool false, .slice none 0 0] 104))
  have HS2 := Lib.hid (show ∀ w', Keeps ((w.alloc (.cells #[.bool false, .slice A n c] 104)).alloc (.cells #[.bool false, .slice B m c2] 104)) w' → w'.cell? ⟨w.heap.size, 0, none⟩ = some (.bool false) ∧ w'.frozen? ⟨w.heap.size, 0, none⟩ = false ∧ w'.cell? ⟨w.heap.size, 1, none⟩ = some (.slice A n c) ∧ w'.frozen? ⟨w.heap.size, 1, none⟩ = false ∧ w'.cell? ⟨w.heap.size + 1, 0, none⟩ = some (.bool false) ∧ w'.frozen? ⟨w.heap.size + 1, 0, none⟩ = false ∧ w'.cell? ⟨w.heap.size + 1, 1, none⟩ = some (.slice B m c2) ∧ w'.frozen? ⟨w.heap.size + 1, 1, none⟩ = false from fun w' hk => ⟨(hk.cell (p := ⟨w.heap.size, 0, none⟩) (by first | (simp; done) | (simp; omega))).trans (by simp [go_sem]), (hk.frozen (p := ⟨w.heap.size, 0, none⟩) (by first | (simp; done) | (simp; omega))).trans (by simp [go_sem]), (hk.cell (p := ⟨w.heap.size, 1, none⟩) (by first | (simp; done) | (simp; omega))).trans (by simp [go_sem]), (hk.frozen (p := ⟨w.heap.size, 1, none⟩) (by first | (simp; done) | (simp; omega))).trans (by simp [go_sem]), (hk.cell (p := ⟨w.heap.size + 1, 0, none⟩) (by first | (simp; done) | (simp; omega))).trans (by simp [go_sem]), (hk.frozen (p := ⟨w.heap.size + 1, 0, none⟩) (by first | (simp; done) | (simp; omega))).trans (by simp [go_sem]), (hk.cell (p := ⟨w.heap.size + 1, 1, none⟩) (by first | (simp; done) | (simp; omega))).trans (by simp [go_sem]), (hk.frozen (p := ⟨w.heap.size + 1, 1, none⟩) (by first | (simp; done) | (simp; omega))).trans (by simp [go_sem])⟩)
  have HB2 := Lib.hid (show Keeps w ((w.alloc (.cells #[.bool false, .slice A n c] 104)).alloc (.cells #[.bool false, .slice B m c2] 104)) from (by (repeat (first | (with_reducible exact Keeps.refl _) | (with_reducible assumption) | (with_reducible refine Keeps.drewN ?_ _) | (with_reducible refine Keeps.drew ?_) | (with_reducible refine Keeps.alloc ?_ _) | (with_reducible refine Keeps.setNew ?_ ?_ _))) <;> (dsimp only; omega)))
  have hk02 := Keeps.refl ((w.alloc (.cells #[.bool false, .slice A n c] 104)).alloc (.cells #[.bool false, .slice B m c2] 104))
  have hW : Keeps (((w.alloc (.cells #[.bool false, .slice A n c] 104)).alloc (.cells #[.bool false, .slice B m c2] 104))) ((((w.alloc (.cells #[.bool false, .slice A n c] 104)).alloc (.cells #[.bool false, .slice B m c2] 104)).alloc (.cells #[.bool false, .slice none 0 0] 104))) := (Keeps.refl _).alloc _
  have HT := Lib.hid (fun w' hk => HS2.out w' (hW.trans hk))
  have HU := Lib.hid (fun w' u v hk => HS2.out _ ((hW.trans (w1 := w') hk).far2 (g := w.heap.size + 1 + 1) (by simp) u v))
  clear hW hk02 HS2
  have GN := Lib.hid (fun w' hk => (neg2_any E B m c2 w' (h2.keep (HB.out.trans hk)) (by omega)).mono fun e w1 h => RetBI.mono h hk)
  have GA := Lib.hid (fun A3 c3 w' (hk : Keeps ((((w.alloc (.cells #[.bool false, .slice A n c] 104)).alloc (.cells #[.bool false, .slice B m c2] 104)).alloc (.cells #[.bool false, .slice none 0 0] 104))) w') (hd : Dg w' A3 (dig (nv E)).length c3 (dig (nv E))) => (add2_any D (nv E) A A3 n c c3 w' (h.keep (HB.out.trans hk)) hd hsm (dig_le_len h2.2 h2.len hsm2)).mono fun e w1 h => RetBI.mono h hk)
  generalize absd (nv D) (nv E) = x at *
  generalize decide (nv D < nv E) = bb at *
  generalize nv E = y at *
  generalize decide (y ≠ 0) = b9 at *
  clear h h2
  go_enter Tryz.func113, Tryz.ntmps113
  go_wp2_with fail
  go_region_held3 (fun w' => w'.cell? ⟨w.heap.size, 0, none⟩ = some (.bool false) ∧ w'.frozen? ⟨w.heap.size, 0, none⟩ = false ∧ w'.cell? ⟨w.heap.size, 1, none⟩ = some (.slice A n c) ∧ w'.frozen? ⟨w.heap.size, 1, none⟩ = false ∧ w'.cell? ⟨w.heap.size + 1, 0, none⟩ = some (.bool false) ∧ w'.frozen? ⟨w.heap.size + 1, 0, none⟩ = false ∧ w'.cell? ⟨w.heap.size + 1, 1, none⟩ = some (.slice B m c2) ∧ w'.frozen? ⟨w.heap.size + 1, 1, none⟩ = false) (first | exact HT.out _ (by assumption) | exact HT.out _ (Keeps.drew (by assumption)) | exact HU.out _ _ _ (by assumption) | fail "KEEP")
    (first | ((go_at_call 121; (with_reducible refine (GN.out _ (by first | assumption | exact Keeps.drew (by assumption) | exact Keeps.drewN (by assumption) _)).mono ?_); intro e w3 hret; obtain ⟨A3, c3, rfl, hD3, hk, hF3⟩ := hret)) | ((go_at_call 120; (with_reducible refine (GA.out _ _ _ (by first | assumption | exact Keeps.drew (by assumption) | exact Keeps.drewN (by assumption) _) (by assumption)).mono ?_); intro e w4 hret; obtain ⟨A4, c4, rfl, hD4, hk, hF4⟩ := hret); obtain ⟨y0, y1, y2, y3, y4, y5, y6, y7, y8, y9, y10, y11⟩ := HS.out _ hk) | fail "ARM")
  go_wp2
  exact bodyPost_ret (v := .agg #[.bool bb, .slice A4 (dig x).length c4]) (by simp [results, Tryz.results113, go_sem, *]) rfl ⟨A4, c4, rfl, (hD4.far (hF4.ne (by simp)) _).far (hF4.ne (by simp)) _, (HB.out.trans hk).far2 (by omega) _ _, hF4.back HB.out⟩
theorem sgn_cmp (a b : Nat) : sgnI (decide (a < b)) (absd a b) = cmpN a b := by
  unfold sgnI absd cmpN
  by_cases h : a < b
  · rw [if_pos h, if_neg (by omega), if_pos (by simp [h]), if_pos h]
  · rw [if_neg h, if_neg h]
    by_cases h2 : a - b = 0
    · rw [if_pos h2, if_neg (by omega)]
    · rw [if_neg h2, if_neg (by simp [h]), if_pos (by omega)]
set_option maxRecDepth 100000 in
set_option maxHeartbeats 2000000 in
theorem cmp2_any (D E : List Nat) (A B : Option Addr) (n c m c2 : Nat) (w : World) (h : Dg w A n c D) (h2 : Dg w B m c2 E) (hsm : n ≤ 100) (hsm2 : m ≤ 100) :
    Calls Tryz.prog 99 #[.agg #[.bool false, .slice A n c], .agg #[.bool false, .slice B m c2]] w fun e w' => e = .returned (.int .i64 (cmpN (nv D) (nv E))) ∧ Keeps w w' := by
  have HS := Lib.hid (show ∀ w', Keeps ((w.alloc (.cells #[.bool false, .slice A n c] 104)).alloc (.cells #[.bool false, .slice B m c2] 104)) w' → w'.cell? ⟨w.heap.size, 0, none⟩ = some (.bool false) ∧ w'.frozen? ⟨w.heap.size, 0, none⟩ = false ∧ w'.cell? ⟨w.heap.size, 1, none⟩ = some (.slice A n c) ∧ w'.frozen? ⟨w.heap.size, 1, none⟩ = false ∧ w'.cell? ⟨w.heap.size + 1, 0, none⟩ = some (.bool false) ∧ w'.frozen? ⟨w.heap.size + 1, 0, none⟩ = false ∧ w'.cell? ⟨w.heap.size + 1, 1, none⟩ = some (.slice B m c2) ∧ w'.frozen? ⟨w.heap.size + 1, 1, none⟩ = false from fun w' hk => ⟨(hk.cell (p := ⟨w.heap.size, 0, none⟩) (by first | (simp; done) | (simp; omega))).trans (by simp [go_sem]), (hk.frozen (p := ⟨w.heap.size, 0, none⟩) (by first | (simp; done) | (simp; omega))).trans (by simp [go_sem]), (hk.cell (p := ⟨w.heap.size, 1, none⟩) (by first | (simp; done) | (simp; omega))).trans (by simp [go_sem]), (hk.frozen (p := ⟨w.heap.size, 1, none⟩) (by first | (simp; done) | (simp; omega))).trans (by simp [go_sem]), (hk.cell (p := ⟨w.heap.size + 1, 0, none⟩) (by first | (simp; done) | (simp; omega))).trans (by simp [go_sem]), (hk.frozen (p := ⟨w.heap.size + 1, 0, none⟩) (by first | (simp; done) | (simp; omega))).trans (by simp [go_sem]), (hk.cell (p := ⟨w.heap.size + 1, 1, none⟩) (by first | (simp; done) | (simp; omega))).trans (by simp [go_sem]), (hk.frozen (p := ⟨w.heap.size + 1, 1, none⟩) (by first | (simp; done) | (simp; omega))).trans (by simp [go_sem])⟩)
  have HB := Lib.hid (show Keeps w ((w.alloc (.cells #[.bool false, .slice A n c] 104)).alloc (.cells #[.bool false, .slice B m c2] 104)) from (by (repeat (first | (with_reducible exact Keeps.refl _) | (with_reducible assumption) | (with_reducible refine Keeps.drewN ?_ _) | (with_reducible refine Keeps.drew ?_) | (with_reducible refine Keeps.alloc ?_ _) | (with_reducible refine Keeps.setNew ?_ ?_ _))) <;> (dsimp only; omega)))
  have hk0 := Keeps.refl ((w.alloc (.cells #[.bool false, .slice A n c] 104)).alloc (.cells #[.bool false, .slice B m c2] 104))
  have GS := Lib.hid (fun w' hk => (sub2_any D E A B n c m c2 w' (h.keep (HB.out.trans hk)) (h2.keep (HB.out.trans hk)) hsm hsm2).mono fun e w1 h => RetBI.mono h hk)
  have hlen : (dig (absd (nv D) (nv E))).length ≤ 1000 := by
    have e1 := nv_lt h.2
    have e2 := nv_lt h2.2
    rw [h.len] at e1
    rw [h2.len] at e2
    unfold absd
    split
    · have := dig_length (Nat.lt_of_le_of_lt (Nat.sub_le (nv E) (nv D)) e2); omega
    · have := dig_length (Nat.lt_of_le_of_lt (Nat.sub_le (nv D) (nv E)) e1); omega
  have GG := Lib.hid (fun A3 c3 w' (hd : Dg w' A3 (dig (absd (nv D) (nv E))).length c3 (dig (absd (nv D) (nv E)))) => sign2_any (decide (nv D < nv E)) _ A3 _ c3 w' hd hlen)
  rw [nv_dig, sgn_cmp] at GG
  generalize absd (nv D) (nv E) = x at *
  generalize decide (nv D < nv E) = bb at *
  generalize cmpN (nv D) (nv E) = r at *
  clear h h2 hlen
  go_enter Tryz.func99, Tryz.ntmps99
  go_wp2_with (first | ((go_at_call 113; (with_reducible refine (GS.out _ (by first | assumption | exact Keeps.drew (by assumption) | exact Keeps.drewN (by assumption) _)).mono ?_); intro e w3 hret; obtain ⟨A3, c3, rfl, hD3, hk, hF3⟩ := hret)) | (go_at_call 112; (with_reducible refine (GG.out _ _ _ hD3).mono ?_); rintro e w1 ⟨rfl, hk1⟩) | fail "ARM")
  go_ret
  exact ⟨rfl, (HB.out.trans hk).trans hk1⟩
end

section
open Go.RowKit
attribute [local go_sem ↓] Go.wp_at_zero Go.wp_at_succ
set_option linter.unusedVariables false
set_option linter.unusedSimpArgs false
theorem lwide_any (n : Int) (w : World) : Calls Tryz.prog 70 #[.int .i64 n] w fun e w' => e = .returned (.bool (wideB n)) ∧ w = w' := by
  go_enter Tryz.func70, Tryz.ntmps70
  go_wp2
  all_goals (go_ret; refine ⟨ret_bool ?_, rfl⟩; unfold wideB inB; simp; omega)
theorem rwide23_any (n : Int) (w : World) : Calls Tryz.prog 96 #[.int .i64 n] w fun e w' => e = .returned (.bool (wideB n)) ∧ w = w' := by
  go_enter Tryz.func96, Tryz.ntmps96
  go_wp2
  all_goals (go_ret; refine ⟨ret_bool ?_, rfl⟩; unfold wideB inB; simp; omega)
set_option maxHeartbeats 400000 in
theorem lplus_any (x y z t : Int) (w : World) (x0 : -2305843009213693952 ≤ x) (x1 : x ≤ 2305843009213693952) (y0 : -2305843009213693952 ≤ y) (y1 : y ≤ 2305843009213693952) (z0 : -2305843009213693952 ≤ z) (z1 : z ≤ 2305843009213693952) (t0 : -2305843009213693952 ≤ t) (t1 : t ≤ 2305843009213693952) :
    Calls Tryz.prog 56 #[.agg #[.int .i64 x, .int .i64 y], .agg #[.int .i64 z, .int .i64 t]] w fun e w' => e = .returned (.agg #[.int .i64 (x + z), .int .i64 (y + t)]) ∧ Keeps w w' := by
  go_enter Tryz.func56, Tryz.ntmps56
  go_wp2_with fail
  exact bodyPost_ret (v := .agg #[.int .i64 (x + z), .int .i64 (y + t)]) (by simp [results, Tryz.results56, go_sem, *]) rfl ⟨rfl, (by (repeat (first | (with_reducible exact Keeps.refl _) | (with_reducible assumption) | (with_reducible refine Keeps.drewN ?_ _) | (with_reducible refine Keeps.drew ?_) | (with_reducible refine Keeps.alloc ?_ _) | (with_reducible refine Keeps.setNew ?_ ?_ _))) <;> (dsimp only; omega))⟩
set_option maxHeartbeats 400000 in
theorem lway_any (x y z t : Int) (w : World) (x0 : -2305843009213693952 ≤ x) (x1 : x ≤ 2305843009213693952) (y0 : -2305843009213693952 ≤ y) (y1 : y ≤ 2305843009213693952) (z0 : -2305843009213693952 ≤ z) (z1 : z ≤ 2305843009213693952) (t0 : -2305843009213693952 ≤ t) (t1 : t ≤ 2305843009213693952) :
    Calls Tryz.prog 71 #[.agg #[.int .i64 x, .int .i64 y], .agg #[.int .i64 z, .int .i64 t]] w fun e w' => e = .returned (.agg #[.int .i64 (z - x), .int .i64 (t - y)]) ∧ Keeps w w' := by
  go_enter Tryz.func71, Tryz.ntmps71
  go_wp2_with fail
  exact bodyPost_ret (v := .agg #[.int .i64 (z - x), .int .i64 (t - y)]) (by simp [results, Tryz.results71, go_sem, *]) rfl ⟨rfl, (by (repeat (first | (with_reducible exact Keeps.refl _) | (with_reducible assumption) | (with_reducible refine Keeps.drewN ?_ _) | (with_reducible refine Keeps.drew ?_) | (with_reducible refine Keeps.alloc ?_ _) | (with_reducible refine Keeps.setNew ?_ ?_ _))) <;> (dsimp only; omega))⟩
theorem mdrN_prod (a b c : Int) (hb : 0 < b) : mdrN a b c = dvr (a * b) c := by
  have e1 : mdrNeg a b c = mdrNeg (a * b) 1 c := by
    unfold mdrNeg
    have h1 : decide (b < 0) = false := decide_eq_false (by omega)
    have h2 : decide ((1 : Int) < 0) = false := by decide
    have h3 : decide (a * b < 0) = decide (a < 0) := by
      by_cases h : a < 0
      · rw [decide_eq_true h, decide_eq_true (Int.mul_neg_of_neg_of_pos h hb)]
      · rw [decide_eq_false h, decide_eq_false (by have := Int.mul_nonneg (show 0 ≤ a by omega) (show 0 ≤ b by omega); omega)]
    rw [h1, h2, h3]
  have e2 : a.natAbs * b.natAbs = (a * b).natAbs * (1 : Int).natAbs := by rw [Int.natAbs_mul]; simp
  have e3 : mdrQ a b c = mdrQ (a * b) 1 c := by unfold mdrQ; rw [e1, e2]
  have e4 : mdrB a b c = mdrB (a * b) 1 c := by unfold mdrB; rw [e3]
  unfold dvr mdrN
  rw [e3, e4]
def tipQ (n m : Pt) : Int := (n.1 + m.1) * (n.1 + m.1) + (n.2 + m.2) * (n.2 + m.2)
def tipB (n m : Pt) (v l : Int) : Bool := vP n && vP m && wideB v && decide (256 ≤ l) && decide (l ≤ 65536) && decide (tipQ n m ≠ 0) && decide ((256 * v) * (256 * v) ≤ l * l * tipQ n m)
def tipP (n m : Pt) (v l : Int) : Pt := if tipB n m v l = true then (dvr ((n.1 + m.1) * (v * v)) (2 * tipQ n m), dvr ((n.2 + m.2) * (v * v)) (2 * tipQ n m)) else pt0
theorem tip_no {n m : Pt} {v l : Int} (h : tipB n m v l = false) : vP n = false ∨ vP n = true ∧ vP m = false ∨ vP n = true ∧ vP m = true ∧ wideB v = false ∨ vP n = true ∧ vP m = true ∧ wideB v = true ∧ l < 256 ∨
    vP n = true ∧ vP m = true ∧ wideB v = true ∧ 256 ≤ l ∧ 65536 < l ∨ vP n = true ∧ vP m = true ∧ wideB v = true ∧ 256 ≤ l ∧ l ≤ 65536 ∧ tipQ n m = 0 ∨ vP n = true ∧ vP m = true ∧ wideB v = true ∧ 256 ≤ l ∧ l ≤ 65536 ∧ tipQ n m ≠ 0 ∧ l * l * tipQ n m < (256 * v) * (256 * v) := by
  unfold tipB at h
  revert h
  generalize l * l * tipQ n m = x
  generalize (256 * v) * (256 * v) = y
  cases vP n <;> cases vP m <;> cases wideB v <;> simp <;> omega
theorem tip_yes {n m : Pt} {v l : Int} (h : tipB n m v l = true) : vP n = true ∧ vP m = true ∧ wideB v = true ∧ 256 ≤ l ∧ l ≤ 65536 ∧ tipQ n m ≠ 0 ∧ (256 * v) * (256 * v) ≤ l * l * tipQ n m := by
  unfold tipB at h
  simp only [Bool.and_eq_true, decide_eq_true_eq] at h
  obtain ⟨⟨⟨⟨⟨⟨h1, h2⟩, h3⟩, h4⟩, h5⟩, h6⟩, h7⟩ := h
  exact ⟨h1, h2, h3, h4, h5, h6, h7⟩
/-- the numbers' sizes -/
theorem tip_bd (n m : Pt) (v l : Int) (hn : vP n = true) (hm : vP m = true) (hv : wideB v = true) (l0 : 256 ≤ l) (l1 : l ≤ 65536) :
    ∃ a b aa bb v2 l2 : Int, n.1 + m.1 = a ∧ n.2 + m.2 = b ∧ a * a = aa ∧ b * b = bb ∧ v * v = v2 ∧ l * l = l2 ∧ (-2097152 ≤ a ∧ a ≤ 2097152) ∧ (-2097152 ≤ b ∧ b ≤ 2097152) ∧ (0 ≤ aa ∧ aa ≤ 4398046511104) ∧ (0 ≤ bb ∧ bb ≤ 4398046511104) ∧ (1 ≤ v2 ∧ v2 ≤ 268435456) ∧ (65536 ≤ l2 ∧ l2 ≤ 4294967296) ∧ (1 ≤ v ∧ v ≤ 16384) ∧
      (-562949953421312 ≤ a * v2 ∧ a * v2 ≤ 562949953421312) ∧ (-562949953421312 ≤ b * v2 ∧ b * v2 ≤ 562949953421312) ∧ (-34359738368 ≤ a * v ∧ a * v ≤ 34359738368) ∧ (-34359738368 ≤ b * v ∧ b * v ≤ 34359738368) ∧ tipQ n m = aa + bb := by
  have h1 := (vP_bd hn).2.2
  have h2 := (vP_bd hm).2.2
  have h3 := (inB_iff _ _ _).1 hv
  have q : ∀ x y : Int, ∀ k j : Nat, x.natAbs ≤ k → y.natAbs ≤ j → (x * y).natAbs ≤ k * j := fun x y k j hx hy => by rw [Int.natAbs_mul]; exact Nat.mul_le_mul hx hy
  have p : ∀ x : Int, 0 ≤ x * x := fun x => by rcases Int.le_total 0 x with h | h; exact Int.mul_nonneg h h; exact Int.mul_nonneg_of_nonpos_of_nonpos h h
  refine ⟨n.1 + m.1, n.2 + m.2, _, _, v * v, l * l, rfl, rfl, rfl, rfl, rfl, rfl, ⟨by omega, by omega⟩, ⟨by omega, by omega⟩, ⟨p _, ?_⟩, ⟨p _, ?_⟩, ?_, ?_, ⟨by omega, by omega⟩, ?_, ?_, ?_, ?_, rfl⟩
  · have := q (n.1 + m.1) (n.1 + m.1) 2097152 2097152 (by omega) (by omega); have := p (n.1 + m.1); omega
  · have := q (n.2 + m.2) (n.2 + m.2) 2097152 2097152 (by omega) (by omega); have := p (n.2 + m.2); omega
  · have := q v v 16384 16384 (by omega) (by omega); have := Int.mul_pos (show 0 < v by omega) (show 0 < v by omega); omega
  · have := q l l 65536 65536 (by omega) (by omega); have := p l; have := Int.mul_le_mul l0 l0 (by omega) (by omega); omega
  · have := q (n.1 + m.1) (v * v) 2097152 268435456 (by omega) (by have := q v v 16384 16384 (by omega) (by omega); omega); omega
  · have := q (n.2 + m.2) (v * v) 2097152 268435456 (by omega) (by have := q v v 16384 16384 (by omega) (by omega); omega); omega
  · have := q (n.1 + m.1) v 2097152 16384 (by omega) (by omega); omega
  · have := q (n.2 + m.2) v 2097152 16384 (by omega) (by omega); omega
set_option maxRecDepth 100000 in
set_option maxHeartbeats 1000000 in
theorem tip1_any (x v q : Int) (g1 g2 : Nat) (w : World) (h1 : w.cell? ⟨g1, 0, none⟩ = some (.int .i64 v)) (h2 : w.cell? ⟨g2, 0, none⟩ = some (.int .i64 q))
    (b1 : -9223372036854775808 ≤ x * v ∧ x * v ≤ 9223372036854775807) (b2 : -9223372036854775808 ≤ x * v * v ∧ x * v * v ≤ 9223372036854775807) (b3 : 0 ≤ q ∧ q ≤ 1152921504606846976) :
    Calls Tryz.prog 73 #[.int .i64 x, .pointer (some ⟨g1, 0, none⟩), .pointer (some ⟨g2, 0, none⟩)] w fun e w' => e = .returned (.int .i64 (dvr (x * (v * v)) (2 * q))) ∧ Keeps w w' := by
  have KD := Lib.hid (fun w => dvr_any (x * v * v) (2 * q) w b2.1 b2.2 (by omega) (by omega))
  rw [Int.mul_assoc x v v] at KD b2
  have e1 : IntKind.i64.wrap (x * v) = x * v := i64_in _ (by omega)
  have e2 : IntKind.i64.wrap (x * v * v) = x * (v * v) := (i64_in _ (by rw [Int.mul_assoc]; omega)).trans (Int.mul_assoc _ _ _)
  have e3 : IntKind.i64.wrap (2 * q) = 2 * q := i64_in _ (by omega)
  have hk0 := Keeps.refl w
  generalize dvr (x * (v * v)) (2 * q) = r at *
  clear b1 b2 b3
  go_enter Tryz.func73, Tryz.ntmps73
  go_wp2_with (first | (go_at_call 65; (with_reducible refine (keepk (KD.out _) hk0).mono ?_); rintro e w1 ⟨rfl, hk⟩) | fail "ARM")
  go_ret
  exact ⟨rfl, hk⟩
end
end Go.Proofs.YtdodgnpjlicnoaaGreat
