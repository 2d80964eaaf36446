/- Contracts of reference 02: New. -/
import Derived.Test.YtjfimlcljbdglaaN12
namespace Go.Proofs.Ytjfimlcljbdglaa
open Go.RowKit
set_option linter.unusedVariables false
set_option linter.unusedSimpArgs false

/-- An api.Int in new memory. -/
def RetBI (w0 : World) (b : Bool) (x : Nat) (e : Ending) (w' : World) : Prop :=
  ∃ A c, e = .returned (.agg #[.bool b, .slice A (dig x).length c]) ∧ Dg w' A (dig x).length c (dig x) ∧ Keeps w0 w' ∧ Fr w0 A
theorem RetBI.mono {w0 w1 w' : World} {b : Bool} {x : Nat} {e : Ending} (h : RetBI w1 b x e w') (hk : Keeps w0 w1) : RetBI w0 b x e w' := by
  obtain ⟨A, c, he, hd, hk1, hf⟩ := h
  exact ⟨A, c, he, hd, hk.trans hk1, hf.back hk⟩
theorem Fr.ne {w : World} {A : Option Addr} {g : Nat} (h : Fr w A) (hg : g < w.heap.size) : ∀ a, A = some a → a.block ≠ g := fun a e h2 => by have := h a e; omega
theorem Keeps.far2 {w w2 : World} {g : Nat} (hk : Keeps w w2) (hg : w.heap.size ≤ g) (u v : Value) : Keeps w ((w2.setCell ⟨g, 0, none⟩ u).setCell ⟨g, 1, none⟩ v) :=
  (hk.setNew hg u).setNew hg v
set_option maxRecDepth 100000 in
set_option maxHeartbeats 1000000 in
theorem new_any (neg : Bool) (D : List Nat) (A : Option Addr) (n c : Nat) (w : World) (h : Dg w A n c D) (hsm : n ≤ 1000) :
    Calls Try.prog 82 #[.bool neg, .slice A n c] w (RetBI w (neg && decide (nv D ≠ 0)) (nv D)) := by
  have HS := Lib.hid (show ∀ w', Keeps (w.alloc (.cells #[.bool false, .slice none 0 0] 86)) w' → w'.cell? ⟨w.heap.size, 0, none⟩ = some (.bool false) ∧ w'.frozen? ⟨w.heap.size, 0, none⟩ = false ∧ w'.cell? ⟨w.heap.size, 1, none⟩ = some (.slice none 0 0) ∧ w'.frozen? ⟨w.heap.size, 1, none⟩ = false from fun w' hk => ⟨(hk.cell (p := ⟨w.heap.size, 0, none⟩) (by first | (simp; done) | (simp; omega))).trans (by simp [go_sem]), (hk.frozen (p := ⟨w.heap.size, 0, none⟩) (by first | (simp; done) | (simp; omega))).trans (by simp [go_sem]), (hk.cell (p := ⟨w.heap.size, 1, none⟩) (by first | (simp; done) | (simp; omega))).trans (by simp [go_sem]), (hk.frozen (p := ⟨w.heap.size, 1, none⟩) (by first | (simp; done) | (simp; omega))).trans (by simp [go_sem])⟩)
  have HB := Lib.hid (show Keeps w (w.alloc (.cells #[.bool false, .slice none 0 0] 86)) from (by (repeat (first | (with_reducible exact Keeps.refl _) | (with_reducible assumption) | (with_reducible refine Keeps.drewN ?_ _) | (with_reducible refine Keeps.drew ?_) | (with_reducible refine Keeps.alloc ?_ _) | (with_reducible refine Keeps.setNew ?_ ?_ _))) <;> (dsimp only; omega)))
  have hk0 := Keeps.refl (w.alloc (.cells #[.bool false, .slice none 0 0] 86))
  have GN := Lib.hid (normalize_any D A n c _ (h.keep HB.out) (by omega))
  obtain ⟨k, hk⟩ : ∃ k, (dig (nv D)).length = k := ⟨_, rfl⟩
  unfold RetDg at GN
  unfold RetBI
  rw [hk] at GN
  rw [hk]
  have hk0' : k = 0 ↔ nv D = 0 := by
    rw [← hk]; exact ⟨fun e => dig_nil.1 (List.eq_nil_of_length_eq_zero e), fun e => by rw [dig_nil.2 e]; rfl⟩
  have hb : Hid ((neg && decide (nv D ≠ 0)) = (neg && decide (0 < k))) := by
    unfold Hid; congr 1; rw [Bool.eq_iff_iff, decide_eq_true_iff, decide_eq_true_iff]; omega
  rw [hb.out]
  clear hk hk0' h
  have hF' := fun {A : Option Addr} (h : Fr (w.alloc (.cells #[.bool false, .slice none 0 0] 86)) A) => h.ne (g := w.heap.size) (by simp)
  cases neg
  · go_enter Try.func82, Try.ntmps82
    go_wp2_with (go_at_call 85; (with_reducible refine GN.out.mono ?_); intro e w2 hret; obtain ⟨A2, c2, rfl, hD2, hk, hF2⟩ := hret; have hk := hk; obtain ⟨y0, y1, y2, y3⟩ := HS.out _ hk)
    have hkk := HB.out.trans hk
    exact bodyPost_ret (v := .agg #[.bool false, .slice A2 k c2]) (by simp [results, Try.results82, go_sem, *]) rfl ⟨A2, c2, by simp, (hD2.far (hF' hF2) _).far (hF' hF2) _, hkk.far2 (Nat.le_refl _) _ _, hF2.back HB.out⟩
  · by_cases h0 : 0 < k
    all_goals
      go_enter Try.func82, Try.ntmps82
      go_wp2_with (go_at_call 85; (with_reducible refine GN.out.mono ?_); intro e w2 hret; obtain ⟨A2, c2, rfl, hD2, hk, hF2⟩ := hret; have hk := hk; obtain ⟨y0, y1, y2, y3⟩ := HS.out _ hk)
      have hkk := HB.out.trans hk
      exact bodyPost_ret (v := .agg #[.bool (decide (0 < k)), .slice A2 k c2]) (by simp [results, Try.results82, go_sem, *]) rfl ⟨A2, c2, by simp, (hD2.far (hF' hF2) _).far (hF' hF2) _, hkk.far2 (Nat.le_refl _) _ _, hF2.back HB.out⟩
end Go.Proofs.Ytjfimlcljbdglaa
