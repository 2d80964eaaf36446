/- Contracts of reference 02: Sign. -/
import Derived.Test.YtjfimlcljbdglaaN15
namespace Go.Proofs.Ytjfimlcljbdglaa
open Go.RowKit
set_option linter.unusedVariables false
set_option linter.unusedSimpArgs false

def sgnI (b : Bool) (x : Nat) : Int := if x = 0 then 0 else if b then -1 else 1
set_option maxRecDepth 100000 in
set_option maxHeartbeats 2000000 in
theorem sign2_any (b : Bool) (D : List Nat) (A : Option Addr) (n c : Nat) (w : World) (h : Dg w A n c D) (hsm : n ≤ 1000) :
    Calls Try.prog 79 #[.agg #[.bool b, .slice A n c]] w fun e w' => e = .returned (.int .i64 (sgnI b (nv D))) ∧ Keeps w w' := by
  have HS := Lib.hid (show ∀ w', Keeps (w.alloc (.cells #[.bool b, .slice A n c] 86)) w' → w'.cell? ⟨w.heap.size, 0, none⟩ = some (.bool b) ∧ w'.frozen? ⟨w.heap.size, 0, none⟩ = false ∧ w'.cell? ⟨w.heap.size, 1, none⟩ = some (.slice A n c) ∧ w'.frozen? ⟨w.heap.size, 1, none⟩ = false from fun w' hk => ⟨(hk.cell (p := ⟨w.heap.size, 0, none⟩) (by first | (simp; done) | (simp; omega))).trans (by simp [go_sem]), (hk.frozen (p := ⟨w.heap.size, 0, none⟩) (by first | (simp; done) | (simp; omega))).trans (by simp [go_sem]), (hk.cell (p := ⟨w.heap.size, 1, none⟩) (by first | (simp; done) | (simp; omega))).trans (by simp [go_sem]), (hk.frozen (p := ⟨w.heap.size, 1, none⟩) (by first | (simp; done) | (simp; omega))).trans (by simp [go_sem])⟩)
  have HB := Lib.hid (show Keeps w (w.alloc (.cells #[.bool b, .slice A n c] 86)) from (by (repeat (first | (with_reducible exact Keeps.refl _) | (with_reducible assumption) | (with_reducible refine Keeps.drewN ?_ _) | (with_reducible refine Keeps.drew ?_) | (with_reducible refine Keeps.alloc ?_ _) | (with_reducible refine Keeps.setNew ?_ ?_ _))) <;> (dsimp only; omega)))
  have hk0 := Keeps.refl (w.alloc (.cells #[.bool b, .slice A n c] 86))
  have GW := Lib.hid (fun w' hk => (new_any b D A n c w' (h.keep (HB.out.trans hk)) hsm).mono fun e w1 h => RetBI.mono h hk)
  by_cases h0 : nv D = 0
  · have e1 : (b && decide (nv D ≠ 0)) = false := by rw [h0]; simp
    rw [show sgnI b (nv D) = 0 by unfold sgnI; rw [if_pos h0]]
    rw [e1, h0] at GW
    unfold RetBI at GW
    rw [dig_zero, List.length_nil] at GW
    clear h h0 e1
    go_enter Try.func79, Try.ntmps79
    go_wp2_with ((go_at_call 82; (with_reducible refine (GW.out _ (by first | assumption | exact Keeps.drew (by assumption) | exact Keeps.drewN (by assumption) _)).mono ?_); intro e w3 hret; obtain ⟨A3, c3, rfl, hD3, hk, hF3⟩ := hret); obtain ⟨y0, y1, y2, y3⟩ := HS.out _ hk)
    go_ret
    exact ⟨rfl, HB.out.trans (by (repeat (first | (with_reducible exact Keeps.refl _) | (with_reducible assumption) | (with_reducible refine Keeps.drewN ?_ _) | (with_reducible refine Keeps.drew ?_) | (with_reducible refine Keeps.alloc ?_ _) | (with_reducible refine Keeps.setNew ?_ ?_ _))) <;> (dsimp only; omega))⟩
  · have e1 : (b && decide (nv D ≠ 0)) = b := by simp [h0]
    obtain ⟨k, hk, hk0⟩ : ∃ k, (dig (nv D)).length = k ∧ 0 < k := ⟨_, rfl, dig_one_le (Nat.pos_of_ne_zero h0) rfl⟩
    rw [e1] at GW
    unfold RetBI at GW
    rw [hk] at GW
    cases b
    · rw [show sgnI false (nv D) = 1 by unfold sgnI; rw [if_neg h0]; rfl]
      clear h h0 e1 hk
      go_enter Try.func79, Try.ntmps79
      go_wp2_with ((go_at_call 82; (with_reducible refine (GW.out _ (by first | assumption | exact Keeps.drew (by assumption) | exact Keeps.drewN (by assumption) _)).mono ?_); intro e w3 hret; obtain ⟨A3, c3, rfl, hD3, hk, hF3⟩ := hret); obtain ⟨y0, y1, y2, y3⟩ := HS.out _ hk)
      go_ret
      exact ⟨rfl, HB.out.trans (by (repeat (first | (with_reducible exact Keeps.refl _) | (with_reducible assumption) | (with_reducible refine Keeps.drewN ?_ _) | (with_reducible refine Keeps.drew ?_) | (with_reducible refine Keeps.alloc ?_ _) | (with_reducible refine Keeps.setNew ?_ ?_ _))) <;> (dsimp only; omega))⟩
    · rw [show sgnI true (nv D) = -1 by unfold sgnI; rw [if_neg h0]; rfl]
      clear h h0 e1 hk
      go_enter Try.func79, Try.ntmps79
      go_wp2_with ((go_at_call 82; (with_reducible refine (GW.out _ (by first | assumption | exact Keeps.drew (by assumption) | exact Keeps.drewN (by assumption) _)).mono ?_); intro e w3 hret; obtain ⟨A3, c3, rfl, hD3, hk, hF3⟩ := hret); obtain ⟨y0, y1, y2, y3⟩ := HS.out _ hk)
      go_ret
      exact ⟨rfl, HB.out.trans (by (repeat (first | (with_reducible exact Keeps.refl _) | (with_reducible assumption) | (with_reducible refine Keeps.drewN ?_ _) | (with_reducible refine Keeps.drew ?_) | (with_reducible refine Keeps.alloc ?_ _) | (with_reducible refine Keeps.setNew ?_ ?_ _))) <;> (dsimp only; omega))⟩
end Go.Proofs.Ytjfimlcljbdglaa
