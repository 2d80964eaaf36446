/- Contracts of reference 16: copied, Orient. -/
import Derived.Test.YtihmhpleiefodaaQf
namespace Go.Proofs.Ytihmhpleiefodaa
section
open Go.RowKit
attribute [local go_sem ↓] Go.wp_at_zero Go.wp_at_succ
set_option linter.unusedVariables false
set_option linter.unusedSimpArgs false
set_option maxRecDepth 100000 in
set_option maxHeartbeats 2000000 in
theorem ring_any (A B : Option Addr) (n c c2 : Nat) (L : List Pt) (w : World) (h : Pts w A n c L) (h2 : Pts w B n c2 L) :
    Calls Try.prog 25 #[.slice A n c, .slice B n c2] w fun e w' => e = .returned (.bool true) ∧ Keeps w w' := by
  have g3 := ptGuard
  have g5 := ptNeq
  have hmx := h.max
  have HA := Lib.hid h.2.2.2.2
  have HB := Lib.hid h2.2.2.2.2
  clear h h2
  go_enter Try.func25, Try.ntmps25
  go_wp2_with fail
  go_loopw [5] (fun i wr => ∃ j : Nat, j ≤ n ∧ i = .int .i64 j ∧ Keeps w wr) (fun i _ => n - (intOf i).toNat)
  case atStart => exact ⟨0, by omega, rfl, Keeps.refl _⟩
  case round =>
    obtain ⟨j, hj, rfl, hkw⟩ := hrel
    by_cases hlt : j < n
    · obtain ⟨b1, o1, rfl, hb1, hc1⟩ := HA.out (by omega)
      obtain ⟨b2, o2, rfl, hb2, hc2⟩ := HB.out (by omega)
      obtain ⟨c0, c1⟩ := (hc1 j hlt).keep hb1 hkw
      obtain ⟨d0, d1⟩ := (hc2 j hlt).keep hb2 hkw
      clear hc1 hc2 HA HB
      have hlt2 : (j : Int) < n := by omega
      generalize L.getD j pt0 = y at *
      have q1 : (y.1 == y.1) = true := beq_self_eq_true _
      have q2 : (y.2 == y.2) = true := beq_self_eq_true _
      go_wp2_with fail
      go_quiet (fail)
      go_wp2_with fail
      go_roundw
      case rel => exact ⟨j + 1, by omega, by go_num, hkw.drewN _⟩
      case measure => simp [intOf]; omega
    · obtain rfl : j = n := by omega
      go_wp2_with fail
      go_ret
      exact ⟨rfl, hkw⟩
end

section
open Go.RowKit
attribute [local go_sem ↓] Go.wp_at_zero Go.wp_at_succ
set_option linter.unusedVariables false
set_option linter.unusedSimpArgs false
theorem takeP_succ (o : List Pt) (k : Nat) (h : k < o.length) : o.take (k + 1) = o.take k ++ [o.getD k pt0] := by
  rw [List.take_succ_eq_append_getElem h, List.getD_eq_getElem?_getD, List.getElem?_eq_getElem h]; rfl
theorem revT_get (L : List Pt) (q : Nat) (h1 : 1 ≤ q) (h2 : q < L.length) : (revT L).getD q pt0 = L.getD (L.length - q) pt0 := by
  unfold revT
  rw [List.getD_eq_getElem?_getD, List.getElem?_append_right (by simp; omega), List.getElem?_reverse (by simp; omega), List.getElem?_drop, List.getD_eq_getElem?_getD]
  congr 2
  simp; omega
theorem two_newA (w : World) (s : Pt) (t : TypeId) (H : Nat) (hH : w.heap.size = H) : ∀ j x, (ptV s)[j]? = some x → (w.alloc (.cells (ptV s).toArray t)).cell? ((⟨H, 0, none⟩ : Addr).add j) = some x := hH ▸ two_new w s t
end
end Go.Proofs.Ytihmhpleiefodaa
