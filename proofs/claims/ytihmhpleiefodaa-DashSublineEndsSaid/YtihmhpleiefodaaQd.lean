/- Contracts of polygon.DoubleArea, slices.Clone and slices.Reverse for points, polygon.Orient. -/
import Derived.Test.YtihmhpleiefodaaQb
import Derived.Test.YtihmhpleiefodaaRo
import Derived.Deep.RegionHeld3
import Derived.IntWalk
import Derived.Lib.SliceRun
namespace Go.Proofs.Ytihmhpleiefodaa
section
open Go.RowKit
attribute [local go_sem ↓] Go.wp_at_zero Go.wp_at_succ
set_option linter.unusedVariables false
set_option linter.unusedSimpArgs false
theorem areaTo_j (L : List Pt) (j m : Nat) (h : (j + 1) % L.length = m) : areaTo L (j + 1) = areaTo L j + crP (L.getD j pt0) (L.getD m pt0) := by
  rw [areaTo, nxt, h]
end

section
open Go.RowKit
attribute [local go_sem ↓] Go.wp_at_zero Go.wp_at_succ
set_option linter.unusedVariables false
set_option linter.unusedSimpArgs false
theorem area_no {L : List Pt} (h : validL L = false) : area L = 0 := by unfold area; rw [if_neg (by rw [h]; simp)]
theorem area_yes {L : List Pt} (h : validL L = true) : area L = areaTo L L.length ∧ L.length ≤ 4096 := by
  refine ⟨by unfold area; rw [if_pos h], ?_⟩
  unfold validL at h
  simp at h
  exact h.1
theorem area_bd (L : List Pt) : -9007199254740992 ≤ area L ∧ area L ≤ 9007199254740992 := by
  cases h : validL L with
  | false => rw [area_no h]; omega
  | true =>
    obtain ⟨e, hl⟩ := area_yes h
    have := areaTo_bd L L.length
    rw [e]; omega
set_option maxRecDepth 100000 in
set_option maxHeartbeats 1000000 in
/-- slices.Clone of points: a row of the call's own. -/
theorem clone_any (A : Option Addr) (n c : Nat) (L : List Pt) (w : World) (h : Pts w A n c L) (hn : n ≤ 1000000000000) :
    Calls Try.prog 55 #[.slice A n c] w fun e w' => ∃ v, e = .returned v ∧ w'.ownsRow w.heap.size 50 2 v n (rowP L) ∧ Keeps w w' := by
  obtain ⟨i0, hi, hz0, hz1, hz2⟩ := info_parts pt_info
  have hl := h.1
  have hPX := Lib.hid h.2.2.2.2
  have hq := fun w A => Go.Lib.run_eql_slice_nil (P := Try.prog) w 22 50 A n c 0 0 Try.underlying22
  cases A with
  | none =>
    obtain rfl : n = 0 := by
      by_cases h0 : 0 < n
      · obtain ⟨b, o, e, _⟩ := hPX.out h0; cases e
      · omega
    obtain rfl : L = [] := List.length_eq_zero_iff.1 hl
    clear h
    go_enter Try.func55, Try.ntmps55
    go_wp2_with fail
    go_ret
    exact ⟨_, rfl, World.ownsRow_nil _ _ _ _, Keeps.refl _⟩
  | some ad =>
    have hnews : ∀ w', Keeps w w' → ∀ j u, (rowP L)[j]? = some u → w'.cell? (ad.add j) = some u := by
      intro w' hk j u hu
      have hj := (List.getElem?_eq_some_iff.1 hu).1
      rw [rowP_length, hl] at hj
      obtain ⟨b, o, e, hb, hx⟩ := hPX.out (by omega)
      obtain rfl : ad = ⟨b, o, none⟩ := by simpa using e
      have hq : j = j / 2 * 2 + j % 2 := by omega
      have hm : j % 2 < 2 := Nat.mod_lt _ (by omega)
      rw [hq, rowP_get L (j / 2) (j % 2) (by omega) hm] at hu
      obtain ⟨q0, q1⟩ := (hx (j / 2) (by omega)).keep hb hk
      rw [Addr.add_lit, hq]
      rcases (show j % 2 = 0 ∨ j % 2 = 1 by omega) with h2 | h2
      · rw [h2] at hu ⊢
        rw [Nat.add_zero]
        simp [ptV] at hu
        rw [← hu]; exact q0
      · rw [h2] at hu ⊢
        simp [ptV] at hu
        rw [← hu, ← Nat.add_assoc]; exact q1
    have hNews := Lib.hid hnews
    clear h hnews
    go_enter Try.func55, Try.ntmps55
    go_wp2_with (at_builtin; refine wpList_append_own _ rfl _ _ 22 rfl w.heap.size 50 i0 (.agg #[.int .i64 0, .int .i64 0]) 2 16 Try.underlying22 hi hz0 hz1 hz2 rfl (by decide) _ 0 [] rfl (World.ownsRow_lit w #[] 0 (Nat.le_refl _) (by unfold maxLen; omega) (by simp)) ad n c (rowP L) rfl (by rw [rowP_length, hl]) (hNews.out _ ((Keeps.refl _).alloc _)) (oneCell_rowP L) (by unfold maxLen; omega) (by omega) (by simp) ?_; intro v1 w1 hown1 hgrow1 hz9; clear hz9; have hk1 : Keeps w w1 := Below.grown (Keeps.alloc (Keeps.refl w) _) hgrow1 (by simp) (fun k hk => by simp [Act.eval, Value.ownBlock] at hk; omega); clear hgrow1; rw [List.nil_append, Nat.zero_add] at hown1)
    go_ret
    exact ⟨_, rfl, hown1, hk1⟩
end
end Go.Proofs.Ytihmhpleiefodaa
