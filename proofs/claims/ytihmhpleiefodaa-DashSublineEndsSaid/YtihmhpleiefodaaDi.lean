/- Contracts of (measured).cut and of the function in it. -/
import Derived.Test.YtihmhpleiefodaaDh
namespace Go.Proofs.Ytihmhpleiefodaa
open Go.RowKit Go.Shelf
attribute [local go_sem ↓] Go.wp_at_zero Go.wp_at_succ
set_option linter.unusedVariables false
set_option linter.unusedSimpArgs false
/-- A point is appended unless it equals the last one. -/
def addL (O : List Pt) (p : Pt) : List Pt := if O.getD (O.length - 1) pt0 = p then O else O ++ [p]
theorem addL_pos {O : List Pt} {p : Pt} (h : 0 < O.length) : 0 < (addL O p).length := by
  unfold addL
  split
  · exact h
  · simp
theorem addL_len (O : List Pt) (p : Pt) : (addL O p).length ≤ O.length + 1 := by unfold addL; split <;> simp
/-- The box of 'out' and its row. -/
def OutB (w : World) (g B : Nat) (O : List Pt) : Prop := ∃ r cap, BoxN w g 22 #[.slice (some ⟨r, 0, none⟩) O.length cap] ∧ w.ownsRow B 50 2 (.slice (some ⟨r, 0, none⟩) O.length cap) O.length (rowP O)
theorem OutB.keep {w w' : World} {g B : Nat} {O : List Pt} (h : OutB w g B O) (hk : Keeps w w') : OutB w' g B O := by
  obtain ⟨r, cap, h1, h2⟩ := h
  exact ⟨r, cap, h1.keep hk, row_keep h2 hk⟩
set_option maxRecDepth 100000 in
set_option maxHeartbeats 2000000 in
theorem addp_any (g B : Nat) (O : List Pt) (p : Pt) (w : World) (h : OutB w g B O) (hO : 0 < O.length) (hn : O.length ≤ 1000000000) (hB : B ≤ w.heap.size) :
    Calls Try.prog 57 #[ptA p, .pointer (some ⟨g, 0, none⟩)] w fun e w' => (∃ v, e = .returned v) ∧ OutB w' g B (addL O p) ∧ w.heap.size ≤ w'.heap.size ∧ ∀ w0, Keeps w0 w → w0.heap.size ≤ B → w0.heap.size ≤ g → Keeps w0 w' := by
  obtain ⟨r, cap, hb, hown⟩ := h
  obtain ⟨i0, hi, hz0, hz1, hz2⟩ := info_parts pt_info
  have hgl := hb.lt
  have hbk := row_base hown
  have hrl := (hown.lt r (by simp [Value.ownBlock])).2
  obtain ⟨q, hq⟩ : ∃ q : Nat, (O.length : Int) - 1 = q := ⟨O.length - 1, by omega⟩
  have hq2 : O.length - 1 = q := by omega
  have hwq : IntKind.i64.wrap (q : Int) = q := i64_in _ (by omega)
  have hqn : (q : Int) < O.length := by omega
  have hA := hb.alloc (.cells #[.int .i64 p.1, .int .i64 p.2] 50)
  have hR := row_keep hown ((Keeps.refl w).alloc (.cells #[.int .i64 p.1, .int .i64 p.2] 50))
  have bp := BoxN.new w 50 #[.int .i64 p.1, .int .i64 p.2]
  have cc := fun i (hi : i < O.length * 2) => (rowAt hR i hi).2.1
  have rp : ∀ q i, q < O.length → i < 2 → (w.alloc (.cells #[.int .i64 p.1, .int .i64 p.2] 50)).cell? ⟨r, q * 2 + i, none⟩ = (ptV (O.getD q pt0))[i]? := fun q i hk hi => (cc (q * 2 + i) (by omega)).trans (rowP_get O q i (by omega) hi)
  have c0 := rp q 0 (by omega) (by omega)
  have c1 := rp q 1 (by omega) (by omega)
  rw [Nat.add_zero] at c0
  have y0 : (w.alloc (.cells #[.int .i64 p.1, .int .i64 p.2] 50)).cell? ⟨g, 0, none⟩ = some (.slice (some ⟨r, 0, none⟩) O.length cap) := by simpa using hA.cell 0
  have y2 : (w.alloc (.cells #[.int .i64 p.1, .int .i64 p.2] 50)).cell? ⟨w.heap.size, 0, none⟩ = some (.int .i64 p.1) := (bp.cell 0).trans rfl
  have y3 : (w.alloc (.cells #[.int .i64 p.1, .int .i64 p.2] 50)).cell? ⟨w.heap.size, 1, none⟩ = some (.int .i64 p.2) := (bp.cell 1).trans rfl
  have hk0 := (Keeps.refl w).alloc (.cells #[.int .i64 p.1, .int .i64 p.2] 50)
  have hs0 : (w.alloc (.cells #[.int .i64 p.1, .int .i64 p.2] 50)).heap.size = w.heap.size + 1 := by simp
  have hL := Lib.hid (show O.getD (O.length - 1) pt0 = O.getD q pt0 by rw [hq2])
  have hcap := (own_slice hown hO)
  clear hq2 cc rp hown hb
  unfold ptA
  obtain ⟨p0, p1⟩ := p
  dsimp only at *
  generalize hl : O.getD q pt0 = l at *
  replace hl := Lib.hid hl
  obtain ⟨l0, l1⟩ := l
  simp only [ptV, List.getElem?_cons_zero, List.getElem?_cons_succ] at c0 c1
  have hP := fun w => ptNeq l0 l1 p0 p1 w
  have hG := ptGuard
  go_enter Try.func57, Try.ntmps57
  by_cases he : l0 = p0 ∧ l1 = p1
  · obtain ⟨rfl, rfl⟩ := he
    simp only [beq_self_eq_true, Bool.and_self, Bool.not_true] at hP
    have hE : addL O (l0, l1) = O := by unfold addL; rw [if_pos hL.out]
    rw [hE]
    go_wp2_with fail
    go_quiet (fail)
    go_wp2_with fail
    go_end0
    exact ⟨⟨_, rfl⟩, ⟨r, cap, hA.keep ((Keeps.refl _).drewN nq), row_keep hR ((Keeps.refl _).drewN nq)⟩, by simp, fun w0 h1 _ _ => (h1.alloc _).drewN _⟩
  · rw [show (!((l0 == p0) && (l1 == p1))) = true by
      cases h1 : l0 == p0 <;> cases h2 : l1 == p1 <;> simp_all] at hP
    have hE : addL O (p0, p1) = O ++ [(p0, p1)] := by unfold addL; rw [if_neg (by rw [hL.out]; intro h; cases h; exact he ⟨rfl, rfl⟩)]
    rw [hE]
    go_wp2_with fail
    go_quiet (fail)
    have hk9 : Keeps (w.alloc (.cells #[.int .i64 p0, .int .i64 p1] 50)) ((w.alloc (.cells #[.int .i64 p0, .int .i64 p1] 50)).drewN nq) := (Keeps.refl _).drewN nq
    have hkw9 : Keeps w ((w.alloc (.cells #[.int .i64 p0, .int .i64 p1] 50)).drewN nq) := hk0.drewN nq
    have hA9 := hA.keep hk9
    have hR9 := row_keep hR hk9
    have z0 := (hk9.cell (p := ⟨g, 0, none⟩) (by dsimp only; omega)).trans y0
    have z2 := (hk9.cell (p := ⟨w.heap.size, 0, none⟩) (by dsimp only; omega)).trans y2
    have z3 := (hk9.cell (p := ⟨w.heap.size, 1, none⟩) (by dsimp only; omega)).trans y3
    have hs9 : w.heap.size + 1 ≤ ((w.alloc (.cells #[.int .i64 p0, .int .i64 p1] 50)).drewN nq).heap.size := by have := hk9.size; omega
    have hgr := fun (w0 : World) (h : Keeps w0 w) => (h.trans hkw9)
    clear y0 y2 y3 c0 c1 hk9 hA hR bp hk0 hs0 hP hkw9
    generalize ((w.alloc (.cells #[.int .i64 p0, .int .i64 p1] 50)).drewN nq) = W9 at *
    go_wp2_with (at_builtin; refine wpList_append_own _ rfl _ _ 22 rfl B 50 i0 (.agg #[.int .i64 0, .int .i64 0]) 2 16 Try.underlying22 hi hz0 hz1 hz2 rfl (by decide) _ _ _ rfl (row_keep hR9 ((Keeps.refl W9).alloc _)) ⟨W9.heap.size, 0, none⟩ 1 1 (ptV (p0, p1)) rfl rfl (two_newA W9 (p0, p1) _ _ rfl) (oneCell_ptV _) (by unfold maxLen; omega) (by omega) (by simp; omega) ?_; intro v1 w1 hown1 hgrow1 hz9; clear hz9; rw [← rowP_one, ← rowP_append] at hown1; obtain ⟨g', cap', rfl⟩ := ownsRow_succ hown1; have hA1 := (hA9.alloc _).kept hgrow1 (hA9.not_row (by decide) hR9); have v3 := hA1.frozen 0; have v4 : w1.cell? ⟨g, 0, none⟩ = some (.slice (some ⟨r, 0, none⟩) O.length cap) := by simpa using hA1.cell 0)
    have hA2 := hA1.set 0 (.slice (some ⟨g', 0, none⟩) (O.length + 1) cap')
    simp only [List.setIfInBounds_toArray, List.set_cons_zero] at hA2
    have hR2 := hown1.kept (grown_set w1 g 0 (.slice (some ⟨g', 0, none⟩) (O.length + 1) cap')) (.inr (hA1.not_row (by decide) hown1).symm)
    go_end0
    refine ⟨⟨_, rfl⟩, ⟨g', cap', ?_, ?_⟩, ?_, fun w0 h1 h2 h3 => ?_⟩
    · rw [List.length_append]; exact hA2
    · rw [List.length_append]; exact hR2
    · have := hgrow1.size; simp at this ⊢; omega
    · have h9 : Keeps w0 w1 := Below.grown ((hgr w0 h1).alloc _) hgrow1 (by have := (hgr w0 h1).size; simp; omega) (fun k e => Nat.le_trans h2 (hbk k e))
      exact h9.setNew h3 _
end Go.Proofs.Ytihmhpleiefodaa
