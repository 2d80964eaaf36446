/- Reference 11: Less, Valid. -/
import Derived.Test.YtpmhmaiagjdpeaaRw
namespace Go.Proofs.Ytpmhmaiagjdpeaa
open Go.RowKit
attribute [local go_sem ↓] Go.wp_at_zero Go.wp_at_succ
set_option linter.unusedSimpArgs false
set_option linter.unusedVariables false
theorem lessB_iff (x y z t : Int) : lessB x y z t = true ↔ hc y < hc t ∨ (hc y = hc t ∧ hc x < hc z) := by
  unfold lessB; simp only [Bool.or_eq_true, Bool.and_eq_true, beq_iff_eq, decide_eq_true_eq]
theorem hc_iff (n : Int) : hc n = n ↔ -1048576 ≤ n ∧ n ≤ 1048576 := ⟨fun h => by have := hc_bd n; omega, hc_id⟩
theorem validB_iff (x y : Int) : validB x y = true ↔ (-1048576 ≤ x ∧ x ≤ 1048576) ∧ -1048576 ≤ y ∧ y ≤ 1048576 := by
  unfold validB; simp only [Bool.and_eq_true, beq_iff_eq, hc_iff]
set_option maxRecDepth 100000 in
set_option maxHeartbeats 4000000 in
theorem rless_any (x y z t : Int) (w : World) :
    Calls Try.prog 32 #[.agg #[.int .i64 x, .int .i64 y], .agg #[.int .i64 z, .int .i64 t]] w fun e w' => e = .returned (.bool (lessB x y z t)) ∧ Keeps w w' := by
  have HS := Lib.hid (show ∀ w', Keeps ((w.alloc (.cells #[.int .i64 x, .int .i64 y] 23)).alloc (.cells #[.int .i64 z, .int .i64 t] 23)) w' → w'.cell? ⟨w.heap.size, 0, none⟩ = some (.int .i64 x) ∧ w'.frozen? ⟨w.heap.size, 0, none⟩ = false ∧ w'.cell? ⟨w.heap.size, 1, none⟩ = some (.int .i64 y) ∧ w'.frozen? ⟨w.heap.size, 1, none⟩ = false ∧ w'.cell? ⟨w.heap.size + 1, 0, none⟩ = some (.int .i64 z) ∧ w'.frozen? ⟨w.heap.size + 1, 0, none⟩ = false ∧ w'.cell? ⟨w.heap.size + 1, 1, none⟩ = some (.int .i64 t) ∧ w'.frozen? ⟨w.heap.size + 1, 1, none⟩ = false from fun w' hk => ⟨(hk.cell (p := ⟨w.heap.size, 0, none⟩) (by first | (simp; done) | (simp; omega))).trans (by simp [go_sem]), (hk.frozen (p := ⟨w.heap.size, 0, none⟩) (by first | (simp; done) | (simp; omega))).trans (by simp [go_sem]), (hk.cell (p := ⟨w.heap.size, 1, none⟩) (by first | (simp; done) | (simp; omega))).trans (by simp [go_sem]), (hk.frozen (p := ⟨w.heap.size, 1, none⟩) (by first | (simp; done) | (simp; omega))).trans (by simp [go_sem]), (hk.cell (p := ⟨w.heap.size + 1, 0, none⟩) (by first | (simp; done) | (simp; omega))).trans (by simp [go_sem]), (hk.frozen (p := ⟨w.heap.size + 1, 0, none⟩) (by first | (simp; done) | (simp; omega))).trans (by simp [go_sem]), (hk.cell (p := ⟨w.heap.size + 1, 1, none⟩) (by first | (simp; done) | (simp; omega))).trans (by simp [go_sem]), (hk.frozen (p := ⟨w.heap.size + 1, 1, none⟩) (by first | (simp; done) | (simp; omega))).trans (by simp [go_sem])⟩)
  have HB := Lib.hid (show Keeps w ((w.alloc (.cells #[.int .i64 x, .int .i64 y] 23)).alloc (.cells #[.int .i64 z, .int .i64 t] 23)) from (by (repeat (first | (with_reducible exact Keeps.refl _) | (with_reducible assumption) | (with_reducible refine Keeps.drewN ?_ _) | (with_reducible refine Keeps.drew ?_) | (with_reducible refine Keeps.alloc ?_ _) | (with_reducible refine Keeps.setNew ?_ ?_ _))) <;> (dsimp only; omega)))
  have hk0 := Keeps.refl ((w.alloc (.cells #[.int .i64 x, .int .i64 y] 23)).alloc (.cells #[.int .i64 z, .int .i64 t] 23))
  go_enter Try.func32, Try.ntmps32
  go_wp2_with fail
  refine wp_region_steps (by kernel_rfl) (fun L a w' => ∃ (b0 b1 b2 b3 b4 b5 b6 b7 : Bool), L = #[b0, b1, b2, b3, b4, b5, b6, b7] ∧ ∃ (p0 p1 : Nat), a = { tmps := #[.agg #[.int .i64 x, .int .i64 y], .agg #[.int .i64 z, .int .i64 t], .pointer (some ⟨w.heap.size, 0, none⟩), .pointer (some ⟨w.heap.size + 1, 0, none⟩), .bool false, if b4 then .pointer (some ⟨p0, 0, none⟩) else undef, if b5 then .pointer (some ⟨p1, 0, none⟩) else undef, if b0 then .agg #[.int .i64 x, .int .i64 y] else undef, if b1 then .agg #[.int .i64 (hc x), .int .i64 (hc y)] else undef, if b2 then .agg #[.int .i64 z, .int .i64 t] else undef, if b3 then .agg #[.int .i64 (hc z), .int .i64 (hc t)] else undef, undef, undef, undef, undef, undef, undef, undef, undef, undef, undef, undef, undef, undef, undef, undef, undef, undef, undef, undef], defers := [] } ∧ Keeps ((w.alloc (.cells #[.int .i64 x, .int .i64 y] 23)).alloc (.cells #[.int .i64 z, .int .i64 t] 23)) w' ∧ Box2 b4 (w.heap.size + 1 + 1) p0 (.int .i64 (if b6 then (hc x) else 0)) (.int .i64 (if b6 then (hc y) else 0)) w' ∧ Box2 b5 (w.heap.size + 1 + 1) p1 (.int .i64 (if b7 then (hc z) else 0)) (.int .i64 (if b7 then (hc t) else 0)) w' ∧ (b4 = true → b5 = true → p0 ≠ p1) ∧ (b4 = false → b6 = false) ∧ (b5 = false → b7 = false)) 8 (by kernel_rfl) ?_ ?_ ?_
  · exact ⟨false, false, false, false, false, false, false, false, rfl, 0, 0, rfl, hk0.drew, Box2.none, Box2.none, (fun h => by cases h), (fun _ => rfl), (fun _ => rfl)⟩
  · refine (InvSteps.cons rfl ?_ (InvSteps.cons rfl ?_ (InvSteps.cons rfl ?_ (InvSteps.cons rfl ?_ (InvSteps.cons rfl ?_ (InvSteps.cons rfl ?_ (InvSteps.cons rfl ?_ (InvSteps.cons rfl ?_ InvSteps.nil))))))))
    all_goals rintro L a w' ⟨b0, b1, b2, b3, b4, b5, b6, b7, rfl, p0, p1, rfl, hk, HA0, HA1, D0_1, Z0, Z1⟩ hl hd K hK
    all_goals (simp [Region.binds] at hl hd; simp only [List.getElem_toArray, List.getElem_cons_zero, List.getElem_cons_succ])
    · subst hl; (repeat (rcases hd with ⟨hq, hd⟩; first | subst hq | clear hq)); (first | subst hd | clear hd | skip)
      obtain ⟨y0, y1, y2, y3, y4, y5, y6, y7⟩ := HS.out _ hk
      go_simp
      exact hK.out _ _ ⟨true, _, _, _, _, _, _, _, rfl, p0, p1, rfl, hk, HA0, HA1, D0_1, Z0, Z1⟩
    · subst hl; (repeat (rcases hd with ⟨hq, hd⟩; first | subst hq | clear hq)); (first | subst hd | clear hd | skip)
      go_simp
      go_at_call 38
      refine (rhold_any _ _ _).mono ?_; rintro e w1 ⟨rfl, hk1⟩
      exact hK.out _ _ ⟨_, true, _, _, _, _, _, _, rfl, p0, p1, rfl, hk.trans hk1, HA0.keeps hk1, HA1.keeps hk1, D0_1, Z0, Z1⟩
    · subst hl; (repeat (rcases hd with ⟨hq, hd⟩; first | subst hq | clear hq)); (first | subst hd | clear hd | skip)
      obtain ⟨y0, y1, y2, y3, y4, y5, y6, y7⟩ := HS.out _ hk
      go_simp
      exact hK.out _ _ ⟨_, _, true, _, _, _, _, _, rfl, p0, p1, rfl, hk, HA0, HA1, D0_1, Z0, Z1⟩
    · subst hl; (repeat (rcases hd with ⟨hq, hd⟩; first | subst hq | clear hq)); (first | subst hd | clear hd | skip)
      go_simp
      go_at_call 38
      refine (rhold_any _ _ _).mono ?_; rintro e w1 ⟨rfl, hk1⟩
      exact hK.out _ _ ⟨_, _, _, true, _, _, _, _, rfl, p0, p1, rfl, hk.trans hk1, HA0.keeps hk1, HA1.keeps hk1, D0_1, Z0, Z1⟩
    · subst hl; obtain rfl := Z0 rfl
      have hs := hk.size; simp at hs
      go_simp
      exact hK.out _ _ ⟨_, _, _, _, true, _, _, _, rfl, w'.heap.size, p1, rfl, hk.alloc _, Box2.new (by omega), HA1.keeps ((Keeps.refl _).alloc _), (fun _ h => (HA1.ne h).symm), (fun h => by cases h), Z1⟩
    · subst hl; obtain rfl := Z1 rfl
      have hs := hk.size; simp at hs
      go_simp
      exact hK.out _ _ ⟨_, _, _, _, _, true, _, _, rfl, p0, w'.heap.size, rfl, hk.alloc _, HA0.keeps ((Keeps.refl _).alloc _), Box2.new (by omega), (fun h _ => HA0.ne h), Z0, (fun h => by cases h)⟩
    · subst hl; (repeat (rcases hd with ⟨hq, hd⟩; first | subst hq | clear hq)); (first | subst hd | clear hd | skip)
      obtain ⟨q1, q2, q3, q4, q5, q6⟩ := HA0 rfl
      have hs := hk.size; simp at hs
      go_simp
      exact hK.out _ _ ⟨_, _, _, _, _, _, true, _, rfl, p0, p1, rfl, hk.set2 (by simp; omega) _ _, HA0.at, HA1.far (fun h e => D0_1 rfl h e.symm), D0_1, (fun h => by cases h), Z1⟩
    · subst hl; (repeat (rcases hd with ⟨hq, hd⟩; first | subst hq | clear hq)); (first | subst hd | clear hd | skip)
      obtain ⟨q1, q2, q3, q4, q5, q6⟩ := HA1 rfl
      have hs := hk.size; simp at hs
      go_simp
      exact hK.out _ _ ⟨_, _, _, _, _, _, _, true, rfl, p0, p1, rfl, hk.set2 (by simp; omega) _ _, HA0.far (fun h => D0_1 h rfl), HA1.at, D0_1, Z0, (fun h => by cases h)⟩
  · rintro L a w' ⟨b0, b1, b2, b3, b4, b5, b6, b7, rfl, p0, p1, rfl, hk, HA0, HA1, D0_1, Z0, Z1⟩ hr
    have c := ready_nil hr 0 rfl (by simp [Region.binds]); simp at c; subst c
    have c := ready_nil hr 1 rfl (by simp [Region.binds]); simp at c; subst c
    have c := ready_nil hr 2 rfl (by simp [Region.binds]); simp at c; subst c
    have c := ready_nil hr 3 rfl (by simp [Region.binds]); simp at c; subst c
    have c := ready_nil hr 4 rfl (by simp [Region.binds]); simp at c; subst c
    have c := ready_nil hr 5 rfl (by simp [Region.binds]); simp at c; subst c
    have c := ready_nil hr 6 rfl (by simp [Region.binds]); simp at c; subst c
    have c := ready_nil hr 7 rfl (by simp [Region.binds]); simp at c; subst c
    clear hr Z0 Z1
    obtain ⟨q0_1, q0_2, q0_3, q0_4, q0_5, q0_6⟩ := HA0 rfl
    simp only [if_true] at q0_3 q0_4
    have HB0 := Lib.hid HA0; clear HA0; simp only [if_true] at HB0
    obtain ⟨q1_1, q1_2, q1_3, q1_4, q1_5, q1_6⟩ := HA1 rfl
    simp only [if_true] at q1_3 q1_4
    have HB1 := Lib.hid HA1; clear HA1; simp only [if_true] at HB1
    have D0_1 := D0_1 rfl rfl
    simp only [if_true]
    obtain ⟨y0, y1, y2, y3, y4, y5, y6, y7⟩ := HS.out _ hk
    have hj := Keeps.trans HB.out hk
    go_wp2_with fail
    all_goals (go_ret; refine ⟨ret_bool ?_, hj⟩; rw [Bool.eq_iff_iff, lessB_iff]; simp only [decide_eq_true_eq, Bool.false_eq_true, false_iff, true_iff]; omega)
set_option maxHeartbeats 4000000 in
theorem rvalid_any (x y : Int) (w : World) :
    Calls Try.prog 21 #[.agg #[.int .i64 x, .int .i64 y]] w fun e w' => e = .returned (.bool (validB x y)) ∧ Keeps w w' := by
  have HS := Lib.hid (show ∀ w', Keeps (w.alloc (.cells #[.int .i64 x, .int .i64 y] 23)) w' → w'.cell? ⟨w.heap.size, 0, none⟩ = some (.int .i64 x) ∧ w'.frozen? ⟨w.heap.size, 0, none⟩ = false ∧ w'.cell? ⟨w.heap.size, 1, none⟩ = some (.int .i64 y) ∧ w'.frozen? ⟨w.heap.size, 1, none⟩ = false from fun w' hk => ⟨(hk.cell (p := ⟨w.heap.size, 0, none⟩) (by first | (simp; done) | (simp; omega))).trans (by simp [go_sem]), (hk.frozen (p := ⟨w.heap.size, 0, none⟩) (by first | (simp; done) | (simp; omega))).trans (by simp [go_sem]), (hk.cell (p := ⟨w.heap.size, 1, none⟩) (by first | (simp; done) | (simp; omega))).trans (by simp [go_sem]), (hk.frozen (p := ⟨w.heap.size, 1, none⟩) (by first | (simp; done) | (simp; omega))).trans (by simp [go_sem])⟩)
  have HB := Lib.hid (show Keeps w (w.alloc (.cells #[.int .i64 x, .int .i64 y] 23)) from (by (repeat (first | (with_reducible exact Keeps.refl _) | (with_reducible assumption) | (with_reducible refine Keeps.drewN ?_ _) | (with_reducible refine Keeps.drew ?_) | (with_reducible refine Keeps.alloc ?_ _) | (with_reducible refine Keeps.setNew ?_ ?_ _))) <;> (dsimp only; omega)))
  have hk0 := Keeps.refl (w.alloc (.cells #[.int .i64 x, .int .i64 y] 23))
  go_enter Try.func21, Try.ntmps21
  go_wp2_with fail
  all_goals (go_ret; refine ⟨ret_bool ?_, HB.out⟩; rw [Bool.eq_iff_iff, validB_iff]; simp only [decide_eq_true_eq, Bool.false_eq_true, false_iff, true_iff]; omega)
end Go.Proofs.Ytpmhmaiagjdpeaa
