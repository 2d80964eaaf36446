/- Reference 11: OnSegment. -/
import Derived.Test.YtpmhmaiagjdpeaaRv
namespace Go.Proofs.Ytpmhmaiagjdpeaa
open Go.RowKit
attribute [local go_sem ↓] Go.wp_at_zero Go.wp_at_succ
set_option linter.unusedSimpArgs false
set_option linter.unusedVariables false
theorem seg_sgn (a b p : Int) : (a - p) * (b - p) ≤ 0 ↔ min a b ≤ p ∧ p ≤ max a b := by
  constructor
  · intro h
    refine ⟨?_, ?_⟩
    · apply Classical.byContradiction; intro hn
      have := Int.mul_pos (show 0 < a - p by omega) (show 0 < b - p by omega)
      omega
    · apply Classical.byContradiction; intro hn
      have := Int.mul_pos (show 0 < p - a by omega) (show 0 < p - b by omega)
      rw [show (p - a) * (p - b) = (a - p) * (b - p) by rw [← Int.neg_sub a p, ← Int.neg_sub b p, Int.neg_mul_neg]] at this
      omega
  · intro h
    by_cases h1 : a ≤ p
    · by_cases h2 : b ≤ p
      · have : a = p ∨ b = p := by omega
        rcases this with h | h <;> subst h <;> simp
      · exact Int.mul_nonpos_of_nonpos_of_nonneg (by omega) (by omega)
    · exact Int.mul_nonpos_of_nonneg_of_nonpos (by omega) (by omega)
theorem seg_core (s t m : Int) (h : s * t = m * m) : s + t ≤ 0 ↔ s ≤ 0 ∧ t ≤ 0 := by
  constructor
  · intro h1
    have hm : 0 ≤ m * m := by
      rcases Int.le_total 0 m with h | h
      · exact Int.mul_nonneg h h
      · exact Int.mul_nonneg_of_nonpos_of_nonpos h h
    refine ⟨?_, ?_⟩
    · apply Classical.byContradiction; intro hn
      have := Int.mul_neg_of_pos_of_neg (show 0 < s by omega) (show t < 0 by omega)
      omega
    · apply Classical.byContradiction; intro hn
      have := Int.mul_neg_of_neg_of_pos (show s < 0 by omega) (show 0 < t by omega)
      omega
  · omega
theorem seg_box (ax ay bx b_y px py : Int) (hc : (bx - ax) * (py - ay) - (b_y - ay) * (px - ax) = 0) :
    (ax - px) * (bx - px) + (ay - py) * (b_y - py) ≤ 0 ↔ (min ax bx ≤ px ∧ px ≤ max ax bx) ∧ (min ay b_y ≤ py ∧ py ≤ max ay b_y) := by
  have e : (ax - px) * (b_y - py) = (bx - px) * (ay - py) := by
    have h1 : (bx - ax) * (py - ay) = (b_y - ay) * (px - ax) := by omega
    simp only [Int.sub_mul, Int.mul_sub] at h1 ⊢
    rw [Int.mul_comm b_y px, Int.mul_comm b_y ax, Int.mul_comm ay px, Int.mul_comm ay ax] at h1
    omega
  rw [← seg_sgn, ← seg_sgn]
  refine seg_core _ _ ((bx - px) * (ay - py)) ?_
  calc (ax - px) * (bx - px) * ((ay - py) * (b_y - py)) = (ax - px) * (b_y - py) * ((bx - px) * (ay - py)) := by
        simp only [Int.mul_assoc, Int.mul_comm, Int.mul_left_comm]
    _ = _ := by rw [e]
theorem hc_hc (n : Int) : hc (hc n) = hc n := hc_id (hc_bd n)
theorem cl1_zero (n : Int) : clI n (-1) 1 = 0 ↔ n = 0 := by unfold clI; split <;> (try split) <;> omega
theorem onB_iff (ax ay bx b_y px py : Int) : onB ax ay bx b_y px py = true ↔ oriI (hc ax) (hc ay) (hc bx) (hc b_y) (hc px) (hc py) = 0 ∧ min (hc ax) (hc bx) ≤ hc px ∧ hc px ≤ max (hc ax) (hc bx) ∧ min (hc ay) (hc b_y) ≤ hc py ∧ hc py ≤ max (hc ay) (hc b_y) := by
  unfold onB oriI
  simp only [Bool.and_eq_true, beq_iff_eq, decide_eq_true_eq, cl1_zero]
  unfold crossI dotI subc
  simp only [hc_hc]
  constructor
  · rintro ⟨h1, h2⟩
    have := (seg_box (hc ax) (hc ay) (hc bx) (hc b_y) (hc px) (hc py) h1).1 h2
    exact ⟨h1, this.1.1, this.1.2, this.2.1, this.2.2⟩
  · rintro ⟨h1, h2, h3, h4, h5⟩
    exact ⟨h1, (seg_box (hc ax) (hc ay) (hc bx) (hc b_y) (hc px) (hc py) h1).2 ⟨⟨h2, h3⟩, h4, h5⟩⟩
theorem ret_bool {X Y : Bool} (h : X = Y) : Ending.returned (.bool X) = Ending.returned (.bool Y) := by rw [h]
set_option maxRecDepth 100000 in
set_option maxHeartbeats 4000000 in
theorem ronseg_any (ax ay bx by' px py : Int) (w : World) :
    Calls Try.prog 12 #[.agg #[.int .i64 ax, .int .i64 ay], .agg #[.int .i64 bx, .int .i64 by'], .agg #[.int .i64 px, .int .i64 py]] w fun e w' => e = .returned (.bool (onB ax ay bx by' px py)) ∧ Keeps w w' := by
  have HS := Lib.hid (show ∀ w', Keeps (((w.alloc (.cells #[.int .i64 ax, .int .i64 ay] 23)).alloc (.cells #[.int .i64 bx, .int .i64 by'] 23)).alloc (.cells #[.int .i64 px, .int .i64 py] 23)) w' → w'.cell? ⟨w.heap.size, 0, none⟩ = some (.int .i64 ax) ∧ w'.frozen? ⟨w.heap.size, 0, none⟩ = false ∧ w'.cell? ⟨w.heap.size, 1, none⟩ = some (.int .i64 ay) ∧ w'.frozen? ⟨w.heap.size, 1, none⟩ = false ∧ w'.cell? ⟨w.heap.size + 1, 0, none⟩ = some (.int .i64 bx) ∧ w'.frozen? ⟨w.heap.size + 1, 0, none⟩ = false ∧ w'.cell? ⟨w.heap.size + 1, 1, none⟩ = some (.int .i64 by') ∧ w'.frozen? ⟨w.heap.size + 1, 1, none⟩ = false ∧ w'.cell? ⟨w.heap.size + 1 + 1, 0, none⟩ = some (.int .i64 px) ∧ w'.frozen? ⟨w.heap.size + 1 + 1, 0, none⟩ = false ∧ w'.cell? ⟨w.heap.size + 1 + 1, 1, none⟩ = some (.int .i64 py) ∧ w'.frozen? ⟨w.heap.size + 1 + 1, 1, none⟩ = false from fun w' hk => ⟨(hk.cell (p := ⟨w.heap.size, 0, none⟩) (by first | (simp; done) | (simp; omega))).trans (by simp [go_sem]), (hk.frozen (p := ⟨w.heap.size, 0, none⟩) (by first | (simp; done) | (simp; omega))).trans (by simp [go_sem]), (hk.cell (p := ⟨w.heap.size, 1, none⟩) (by first | (simp; done) | (simp; omega))).trans (by simp [go_sem]), (hk.frozen (p := ⟨w.heap.size, 1, none⟩) (by first | (simp; done) | (simp; omega))).trans (by simp [go_sem]), (hk.cell (p := ⟨w.heap.size + 1, 0, none⟩) (by first | (simp; done) | (simp; omega))).trans (by simp [go_sem]), (hk.frozen (p := ⟨w.heap.size + 1, 0, none⟩) (by first | (simp; done) | (simp; omega))).trans (by simp [go_sem]), (hk.cell (p := ⟨w.heap.size + 1, 1, none⟩) (by first | (simp; done) | (simp; omega))).trans (by simp [go_sem]), (hk.frozen (p := ⟨w.heap.size + 1, 1, none⟩) (by first | (simp; done) | (simp; omega))).trans (by simp [go_sem]), (hk.cell (p := ⟨w.heap.size + 1 + 1, 0, none⟩) (by first | (simp; done) | (simp; omega))).trans (by simp [go_sem]), (hk.frozen (p := ⟨w.heap.size + 1 + 1, 0, none⟩) (by first | (simp; done) | (simp; omega))).trans (by simp [go_sem]), (hk.cell (p := ⟨w.heap.size + 1 + 1, 1, none⟩) (by first | (simp; done) | (simp; omega))).trans (by simp [go_sem]), (hk.frozen (p := ⟨w.heap.size + 1 + 1, 1, none⟩) (by first | (simp; done) | (simp; omega))).trans (by simp [go_sem])⟩)
  have HB := Lib.hid (show Keeps w (((w.alloc (.cells #[.int .i64 ax, .int .i64 ay] 23)).alloc (.cells #[.int .i64 bx, .int .i64 by'] 23)).alloc (.cells #[.int .i64 px, .int .i64 py] 23)) from (by (repeat (first | (with_reducible exact Keeps.refl _) | (with_reducible assumption) | (with_reducible refine Keeps.drewN ?_ _) | (with_reducible refine Keeps.drew ?_) | (with_reducible refine Keeps.alloc ?_ _) | (with_reducible refine Keeps.setNew ?_ ?_ _))) <;> (dsimp only; omega)))
  have hk0 := Keeps.refl (((w.alloc (.cells #[.int .i64 ax, .int .i64 ay] 23)).alloc (.cells #[.int .i64 bx, .int .i64 by'] 23)).alloc (.cells #[.int .i64 px, .int .i64 py] 23))
  go_enter Try.func12, Try.ntmps12
  go_wp2_with fail
  refine wp_region_steps (by kernel_rfl) (fun L a w' => ∃ (b0 b1 b2 b3 b4 b5 b6 b7 b8 b9 b10 b11 : Bool), L = #[b0, b1, b2, b3, b4, b5, b6, b7, b8, b9, b10, b11] ∧ ∃ (p0 p1 p2 : Nat), a = { tmps := #[.agg #[.int .i64 ax, .int .i64 ay], .agg #[.int .i64 bx, .int .i64 by'], .agg #[.int .i64 px, .int .i64 py], .pointer (some ⟨w.heap.size, 0, none⟩), .pointer (some ⟨w.heap.size + 1, 0, none⟩), .pointer (some ⟨w.heap.size + 1 + 1, 0, none⟩), .bool false, if b6 then .pointer (some ⟨p0, 0, none⟩) else undef, if b7 then .pointer (some ⟨p1, 0, none⟩) else undef, if b8 then .pointer (some ⟨p2, 0, none⟩) else undef, if b0 then .agg #[.int .i64 ax, .int .i64 ay] else undef, if b1 then .agg #[.int .i64 (hc ax), .int .i64 (hc ay)] else undef, if b2 then .agg #[.int .i64 bx, .int .i64 by'] else undef, if b3 then .agg #[.int .i64 (hc bx), .int .i64 (hc by')] else undef, if b4 then .agg #[.int .i64 px, .int .i64 py] else undef, if b5 then .agg #[.int .i64 (hc px), .int .i64 (hc py)] else undef, undef, undef, undef, undef, undef, undef, undef, undef, undef, undef, undef, undef, undef, undef, undef, undef, undef, undef, undef, undef, undef, undef, undef, undef, undef, undef, undef, undef, undef, undef, undef, undef, undef, undef, undef, undef, undef, undef, undef, undef, undef, undef, undef, undef, undef], defers := [] } ∧ Keeps (((w.alloc (.cells #[.int .i64 ax, .int .i64 ay] 23)).alloc (.cells #[.int .i64 bx, .int .i64 by'] 23)).alloc (.cells #[.int .i64 px, .int .i64 py] 23)) w' ∧ Box2 b6 (w.heap.size + 1 + 1 + 1) p0 (.int .i64 (if b9 then (hc ax) else 0)) (.int .i64 (if b9 then (hc ay) else 0)) w' ∧ Box2 b7 (w.heap.size + 1 + 1 + 1) p1 (.int .i64 (if b10 then (hc bx) else 0)) (.int .i64 (if b10 then (hc by') else 0)) w' ∧ Box2 b8 (w.heap.size + 1 + 1 + 1) p2 (.int .i64 (if b11 then (hc px) else 0)) (.int .i64 (if b11 then (hc py) else 0)) w' ∧ (b6 = true → b7 = true → p0 ≠ p1) ∧ (b6 = true → b8 = true → p0 ≠ p2) ∧ (b7 = true → b8 = true → p1 ≠ p2) ∧ (b6 = false → b9 = false) ∧ (b7 = false → b10 = false) ∧ (b8 = false → b11 = false)) 12 (by kernel_rfl) ?_ ?_ ?_
  · exact ⟨false, false, false, false, false, false, false, false, false, false, false, false, rfl, 0, 0, 0, rfl, hk0.drew, Box2.none, Box2.none, Box2.none, (fun h => by cases h), (fun h => by cases h), (fun h => by cases h), (fun _ => rfl), (fun _ => rfl), (fun _ => rfl)⟩
  · refine (InvSteps.cons rfl ?_ (InvSteps.cons rfl ?_ (InvSteps.cons rfl ?_ (InvSteps.cons rfl ?_ (InvSteps.cons rfl ?_ (InvSteps.cons rfl ?_ (InvSteps.cons rfl ?_ (InvSteps.cons rfl ?_ (InvSteps.cons rfl ?_ (InvSteps.cons rfl ?_ (InvSteps.cons rfl ?_ (InvSteps.cons rfl ?_ InvSteps.nil))))))))))))
    all_goals rintro L a w' ⟨b0, b1, b2, b3, b4, b5, b6, b7, b8, b9, b10, b11, rfl, p0, p1, p2, rfl, hk, HA0, HA1, HA2, D0_1, D0_2, D1_2, Z0, Z1, Z2⟩ hl hd K hK
    all_goals (simp [Region.binds] at hl hd; simp only [List.getElem_toArray, List.getElem_cons_zero, List.getElem_cons_succ])
    · subst hl; (repeat (rcases hd with ⟨hq, hd⟩; first | subst hq | clear hq)); (first | subst hd | clear hd | skip)
      obtain ⟨y0, y1, y2, y3, y4, y5, y6, y7, y8, y9, y10, y11⟩ := HS.out _ hk
      go_simp
      exact hK.out _ _ ⟨true, _, _, _, _, _, _, _, _, _, _, _, rfl, p0, p1, p2, rfl, hk, HA0, HA1, HA2, D0_1, D0_2, D1_2, Z0, Z1, Z2⟩
    · subst hl; (repeat (rcases hd with ⟨hq, hd⟩; first | subst hq | clear hq)); (first | subst hd | clear hd | skip)
      go_simp
      go_at_call 38
      refine (rhold_any _ _ _).mono ?_; rintro e w1 ⟨rfl, hk1⟩
      exact hK.out _ _ ⟨_, true, _, _, _, _, _, _, _, _, _, _, rfl, p0, p1, p2, rfl, hk.trans hk1, HA0.keeps hk1, HA1.keeps hk1, HA2.keeps hk1, D0_1, D0_2, D1_2, Z0, Z1, Z2⟩
    · subst hl; (repeat (rcases hd with ⟨hq, hd⟩; first | subst hq | clear hq)); (first | subst hd | clear hd | skip)
      obtain ⟨y0, y1, y2, y3, y4, y5, y6, y7, y8, y9, y10, y11⟩ := HS.out _ hk
      go_simp
      exact hK.out _ _ ⟨_, _, true, _, _, _, _, _, _, _, _, _, rfl, p0, p1, p2, rfl, hk, HA0, HA1, HA2, D0_1, D0_2, D1_2, Z0, Z1, Z2⟩
    · subst hl; (repeat (rcases hd with ⟨hq, hd⟩; first | subst hq | clear hq)); (first | subst hd | clear hd | skip)
      go_simp
      go_at_call 38
      refine (rhold_any _ _ _).mono ?_; rintro e w1 ⟨rfl, hk1⟩
      exact hK.out _ _ ⟨_, _, _, true, _, _, _, _, _, _, _, _, rfl, p0, p1, p2, rfl, hk.trans hk1, HA0.keeps hk1, HA1.keeps hk1, HA2.keeps hk1, D0_1, D0_2, D1_2, Z0, Z1, Z2⟩
    · subst hl; (repeat (rcases hd with ⟨hq, hd⟩; first | subst hq | clear hq)); (first | subst hd | clear hd | skip)
      obtain ⟨y0, y1, y2, y3, y4, y5, y6, y7, y8, y9, y10, y11⟩ := HS.out _ hk
      go_simp
      exact hK.out _ _ ⟨_, _, _, _, true, _, _, _, _, _, _, _, rfl, p0, p1, p2, rfl, hk, HA0, HA1, HA2, D0_1, D0_2, D1_2, Z0, Z1, Z2⟩
    · subst hl; (repeat (rcases hd with ⟨hq, hd⟩; first | subst hq | clear hq)); (first | subst hd | clear hd | skip)
      go_simp
      go_at_call 38
      refine (rhold_any _ _ _).mono ?_; rintro e w1 ⟨rfl, hk1⟩
      exact hK.out _ _ ⟨_, _, _, _, _, true, _, _, _, _, _, _, rfl, p0, p1, p2, rfl, hk.trans hk1, HA0.keeps hk1, HA1.keeps hk1, HA2.keeps hk1, D0_1, D0_2, D1_2, Z0, Z1, Z2⟩
    · subst hl; obtain rfl := Z0 rfl
      have hs := hk.size; simp at hs
      go_simp
      exact hK.out _ _ ⟨_, _, _, _, _, _, true, _, _, _, _, _, rfl, w'.heap.size, p1, p2, rfl, hk.alloc _, Box2.new (by omega), HA1.keeps ((Keeps.refl _).alloc _), HA2.keeps ((Keeps.refl _).alloc _), (fun _ h => (HA1.ne h).symm), (fun _ h => (HA2.ne h).symm), D1_2, (fun h => by cases h), Z1, Z2⟩
    · subst hl; obtain rfl := Z1 rfl
      have hs := hk.size; simp at hs
      go_simp
      exact hK.out _ _ ⟨_, _, _, _, _, _, _, true, _, _, _, _, rfl, p0, w'.heap.size, p2, rfl, hk.alloc _, HA0.keeps ((Keeps.refl _).alloc _), Box2.new (by omega), HA2.keeps ((Keeps.refl _).alloc _), (fun h _ => HA0.ne h), D0_2, (fun _ h => (HA2.ne h).symm), Z0, (fun h => by cases h), Z2⟩
    · subst hl; obtain rfl := Z2 rfl
      have hs := hk.size; simp at hs
      go_simp
      exact hK.out _ _ ⟨_, _, _, _, _, _, _, _, true, _, _, _, rfl, p0, p1, w'.heap.size, rfl, hk.alloc _, HA0.keeps ((Keeps.refl _).alloc _), HA1.keeps ((Keeps.refl _).alloc _), Box2.new (by omega), D0_1, (fun h _ => HA0.ne h), (fun h _ => HA1.ne h), Z0, Z1, (fun h => by cases h)⟩
    · subst hl; (repeat (rcases hd with ⟨hq, hd⟩; first | subst hq | clear hq)); (first | subst hd | clear hd | skip)
      obtain ⟨q1, q2, q3, q4, q5, q6⟩ := HA0 rfl
      have hs := hk.size; simp at hs
      go_simp
      exact hK.out _ _ ⟨_, _, _, _, _, _, _, _, _, true, _, _, rfl, p0, p1, p2, rfl, hk.set2 (by simp; omega) _ _, HA0.at, HA1.far (fun h e => D0_1 rfl h e.symm), HA2.far (fun h e => D0_2 rfl h e.symm), D0_1, D0_2, D1_2, (fun h => by cases h), Z1, Z2⟩
    · subst hl; (repeat (rcases hd with ⟨hq, hd⟩; first | subst hq | clear hq)); (first | subst hd | clear hd | skip)
      obtain ⟨q1, q2, q3, q4, q5, q6⟩ := HA1 rfl
      have hs := hk.size; simp at hs
      go_simp
      exact hK.out _ _ ⟨_, _, _, _, _, _, _, _, _, _, true, _, rfl, p0, p1, p2, rfl, hk.set2 (by simp; omega) _ _, HA0.far (fun h => D0_1 h rfl), HA1.at, HA2.far (fun h e => D1_2 rfl h e.symm), D0_1, D0_2, D1_2, Z0, (fun h => by cases h), Z2⟩
    · subst hl; (repeat (rcases hd with ⟨hq, hd⟩; first | subst hq | clear hq)); (first | subst hd | clear hd | skip)
      obtain ⟨q1, q2, q3, q4, q5, q6⟩ := HA2 rfl
      have hs := hk.size; simp at hs
      go_simp
      exact hK.out _ _ ⟨_, _, _, _, _, _, _, _, _, _, _, true, rfl, p0, p1, p2, rfl, hk.set2 (by simp; omega) _ _, HA0.far (fun h => D0_2 h rfl), HA1.far (fun h => D1_2 h rfl), HA2.at, D0_1, D0_2, D1_2, Z0, Z1, (fun h => by cases h)⟩
  · rintro L a w' ⟨b0, b1, b2, b3, b4, b5, b6, b7, b8, b9, b10, b11, rfl, p0, p1, p2, rfl, hk, HA0, HA1, HA2, D0_1, D0_2, D1_2, Z0, Z1, Z2⟩ hr
    have c := ready_nil hr 0 rfl (by simp [Region.binds]); simp at c; subst c
    have c := ready_nil hr 1 rfl (by simp [Region.binds]); simp at c; subst c
    have c := ready_nil hr 2 rfl (by simp [Region.binds]); simp at c; subst c
    have c := ready_nil hr 3 rfl (by simp [Region.binds]); simp at c; subst c
    have c := ready_nil hr 4 rfl (by simp [Region.binds]); simp at c; subst c
    have c := ready_nil hr 5 rfl (by simp [Region.binds]); simp at c; subst c
    have c := ready_nil hr 6 rfl (by simp [Region.binds]); simp at c; subst c
    have c := ready_nil hr 7 rfl (by simp [Region.binds]); simp at c; subst c
    have c := ready_nil hr 8 rfl (by simp [Region.binds]); simp at c; subst c
    have c := ready_nil hr 9 rfl (by simp [Region.binds]); simp at c; subst c
    have c := ready_nil hr 10 rfl (by simp [Region.binds]); simp at c; subst c
    have c := ready_nil hr 11 rfl (by simp [Region.binds]); simp at c; subst c
    clear hr Z0 Z1 Z2
    obtain ⟨q0_1, q0_2, q0_3, q0_4, q0_5, q0_6⟩ := HA0 rfl
    simp only [if_true] at q0_3 q0_4
    have HB0 := Lib.hid HA0; clear HA0; simp only [if_true] at HB0
    obtain ⟨q1_1, q1_2, q1_3, q1_4, q1_5, q1_6⟩ := HA1 rfl
    simp only [if_true] at q1_3 q1_4
    have HB1 := Lib.hid HA1; clear HA1; simp only [if_true] at HB1
    obtain ⟨q2_1, q2_2, q2_3, q2_4, q2_5, q2_6⟩ := HA2 rfl
    simp only [if_true] at q2_3 q2_4
    have HB2 := Lib.hid HA2; clear HA2; simp only [if_true] at HB2
    have D0_1 := D0_1 rfl rfl
    have D0_2 := D0_2 rfl rfl
    have D1_2 := D1_2 rfl rfl
    simp only [if_true]
    obtain ⟨y0, y1, y2, y3, y4, y5, y6, y7, y8, y9, y10, y11⟩ := HS.out _ hk
    have hj := Keeps.trans HB.out hk
    go_wp2_with (go_at_call 10; refine (rorientation_any _ _ _ _ _ _ _).mono ?_; rintro e w1 ⟨rfl, hk1⟩; obtain ⟨r0_1, r0_2, r0_3, r0_4, r0_5, r0_6⟩ := HB0.out.keeps hk1 rfl; obtain ⟨r1_1, r1_2, r1_3, r1_4, r1_5, r1_6⟩ := HB1.out.keeps hk1 rfl; obtain ⟨r2_1, r2_2, r2_3, r2_4, r2_5, r2_6⟩ := HB2.out.keeps hk1 rfl; have hj1 := Keeps.trans hj hk1)
    all_goals (go_ret; refine ⟨ret_bool ?_, hj1⟩; rw [Bool.eq_iff_iff, onB_iff]; simp only [decide_eq_true_eq, Bool.false_eq_true, false_iff, true_iff]; omega)
end Go.Proofs.Ytpmhmaiagjdpeaa
