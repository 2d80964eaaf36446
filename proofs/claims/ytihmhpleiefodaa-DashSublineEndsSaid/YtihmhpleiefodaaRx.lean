/- Reference 11: Less, Valid. -/
import Derived.Test.YtihmhpleiefodaaE11
import Derived.Test.YtihmhpleiefodaaR8
import Derived.Test.YtihmhpleiefodaaRi
namespace Go.Proofs.Ytihmhpleiefodaa
section
open Go.RowKit
set_option maxRecDepth 100000
attribute [local go_sem ↓] Go.wp_at_zero Go.wp_at_succ
set_option linter.unusedSimpArgs false
set_option linter.unusedVariables false

set_option maxHeartbeats 400000 in
theorem rhold_any (x y : Int) (w : World) :
    Calls Try.prog 58 #[.agg #[.int .i64 x, .int .i64 y]] w fun e w' => e = .returned (.agg #[.int .i64 (hc x), .int .i64 (hc y)]) ∧ Keeps w w' := by
  go_enter Try.func58, Try.ntmps58
  go_wp2_with fail
  go_region_held3 (fun w' => w'.cell? ⟨w.heap.size, 0, none⟩ = some (.int .i64 x) ∧ w'.cell? ⟨w.heap.size, 1, none⟩ = some (.int .i64 y)) (go_keep)
    (first | (go_at_call 59; refine (rclamp_any _ _ _ _).mono ?_; rintro e w1 ⟨rfl, rfl⟩))
  all_goals go_wp2_with fail
  all_goals (unfold hc; exact bodyPost_ret (v := .agg #[.int .i64 (clI x (-1048576) 1048576), .int .i64 (clI y (-1048576) 1048576)]) (by simp [results, Try.results58, go_sem, *]) rfl ⟨rfl, (by (repeat (first | (with_reducible exact Keeps.refl _) | (with_reducible assumption) | (with_reducible refine Keeps.drewN ?_ _) | (with_reducible refine Keeps.drew ?_) | (with_reducible refine Keeps.alloc ?_ _) | (with_reducible refine Keeps.setNew ?_ ?_ _))) <;> (dsimp only; omega))⟩)

/-- A box of two cells, there where b says so. -/
def Box2 (b : Bool) (lo p : Nat) (u v : Value) (w : World) : Prop :=
  b = true → lo ≤ p ∧ p < w.heap.size ∧ w.cell? ⟨p, 0, none⟩ = some u ∧ w.cell? ⟨p, 1, none⟩ = some v ∧ w.frozen? ⟨p, 0, none⟩ = false ∧ w.frozen? ⟨p, 1, none⟩ = false
theorem Box2.none {lo p : Nat} {u v : Value} {w : World} : Box2 false lo p u v w := fun h => by cases h
theorem Box2.keeps {b : Bool} {lo p : Nat} {u v : Value} {w w1 : World} (h : Box2 b lo p u v w) (hk : Keeps w w1) : Box2 b lo p u v w1 := fun hb =>
  let ⟨h1, h2, h3, h4, h5, h6⟩ := h hb
  ⟨h1, Nat.lt_of_lt_of_le h2 hk.size, (hk.cell (p := ⟨p, 0, .none⟩) h2).trans h3, (hk.cell (p := ⟨p, 1, .none⟩) h2).trans h4, (hk.frozen (p := ⟨p, 0, .none⟩) h2).trans h5, (hk.frozen (p := ⟨p, 1, .none⟩) h2).trans h6⟩
theorem Box2.new {lo : Nat} {u v : Value} {t : TypeId} {w : World} (h : lo ≤ w.heap.size) : Box2 true lo w.heap.size u v (w.alloc (.cells #[u, v] t)) := fun _ =>
  ⟨h, by simp, by simp [go_sem], by simp [go_sem], by simp [go_sem], by simp [go_sem]⟩
theorem Box2.ne {b : Bool} {lo p : Nat} {u v : Value} {w : World} (h : Box2 b lo p u v w) (hb : b = true) : p ≠ w.heap.size := Nat.ne_of_lt (h hb).2.1
theorem Box2.far {b : Bool} {lo p q : Nat} {u v u' v' : Value} {w : World} (h : Box2 b lo p u v w) (hne : b = true → p ≠ q) : Box2 b lo p u v ((w.setCell ⟨q, 0, .none⟩ u').setCell ⟨q, 1, .none⟩ v') := fun hb =>
  let ⟨h1, h2, h3, h4, h5, h6⟩ := h hb
  have n0 : (⟨q, 0, .none⟩ : Addr).block ≠ p := fun e => hne hb e.symm
  ⟨h1, by simpa using h2, by rw [World.cell?_setCell_far _ _ _ _ n0, World.cell?_setCell_far _ _ _ _ n0]; exact h3, by rw [World.cell?_setCell_far _ _ _ _ n0, World.cell?_setCell_far _ _ _ _ n0]; exact h4, by simpa using h5, by simpa using h6⟩
theorem Box2.at {lo p : Nat} {u v u' v' : Value} {w : World} (h : Box2 true lo p u v w) : Box2 true lo p u' v' ((w.setCell ⟨p, 0, .none⟩ u').setCell ⟨p, 1, .none⟩ v') := fun _ =>
  let ⟨h1, h2, h3, h4, h5, h6⟩ := h rfl
  ⟨h1, by simpa using h2, by simp [go_sem, h3, h4], by simp [go_sem, h3, h4], by simpa using h5, by simpa using h6⟩
theorem Keeps.set2 {w0 w : World} (h : Keeps w0 w) {q : Nat} (hq : w0.heap.size ≤ q) (u v : Value) : Keeps w0 ((w.setCell ⟨q, 0, .none⟩ u).setCell ⟨q, 1, .none⟩ v) := (h.setNew hq u).setNew hq v

set_option maxHeartbeats 1000000 in
theorem rsub0_any (x y z t : Int) (w : World) :
    Calls Try.prog 49 #[.agg #[.int .i64 x, .int .i64 y], .agg #[.int .i64 z, .int .i64 t]] w fun e w' => e = .returned (.agg #[.int .i64 (hc x - hc z), .int .i64 (hc y - hc t)]) ∧ Keeps w w' := by
  obtain ⟨x0, x1⟩ := hc_bd x
  obtain ⟨y0, y1⟩ := hc_bd y
  obtain ⟨z0, z1⟩ := hc_bd z
  obtain ⟨t0, t1⟩ := hc_bd t
  have HS := Lib.hid (show ∀ w', Keeps (((w.alloc (.cells #[.int .i64 x, .int .i64 y] 50)).alloc (.cells #[.int .i64 z, .int .i64 t] 50)).alloc (.cells #[.int .i64 0, .int .i64 0] 50)) w' → w'.cell? ⟨w.heap.size, 0, none⟩ = some (.int .i64 x) ∧ w'.frozen? ⟨w.heap.size, 0, none⟩ = false ∧ w'.cell? ⟨w.heap.size, 1, none⟩ = some (.int .i64 y) ∧ w'.frozen? ⟨w.heap.size, 1, none⟩ = false ∧ w'.cell? ⟨w.heap.size + 1, 0, none⟩ = some (.int .i64 z) ∧ w'.frozen? ⟨w.heap.size + 1, 0, none⟩ = false ∧ w'.cell? ⟨w.heap.size + 1, 1, none⟩ = some (.int .i64 t) ∧ w'.frozen? ⟨w.heap.size + 1, 1, none⟩ = false ∧ w'.cell? ⟨w.heap.size + 1 + 1, 0, none⟩ = some (.int .i64 0) ∧ w'.frozen? ⟨w.heap.size + 1 + 1, 0, none⟩ = false ∧ w'.cell? ⟨w.heap.size + 1 + 1, 1, none⟩ = some (.int .i64 0) ∧ w'.frozen? ⟨w.heap.size + 1 + 1, 1, none⟩ = false from fun w' hk => ⟨(hk.cell (p := ⟨w.heap.size, 0, none⟩) (by first | (simp; done) | (simp; omega))).trans (by simp [go_sem]), (hk.frozen (p := ⟨w.heap.size, 0, none⟩) (by first | (simp; done) | (simp; omega))).trans (by simp [go_sem]), (hk.cell (p := ⟨w.heap.size, 1, none⟩) (by first | (simp; done) | (simp; omega))).trans (by simp [go_sem]), (hk.frozen (p := ⟨w.heap.size, 1, none⟩) (by first | (simp; done) | (simp; omega))).trans (by simp [go_sem]), (hk.cell (p := ⟨w.heap.size + 1, 0, none⟩) (by first | (simp; done) | (simp; omega))).trans (by simp [go_sem]), (hk.frozen (p := ⟨w.heap.size + 1, 0, none⟩) (by first | (simp; done) | (simp; omega))).trans (by simp [go_sem]), (hk.cell (p := ⟨w.heap.size + 1, 1, none⟩) (by first | (simp; done) | (simp; omega))).trans (by simp [go_sem]), (hk.frozen (p := ⟨w.heap.size + 1, 1, none⟩) (by first | (simp; done) | (simp; omega))).trans (by simp [go_sem]), (hk.cell (p := ⟨w.heap.size + 1 + 1, 0, none⟩) (by first | (simp; done) | (simp; omega))).trans (by simp [go_sem]), (hk.frozen (p := ⟨w.heap.size + 1 + 1, 0, none⟩) (by first | (simp; done) | (simp; omega))).trans (by simp [go_sem]), (hk.cell (p := ⟨w.heap.size + 1 + 1, 1, none⟩) (by first | (simp; done) | (simp; omega))).trans (by simp [go_sem]), (hk.frozen (p := ⟨w.heap.size + 1 + 1, 1, none⟩) (by first | (simp; done) | (simp; omega))).trans (by simp [go_sem])⟩)
  have HB := Lib.hid (show Keeps w (((w.alloc (.cells #[.int .i64 x, .int .i64 y] 50)).alloc (.cells #[.int .i64 z, .int .i64 t] 50)).alloc (.cells #[.int .i64 0, .int .i64 0] 50)) from (by (repeat (first | (with_reducible exact Keeps.refl _) | (with_reducible assumption) | (with_reducible refine Keeps.drewN ?_ _) | (with_reducible refine Keeps.drew ?_) | (with_reducible refine Keeps.alloc ?_ _) | (with_reducible refine Keeps.setNew ?_ ?_ _))) <;> (dsimp only; omega)))
  have hk0 := Keeps.refl (((w.alloc (.cells #[.int .i64 x, .int .i64 y] 50)).alloc (.cells #[.int .i64 z, .int .i64 t] 50)).alloc (.cells #[.int .i64 0, .int .i64 0] 50))
  go_enter Try.func49, Try.ntmps49
  go_wp2_with fail
  refine wp_region_steps (by kernel_rfl) (fun L a w' => ∃ (b0 b1 b2 b3 b4 b5 b6 b7 : Bool), L = #[b0, b1, b2, b3, b4, b5, b6, b7] ∧ ∃ (p0 p1 : Nat), a = { tmps := #[.agg #[.int .i64 x, .int .i64 y], .agg #[.int .i64 z, .int .i64 t], .pointer (some ⟨w.heap.size, 0, none⟩), .pointer (some ⟨w.heap.size + 1, 0, none⟩), .pointer (some ⟨w.heap.size + 1 + 1, 0, none⟩), if b4 then .pointer (some ⟨p0, 0, none⟩) else undef, if b5 then .pointer (some ⟨p1, 0, none⟩) else undef, if b0 then .agg #[.int .i64 x, .int .i64 y] else undef, if b1 then .agg #[.int .i64 (hc x), .int .i64 (hc y)] else undef, if b2 then .agg #[.int .i64 z, .int .i64 t] else undef, if b3 then .agg #[.int .i64 (hc z), .int .i64 (hc t)] else undef, undef, undef, undef, undef, undef, undef, undef, undef, undef, undef, undef], defers := [] } ∧ Keeps (((w.alloc (.cells #[.int .i64 x, .int .i64 y] 50)).alloc (.cells #[.int .i64 z, .int .i64 t] 50)).alloc (.cells #[.int .i64 0, .int .i64 0] 50)) w' ∧ Box2 b4 (w.heap.size + 1 + 1 + 1) p0 (.int .i64 (if b6 then (hc x) else 0)) (.int .i64 (if b6 then (hc y) else 0)) w' ∧ Box2 b5 (w.heap.size + 1 + 1 + 1) p1 (.int .i64 (if b7 then (hc z) else 0)) (.int .i64 (if b7 then (hc t) else 0)) w' ∧ (b4 = true → b5 = true → p0 ≠ p1) ∧ (b4 = false → b6 = false) ∧ (b5 = false → b7 = false)) 8 (by kernel_rfl) ?_ ?_ ?_
  · exact ⟨false, false, false, false, false, false, false, false, rfl, 0, 0, rfl, hk0.drew, Box2.none, Box2.none, (fun h => by cases h), (fun _ => rfl), (fun _ => rfl)⟩
  · refine (InvSteps.cons rfl ?_ (InvSteps.cons rfl ?_ (InvSteps.cons rfl ?_ (InvSteps.cons rfl ?_ (InvSteps.cons rfl ?_ (InvSteps.cons rfl ?_ (InvSteps.cons rfl ?_ (InvSteps.cons rfl ?_ InvSteps.nil))))))))
    all_goals rintro L a w' ⟨b0, b1, b2, b3, b4, b5, b6, b7, rfl, p0, p1, rfl, hk, HA0, HA1, D0_1, Z0, Z1⟩ hl hd K hK
    all_goals (simp [Region.binds] at hl hd; simp only [List.getElem_toArray, List.getElem_cons_zero, List.getElem_cons_succ])
    · subst hl; (repeat (rcases hd with ⟨hq, hd⟩; first | subst hq | clear hq)); (first | subst hd | clear hd | skip)
      obtain ⟨y0, y1, y2, y3, y4, y5, y6, y7, y8, y9, y10, y11⟩ := HS.out _ hk
      go_simp
      exact hK.out _ _ ⟨true, _, _, _, _, _, _, _, rfl, p0, p1, rfl, hk, HA0, HA1, D0_1, Z0, Z1⟩
    · subst hl; (repeat (rcases hd with ⟨hq, hd⟩; first | subst hq | clear hq)); (first | subst hd | clear hd | skip)
      go_simp
      go_at_call 58
      refine (rhold_any _ _ _).mono ?_; rintro e w1 ⟨rfl, hk1⟩
      exact hK.out _ _ ⟨_, true, _, _, _, _, _, _, rfl, p0, p1, rfl, hk.trans hk1, HA0.keeps hk1, HA1.keeps hk1, D0_1, Z0, Z1⟩
    · subst hl; (repeat (rcases hd with ⟨hq, hd⟩; first | subst hq | clear hq)); (first | subst hd | clear hd | skip)
      obtain ⟨y0, y1, y2, y3, y4, y5, y6, y7, y8, y9, y10, y11⟩ := HS.out _ hk
      go_simp
      exact hK.out _ _ ⟨_, _, true, _, _, _, _, _, rfl, p0, p1, rfl, hk, HA0, HA1, D0_1, Z0, Z1⟩
    · subst hl; (repeat (rcases hd with ⟨hq, hd⟩; first | subst hq | clear hq)); (first | subst hd | clear hd | skip)
      go_simp
      go_at_call 58
      refine (rhold_any _ _ _).mono ?_; rintro e w1 ⟨rfl, hk1⟩
      exact hK.out _ _ ⟨_, _, _, true, _, _, _, _, rfl, p0, p1, rfl, hk.trans hk1, HA0.keeps hk1, HA1.keeps hk1, D0_1, Z0, Z1⟩
    · subst hl; obtain rfl := Z0 rfl
      have hs := hk.size; simp at hs
      go_simp
      exact hK.out _ _ ⟨_, _, _, _, true, _, _, _, rfl, w'.heap.size, p1, rfl, hk.alloc _, Box2.new (by omega), HA1.keeps ((Keeps.refl _).alloc _), (fun _ h => (HA1.ne h).symm), (fun h => by cases h), Z1⟩
    · subst hl; obtain rfl := Z1 rfl
      have hs := hk.size; simp at hs
      go_simp
      exact hK.out _ _ ⟨_, _, _, _, _, true, _, _, rfl, p0, w'.heap.size, rfl, hk.alloc _, HA0.keeps ((Keeps.refl _).alloc _), Box2.new (by omega), (fun h _ => HA0.ne h), Z0, (fun h => by cases h)⟩
    · subst hl; (repeat (rcases hd with ⟨hq, hd⟩; first | subst hq | clear hq)); (first | subst hd | clear hd | skip)
      obtain ⟨q1, q2, q3, q4, q5, q6⟩ := HA0 rfl
      have hs := hk.size; simp at hs
      go_simp
      exact hK.out _ _ ⟨_, _, _, _, _, _, true, _, rfl, p0, p1, rfl, hk.set2 (by simp; omega) _ _, HA0.at, HA1.far (fun h e => D0_1 rfl h e.symm), D0_1, (fun h => by cases h), Z1⟩
    · subst hl; (repeat (rcases hd with ⟨hq, hd⟩; first | subst hq | clear hq)); (first | subst hd | clear hd | skip)
      obtain ⟨q1, q2, q3, q4, q5, q6⟩ := HA1 rfl
      have hs := hk.size; simp at hs
      go_simp
      exact hK.out _ _ ⟨_, _, _, _, _, _, _, true, rfl, p0, p1, rfl, hk.set2 (by simp; omega) _ _, HA0.far (fun h => D0_1 h rfl), HA1.at, D0_1, Z0, (fun h => by cases h)⟩
  · rintro L a w' ⟨b0, b1, b2, b3, b4, b5, b6, b7, rfl, p0, p1, rfl, hk, HA0, HA1, D0_1, Z0, Z1⟩ hr
    have c := ready_nil hr 0 rfl (by simp [Region.binds]); simp at c; subst c
    have c := ready_nil hr 1 rfl (by simp [Region.binds]); simp at c; subst c
    have c := ready_nil hr 2 rfl (by simp [Region.binds]); simp at c; subst c
    have c := ready_nil hr 3 rfl (by simp [Region.binds]); simp at c; subst c
    have c := ready_nil hr 4 rfl (by simp [Region.binds]); simp at c; subst c
    have c := ready_nil hr 5 rfl (by simp [Region.binds]); simp at c; subst c
    have c := ready_nil hr 6 rfl (by simp [Region.binds]); simp at c; subst c
    have c := ready_nil hr 7 rfl (by simp [Region.binds]); simp at c; subst c
    clear hr Z0 Z1
    obtain ⟨q0_1, q0_2, q0_3, q0_4, q0_5, q0_6⟩ := HA0 rfl
    simp only [if_true] at q0_3 q0_4
    have HB0 := Lib.hid HA0; clear HA0; simp only [if_true] at HB0
    obtain ⟨q1_1, q1_2, q1_3, q1_4, q1_5, q1_6⟩ := HA1 rfl
    simp only [if_true] at q1_3 q1_4
    have HB1 := Lib.hid HA1; clear HA1; simp only [if_true] at HB1
    have D0_1 := D0_1 rfl rfl
    simp only [if_true]
    obtain ⟨y0, y1, y2, y3, y4, y5, y6, y7, y8, y9, y10, y11⟩ := HS.out _ hk
    have hj := Keeps.trans HB.out hk
    go_wp2_with fail
    exact bodyPost_ret (v := .agg #[.int .i64 (hc x - hc z), .int .i64 (hc y - hc t)]) (by simp [results, Try.results49, go_sem, *]) rfl ⟨rfl, (by (repeat (first | (with_reducible exact Keeps.refl _) | (with_reducible assumption) | (with_reducible refine Keeps.drewN ?_ _) | (with_reducible refine Keeps.drew ?_) | (with_reducible refine Keeps.alloc ?_ _) | (with_reducible refine Keeps.setNew ?_ ?_ _))) <;> (dsimp only; omega))⟩

theorem rsub_any (x y z t : Int) (w : World) :
    Calls Try.prog 49 #[.agg #[.int .i64 x, .int .i64 y], .agg #[.int .i64 z, .int .i64 t]] w fun e w' => e = .returned (.agg #[.int .i64 (subc x z), .int .i64 (subc y t)]) ∧ Keeps w w' := rsub0_any x y z t w

set_option maxHeartbeats 1000000 in
theorem rdot_any (x y z t : Int) (w : World) :
    Calls Try.prog 66 #[.agg #[.int .i64 x, .int .i64 y], .agg #[.int .i64 z, .int .i64 t]] w fun e w' => e = .returned (.int .i64 (dotI (hc x) (hc y) (hc z) (hc t))) ∧ Keeps w w' := by
  obtain ⟨x0, x1⟩ := hc_bd x
  obtain ⟨y0, y1⟩ := hc_bd y
  obtain ⟨z0, z1⟩ := hc_bd z
  obtain ⟨t0, t1⟩ := hc_bd t
  obtain ⟨m, em, m0, m1⟩ := mul_bd (hc x) (hc z) (by omega) (by omega) (by omega) (by omega)
  obtain ⟨n, en, n0, n1⟩ := mul_bd (hc y) (hc t) (by omega) (by omega) (by omega) (by omega)
  rw [show dotI (hc x) (hc y) (hc z) (hc t) = m + n by unfold dotI; rw [em, en]]
  have HS := Lib.hid (show ∀ w', Keeps ((w.alloc (.cells #[.int .i64 x, .int .i64 y] 50)).alloc (.cells #[.int .i64 z, .int .i64 t] 50)) w' → w'.cell? ⟨w.heap.size, 0, none⟩ = some (.int .i64 x) ∧ w'.frozen? ⟨w.heap.size, 0, none⟩ = false ∧ w'.cell? ⟨w.heap.size, 1, none⟩ = some (.int .i64 y) ∧ w'.frozen? ⟨w.heap.size, 1, none⟩ = false ∧ w'.cell? ⟨w.heap.size + 1, 0, none⟩ = some (.int .i64 z) ∧ w'.frozen? ⟨w.heap.size + 1, 0, none⟩ = false ∧ w'.cell? ⟨w.heap.size + 1, 1, none⟩ = some (.int .i64 t) ∧ w'.frozen? ⟨w.heap.size + 1, 1, none⟩ = false from fun w' hk => ⟨(hk.cell (p := ⟨w.heap.size, 0, none⟩) (by first | (simp; done) | (simp; omega))).trans (by simp [go_sem]), (hk.frozen (p := ⟨w.heap.size, 0, none⟩) (by first | (simp; done) | (simp; omega))).trans (by simp [go_sem]), (hk.cell (p := ⟨w.heap.size, 1, none⟩) (by first | (simp; done) | (simp; omega))).trans (by simp [go_sem]), (hk.frozen (p := ⟨w.heap.size, 1, none⟩) (by first | (simp; done) | (simp; omega))).trans (by simp [go_sem]), (hk.cell (p := ⟨w.heap.size + 1, 0, none⟩) (by first | (simp; done) | (simp; omega))).trans (by simp [go_sem]), (hk.frozen (p := ⟨w.heap.size + 1, 0, none⟩) (by first | (simp; done) | (simp; omega))).trans (by simp [go_sem]), (hk.cell (p := ⟨w.heap.size + 1, 1, none⟩) (by first | (simp; done) | (simp; omega))).trans (by simp [go_sem]), (hk.frozen (p := ⟨w.heap.size + 1, 1, none⟩) (by first | (simp; done) | (simp; omega))).trans (by simp [go_sem])⟩)
  have HB := Lib.hid (show Keeps w ((w.alloc (.cells #[.int .i64 x, .int .i64 y] 50)).alloc (.cells #[.int .i64 z, .int .i64 t] 50)) from (by (repeat (first | (with_reducible exact Keeps.refl _) | (with_reducible assumption) | (with_reducible refine Keeps.drewN ?_ _) | (with_reducible refine Keeps.drew ?_) | (with_reducible refine Keeps.alloc ?_ _) | (with_reducible refine Keeps.setNew ?_ ?_ _))) <;> (dsimp only; omega)))
  have hk0 := Keeps.refl ((w.alloc (.cells #[.int .i64 x, .int .i64 y] 50)).alloc (.cells #[.int .i64 z, .int .i64 t] 50))
  go_enter Try.func66, Try.ntmps66
  go_wp2_with fail
  refine wp_region_steps (by kernel_rfl) (fun L a w' => ∃ (b0 b1 b2 b3 b4 b5 b6 b7 : Bool), L = #[b0, b1, b2, b3, b4, b5, b6, b7] ∧ ∃ (p0 p1 : Nat), a = { tmps := #[.agg #[.int .i64 x, .int .i64 y], .agg #[.int .i64 z, .int .i64 t], .pointer (some ⟨w.heap.size, 0, none⟩), .pointer (some ⟨w.heap.size + 1, 0, none⟩), .int .i64 0, if b4 then .pointer (some ⟨p0, 0, none⟩) else undef, if b5 then .pointer (some ⟨p1, 0, none⟩) else undef, if b0 then .agg #[.int .i64 x, .int .i64 y] else undef, if b1 then .agg #[.int .i64 (hc x), .int .i64 (hc y)] else undef, if b2 then .agg #[.int .i64 z, .int .i64 t] else undef, if b3 then .agg #[.int .i64 (hc z), .int .i64 (hc t)] else undef, undef, undef, undef, undef, undef, undef, undef, undef, undef, undef, undef], defers := [] } ∧ Keeps ((w.alloc (.cells #[.int .i64 x, .int .i64 y] 50)).alloc (.cells #[.int .i64 z, .int .i64 t] 50)) w' ∧ Box2 b4 (w.heap.size + 1 + 1) p0 (.int .i64 (if b6 then (hc x) else 0)) (.int .i64 (if b6 then (hc y) else 0)) w' ∧ Box2 b5 (w.heap.size + 1 + 1) p1 (.int .i64 (if b7 then (hc z) else 0)) (.int .i64 (if b7 then (hc t) else 0)) w' ∧ (b4 = true → b5 = true → p0 ≠ p1) ∧ (b4 = false → b6 = false) ∧ (b5 = false → b7 = false)) 8 (by kernel_rfl) ?_ ?_ ?_
  · exact ⟨false, false, false, false, false, false, false, false, rfl, 0, 0, rfl, hk0.drew, Box2.none, Box2.none, (fun h => by cases h), (fun _ => rfl), (fun _ => rfl)⟩
  · refine (InvSteps.cons rfl ?_ (InvSteps.cons rfl ?_ (InvSteps.cons rfl ?_ (InvSteps.cons rfl ?_ (InvSteps.cons rfl ?_ (InvSteps.cons rfl ?_ (InvSteps.cons rfl ?_ (InvSteps.cons rfl ?_ InvSteps.nil))))))))
    all_goals rintro L a w' ⟨b0, b1, b2, b3, b4, b5, b6, b7, rfl, p0, p1, rfl, hk, HA0, HA1, D0_1, Z0, Z1⟩ hl hd K hK
    all_goals (simp [Region.binds] at hl hd; simp only [List.getElem_toArray, List.getElem_cons_zero, List.getElem_cons_succ])
    · subst hl; (repeat (rcases hd with ⟨hq, hd⟩; first | subst hq | clear hq)); (first | subst hd | clear hd | skip)
      obtain ⟨y0, y1, y2, y3, y4, y5, y6, y7⟩ := HS.out _ hk
      go_simp
      exact hK.out _ _ ⟨true, _, _, _, _, _, _, _, rfl, p0, p1, rfl, hk, HA0, HA1, D0_1, Z0, Z1⟩
    · subst hl; (repeat (rcases hd with ⟨hq, hd⟩; first | subst hq | clear hq)); (first | subst hd | clear hd | skip)
      go_simp
      go_at_call 58
      refine (rhold_any _ _ _).mono ?_; rintro e w1 ⟨rfl, hk1⟩
      exact hK.out _ _ ⟨_, true, _, _, _, _, _, _, rfl, p0, p1, rfl, hk.trans hk1, HA0.keeps hk1, HA1.keeps hk1, D0_1, Z0, Z1⟩
    · subst hl; (repeat (rcases hd with ⟨hq, hd⟩; first | subst hq | clear hq)); (first | subst hd | clear hd | skip)
      obtain ⟨y0, y1, y2, y3, y4, y5, y6, y7⟩ := HS.out _ hk
      go_simp
      exact hK.out _ _ ⟨_, _, true, _, _, _, _, _, rfl, p0, p1, rfl, hk, HA0, HA1, D0_1, Z0, Z1⟩
    · subst hl; (repeat (rcases hd with ⟨hq, hd⟩; first | subst hq | clear hq)); (first | subst hd | clear hd | skip)
      go_simp
      go_at_call 58
      refine (rhold_any _ _ _).mono ?_; rintro e w1 ⟨rfl, hk1⟩
      exact hK.out _ _ ⟨_, _, _, true, _, _, _, _, rfl, p0, p1, rfl, hk.trans hk1, HA0.keeps hk1, HA1.keeps hk1, D0_1, Z0, Z1⟩
    · subst hl; obtain rfl := Z0 rfl
      have hs := hk.size; simp at hs
      go_simp
      exact hK.out _ _ ⟨_, _, _, _, true, _, _, _, rfl, w'.heap.size, p1, rfl, hk.alloc _, Box2.new (by omega), HA1.keeps ((Keeps.refl _).alloc _), (fun _ h => (HA1.ne h).symm), (fun h => by cases h), Z1⟩
    · subst hl; obtain rfl := Z1 rfl
      have hs := hk.size; simp at hs
      go_simp
      exact hK.out _ _ ⟨_, _, _, _, _, true, _, _, rfl, p0, w'.heap.size, rfl, hk.alloc _, HA0.keeps ((Keeps.refl _).alloc _), Box2.new (by omega), (fun h _ => HA0.ne h), Z0, (fun h => by cases h)⟩
    · subst hl; (repeat (rcases hd with ⟨hq, hd⟩; first | subst hq | clear hq)); (first | subst hd | clear hd | skip)
      obtain ⟨q1, q2, q3, q4, q5, q6⟩ := HA0 rfl
      have hs := hk.size; simp at hs
      go_simp
      exact hK.out _ _ ⟨_, _, _, _, _, _, true, _, rfl, p0, p1, rfl, hk.set2 (by simp; omega) _ _, HA0.at, HA1.far (fun h e => D0_1 rfl h e.symm), D0_1, (fun h => by cases h), Z1⟩
    · subst hl; (repeat (rcases hd with ⟨hq, hd⟩; first | subst hq | clear hq)); (first | subst hd | clear hd | skip)
      obtain ⟨q1, q2, q3, q4, q5, q6⟩ := HA1 rfl
      have hs := hk.size; simp at hs
      go_simp
      exact hK.out _ _ ⟨_, _, _, _, _, _, _, true, rfl, p0, p1, rfl, hk.set2 (by simp; omega) _ _, HA0.far (fun h => D0_1 h rfl), HA1.at, D0_1, Z0, (fun h => by cases h)⟩
  · rintro L a w' ⟨b0, b1, b2, b3, b4, b5, b6, b7, rfl, p0, p1, rfl, hk, HA0, HA1, D0_1, Z0, Z1⟩ hr
    have c := ready_nil hr 0 rfl (by simp [Region.binds]); simp at c; subst c
    have c := ready_nil hr 1 rfl (by simp [Region.binds]); simp at c; subst c
    have c := ready_nil hr 2 rfl (by simp [Region.binds]); simp at c; subst c
    have c := ready_nil hr 3 rfl (by simp [Region.binds]); simp at c; subst c
    have c := ready_nil hr 4 rfl (by simp [Region.binds]); simp at c; subst c
    have c := ready_nil hr 5 rfl (by simp [Region.binds]); simp at c; subst c
    have c := ready_nil hr 6 rfl (by simp [Region.binds]); simp at c; subst c
    have c := ready_nil hr 7 rfl (by simp [Region.binds]); simp at c; subst c
    clear hr Z0 Z1
    obtain ⟨q0_1, q0_2, q0_3, q0_4, q0_5, q0_6⟩ := HA0 rfl
    simp only [if_true] at q0_3 q0_4
    have HB0 := Lib.hid HA0; clear HA0; simp only [if_true] at HB0
    obtain ⟨q1_1, q1_2, q1_3, q1_4, q1_5, q1_6⟩ := HA1 rfl
    simp only [if_true] at q1_3 q1_4
    have HB1 := Lib.hid HA1; clear HA1; simp only [if_true] at HB1
    have D0_1 := D0_1 rfl rfl
    simp only [if_true]
    obtain ⟨y0, y1, y2, y3, y4, y5, y6, y7⟩ := HS.out _ hk
    have hj := Keeps.trans HB.out hk
    go_wp2_with fail
    go_ret
    exact ⟨rfl, (by (repeat (first | (with_reducible exact Keeps.refl _) | (with_reducible assumption) | (with_reducible refine Keeps.drewN ?_ _) | (with_reducible refine Keeps.drew ?_) | (with_reducible refine Keeps.alloc ?_ _) | (with_reducible refine Keeps.setNew ?_ ?_ _))) <;> (dsimp only; omega))⟩

set_option maxHeartbeats 400000 in
theorem rlength_any (x y : Int) (w : World) :
    Calls Try.prog 48 #[.agg #[.int .i64 x, .int .i64 y]] w fun e w' => e = .returned (.int .i64 (lenI x y)) ∧ Keeps w w' := by
  obtain ⟨d, m, e1, d1, e2, m1, HL⟩ := dotI_self x y
  have hs := isq_le32 m m1
  have HD := Lib.hid (fun w => rdot_any x y x y w)
  rw [e1] at HD
  have HS := Lib.hid (show ∀ w', Keeps (w.alloc (.cells #[.int .i64 x, .int .i64 y] 50)) w' → w'.cell? ⟨w.heap.size, 0, none⟩ = some (.int .i64 x) ∧ w'.frozen? ⟨w.heap.size, 0, none⟩ = false ∧ w'.cell? ⟨w.heap.size, 1, none⟩ = some (.int .i64 y) ∧ w'.frozen? ⟨w.heap.size, 1, none⟩ = false from fun w' hk => ⟨(hk.cell (p := ⟨w.heap.size, 0, none⟩) (by first | (simp; done) | (simp; omega))).trans (by simp [go_sem]), (hk.frozen (p := ⟨w.heap.size, 0, none⟩) (by first | (simp; done) | (simp; omega))).trans (by simp [go_sem]), (hk.cell (p := ⟨w.heap.size, 1, none⟩) (by first | (simp; done) | (simp; omega))).trans (by simp [go_sem]), (hk.frozen (p := ⟨w.heap.size, 1, none⟩) (by first | (simp; done) | (simp; omega))).trans (by simp [go_sem])⟩)
  have HB := Lib.hid (show Keeps w (w.alloc (.cells #[.int .i64 x, .int .i64 y] 50)) from (by (repeat (first | (with_reducible exact Keeps.refl _) | (with_reducible assumption) | (with_reducible refine Keeps.drewN ?_ _) | (with_reducible refine Keeps.drew ?_) | (with_reducible refine Keeps.alloc ?_ _) | (with_reducible refine Keeps.setNew ?_ ?_ _))) <;> (dsimp only; omega)))
  have hk0 := Keeps.refl (w.alloc (.cells #[.int .i64 x, .int .i64 y] 50))
  rw [HL.out]
  clear e1
  go_enter Try.func48, Try.ntmps48
  go_wp2_with (first | (go_at_call 66; refine (keep (HD.out _) (by first | assumption | exact Keeps.drew (by assumption) | exact Keeps.drewN (by assumption) _)).mono ?_; rintro e w1 ⟨rfl, hk⟩; have hj := Keeps.trans HB.out hk; have hk := hk; obtain ⟨y0, y1, y2, y3⟩ := HS.out _ hk) | (go_at_call 65; refine (rsqrt_any _ _).mono ?_; rintro e w1 ⟨rfl, rfl⟩))
  go_ret
  exact ⟨rfl, Keeps.trans HB.out (by (repeat (first | (with_reducible exact Keeps.refl _) | (with_reducible assumption) | (with_reducible refine Keeps.drewN ?_ _) | (with_reducible refine Keeps.drew ?_) | (with_reducible refine Keeps.alloc ?_ _) | (with_reducible refine Keeps.setNew ?_ ?_ _))) <;> (dsimp only; omega))⟩

end

section
open Go.RowKit
attribute [local go_sem ↓] Go.wp_at_zero Go.wp_at_succ
set_option linter.unusedSimpArgs false
set_option linter.unusedVariables false
theorem seg_sgn (a b p : Int) : (a - p) * (b - p) ≤ 0 ↔ min a b ≤ p ∧ p ≤ max a b := by
  constructor
  · intro h
    refine ⟨?_, ?_⟩
    · apply Classical.byContradiction; intro hn
      have := Int.mul_pos (show 0 < a - p by omega) (show 0 < b - p by omega)
      omega
    · apply Classical.byContradiction; intro hn
      have := Int.mul_pos (show 0 < p - a by omega) (show 0 < p - b by omega)
      rw [show (p - a) * (p - b) = (a - p) * (b - p) by rw [← Int.neg_sub a p, ← Int.neg_sub b p, Int.neg_mul_neg]] at this
      omega
  · intro h
    by_cases h1 : a ≤ p
    · by_cases h2 : b ≤ p
      · have : a = p ∨ b = p := by omega
        rcases this with h | h <;> subst h <;> simp
      · exact Int.mul_nonpos_of_nonpos_of_nonneg (by omega) (by omega)
    · exact Int.mul_nonpos_of_nonneg_of_nonpos (by omega) (by omega)
theorem seg_core (s t m : Int) (h : s * t = m * m) : s + t ≤ 0 ↔ s ≤ 0 ∧ t ≤ 0 := by
  constructor
  · intro h1
    have hm : 0 ≤ m * m := by
      rcases Int.le_total 0 m with h | h
      · exact Int.mul_nonneg h h
      · exact Int.mul_nonneg_of_nonpos_of_nonpos h h
    refine ⟨?_, ?_⟩
    · apply Classical.byContradiction; intro hn
      have := Int.mul_neg_of_pos_of_neg (show 0 < s by omega) (show t < 0 by omega)
      omega
    · apply Classical.byContradiction; intro hn
      have := Int.mul_neg_of_neg_of_pos (show s < 0 by omega) (show 0 < t by omega)
      omega
  · omega
theorem seg_box (ax ay bx b_y px py : Int) (hc : (bx - ax) * (py - ay) - (b_y - ay) * (px - ax) = 0) :
    (ax - px) * (bx - px) + (ay - py) * (b_y - py) ≤ 0 ↔ (min ax bx ≤ px ∧ px ≤ max ax bx) ∧ (min ay b_y ≤ py ∧ py ≤ max ay b_y) := by
  have e : (ax - px) * (b_y - py) = (bx - px) * (ay - py) := by
    have h1 : (bx - ax) * (py - ay) = (b_y - ay) * (px - ax) := by omega
    simp only [Int.sub_mul, Int.mul_sub] at h1 ⊢
    rw [Int.mul_comm b_y px, Int.mul_comm b_y ax, Int.mul_comm ay px, Int.mul_comm ay ax] at h1
    omega
  rw [← seg_sgn, ← seg_sgn]
  refine seg_core _ _ ((bx - px) * (ay - py)) ?_
  calc (ax - px) * (bx - px) * ((ay - py) * (b_y - py)) = (ax - px) * (b_y - py) * ((bx - px) * (ay - py)) := by
        simp only [Int.mul_assoc, Int.mul_comm, Int.mul_left_comm]
    _ = _ := by rw [e]
theorem hc_hc (n : Int) : hc (hc n) = hc n := hc_id (hc_bd n)
theorem cl1_zero (n : Int) : clI n (-1) 1 = 0 ↔ n = 0 := by unfold clI; split <;> (try split) <;> omega
theorem onB_iff (ax ay bx b_y px py : Int) : onB ax ay bx b_y px py = true ↔ oriI (hc ax) (hc ay) (hc bx) (hc b_y) (hc px) (hc py) = 0 ∧ min (hc ax) (hc bx) ≤ hc px ∧ hc px ≤ max (hc ax) (hc bx) ∧ min (hc ay) (hc b_y) ≤ hc py ∧ hc py ≤ max (hc ay) (hc b_y) := by
  unfold onB oriI
  simp only [Bool.and_eq_true, beq_iff_eq, decide_eq_true_eq, cl1_zero]
  unfold crossI dotI subc
  simp only [hc_hc]
  constructor
  · rintro ⟨h1, h2⟩
    have := (seg_box (hc ax) (hc ay) (hc bx) (hc b_y) (hc px) (hc py) h1).1 h2
    exact ⟨h1, this.1.1, this.1.2, this.2.1, this.2.2⟩
  · rintro ⟨h1, h2, h3, h4, h5⟩
    exact ⟨h1, (seg_box (hc ax) (hc ay) (hc bx) (hc b_y) (hc px) (hc py) h1).2 ⟨⟨h2, h3⟩, h4, h5⟩⟩
theorem ret_bool {X Y : Bool} (h : X = Y) : Ending.returned (.bool X) = Ending.returned (.bool Y) := by rw [h]
end

section
open Go.RowKit
attribute [local go_sem ↓] Go.wp_at_zero Go.wp_at_succ
set_option linter.unusedSimpArgs false
set_option linter.unusedVariables false
theorem lessB_iff (x y z t : Int) : lessB x y z t = true ↔ hc y < hc t ∨ (hc y = hc t ∧ hc x < hc z) := by
  unfold lessB; simp only [Bool.or_eq_true, Bool.and_eq_true, beq_iff_eq, decide_eq_true_eq]
theorem hc_iff (n : Int) : hc n = n ↔ -1048576 ≤ n ∧ n ≤ 1048576 := ⟨fun h => by have := hc_bd n; omega, hc_id⟩
theorem validB_iff (x y : Int) : validB x y = true ↔ (-1048576 ≤ x ∧ x ≤ 1048576) ∧ -1048576 ≤ y ∧ y ≤ 1048576 := by
  unfold validB; simp only [Bool.and_eq_true, beq_iff_eq, hc_iff]
set_option maxHeartbeats 4000000 in
theorem rvalid_any (x y : Int) (w : World) :
    Calls Try.prog 47 #[.agg #[.int .i64 x, .int .i64 y]] w fun e w' => e = .returned (.bool (validB x y)) ∧ Keeps w w' := by
  have HS := Lib.hid (show ∀ w', Keeps (w.alloc (.cells #[.int .i64 x, .int .i64 y] 50)) w' → w'.cell? ⟨w.heap.size, 0, none⟩ = some (.int .i64 x) ∧ w'.frozen? ⟨w.heap.size, 0, none⟩ = false ∧ w'.cell? ⟨w.heap.size, 1, none⟩ = some (.int .i64 y) ∧ w'.frozen? ⟨w.heap.size, 1, none⟩ = false from fun w' hk => ⟨(hk.cell (p := ⟨w.heap.size, 0, none⟩) (by first | (simp; done) | (simp; omega))).trans (by simp [go_sem]), (hk.frozen (p := ⟨w.heap.size, 0, none⟩) (by first | (simp; done) | (simp; omega))).trans (by simp [go_sem]), (hk.cell (p := ⟨w.heap.size, 1, none⟩) (by first | (simp; done) | (simp; omega))).trans (by simp [go_sem]), (hk.frozen (p := ⟨w.heap.size, 1, none⟩) (by first | (simp; done) | (simp; omega))).trans (by simp [go_sem])⟩)
  have HB := Lib.hid (show Keeps w (w.alloc (.cells #[.int .i64 x, .int .i64 y] 50)) from (by (repeat (first | (with_reducible exact Keeps.refl _) | (with_reducible assumption) | (with_reducible refine Keeps.drewN ?_ _) | (with_reducible refine Keeps.drew ?_) | (with_reducible refine Keeps.alloc ?_ _) | (with_reducible refine Keeps.setNew ?_ ?_ _))) <;> (dsimp only; omega)))
  have hk0 := Keeps.refl (w.alloc (.cells #[.int .i64 x, .int .i64 y] 50))
  go_enter Try.func47, Try.ntmps47
  go_wp2_with fail
  all_goals (go_ret; refine ⟨ret_bool ?_, HB.out⟩; rw [Bool.eq_iff_iff, validB_iff]; simp only [decide_eq_true_eq, Bool.false_eq_true, false_iff, true_iff]; omega)
end
end Go.Proofs.Ytihmhpleiefodaa
