/- VecIdentities of grisaillelaw11 returns true for all its arguments: every two points; no condition. -/
import Derived.Test.YtpmhmaiagjdpeaaKk
import Derived.Test.YtpmhmaiagjdpeaaOp
import Derived.Test.YtpmhmaiagjdpeaaRw
namespace Go.Proofs.Ytpmhmaiagjdpeaa.vecIdentities
open Go.RowKit Go.ChangeShapes Go.WideShapes Go.ChangeAt
set_option linter.unusedVariables false
open Go.Proofs.Ytpmhmaiagjdpeaa
theorem bb1 : (true == true) = true := rfl
theorem bb2 : (false == false) = true := rfl
attribute [local go_sem ↓] Go.wp_at_zero Go.wp_at_succ bb1 bb2
set_option linter.unusedSimpArgs false

theorem valid_iff (x y : Int) : validB x y = true ↔ (-1048576 ≤ x ∧ x ≤ 1048576) ∧ (-1048576 ≤ y ∧ y ≤ 1048576) := by
  unfold validB
  rw [Bool.and_eq_true, beq_iff_eq, beq_iff_eq]
  constructor
  · rintro ⟨h1, h2⟩
    have := hc_bd x
    have := hc_bd y
    rw [h1] at *; rw [h2] at *; omega
  · rintro ⟨h1, h2⟩; exact ⟨hc_id h1, hc_id h2⟩
theorem dot_perp (x y z t : Int) : dotI (-y) x z t = crossI x y z t := by
  unfold dotI crossI; rw [Int.neg_mul]; omega
theorem cross_swap (x y z t : Int) : crossI z t x y = -crossI x y z t := by
  unfold crossI
  have := Int.mul_comm x t
  have := Int.mul_comm y z
  omega
theorem dot_swap (x y z t : Int) : dotI z t x y = dotI x y z t := by
  unfold dotI; rw [Int.mul_comm z x, Int.mul_comm t y]
theorem dot_self_perp (x y : Int) : dotI x y (-y) x = 0 := by
  unfold dotI; rw [Int.mul_neg, Int.mul_comm y x]; omega
theorem prod_bd {a b : Int} (h : -1048576 ≤ a ∧ a ≤ 1048576) (h2 : -1048576 ≤ b ∧ b ≤ 1048576) : -1099511627776 ≤ a * b ∧ a * b ≤ 1099511627776 := by
  have := Nat.mul_le_mul (show a.natAbs ≤ 1048576 by omega) (show b.natAbs ≤ 1048576 by omega)
  rw [← Int.natAbs_mul] at this
  omega
theorem len_perp (x y : Int) (h : -1048576 ≤ x ∧ x ≤ 1048576) (h2 : -1048576 ≤ y ∧ y ≤ 1048576) : lenI (-y) x = lenI x y := by
  unfold lenI
  rw [hc_id (n := -y) (by omega), hc_id h, hc_id h2]
  congr 2
  unfold dotI
  rw [Int.neg_mul_neg]; omega
theorem less_swap (x y z t : Int) (h1 : -1048576 ≤ x ∧ x ≤ 1048576) (h2 : -1048576 ≤ y ∧ y ≤ 1048576) (h3 : -1048576 ≤ z ∧ z ≤ 1048576) (h4 : -1048576 ≤ t ∧ t ≤ 1048576) :
    (lessB x y z t = true ∧ lessB z t x y = false ∧ ((x == z) && (y == t)) = false) ∨ (lessB x y z t = false ∧ lessB z t x y = true ∧ ((x == z) && (y == t)) = false) ∨ (lessB x y z t = false ∧ lessB z t x y = false ∧ ((x == z) && (y == t)) = true) := by
  unfold lessB
  rw [hc_id h1, hc_id h2, hc_id h3, hc_id h4]
  by_cases a : y = t <;> by_cases b : x = z
  · subst a b; simp
  · subst a
    by_cases c : x < z
    · left; simp [c, b]; omega
    · right; left; simp [c, b]; omega
  · subst b
    by_cases c : y < t
    · left; simp [c, a]; omega
    · right; left; simp [c, a]; omega
  · by_cases c : y < t
    · left; simp [c, a]; omega
    · right; left; simp [c, a]; omega
/-- Sub inverts Add where the sum is valid. -/
theorem sub_add (x y z t : Int) (h1 : -1048576 ≤ x ∧ x ≤ 1048576) (h2 : -1048576 ≤ y ∧ y ≤ 1048576) (h3 : -1048576 ≤ z ∧ z ≤ 1048576) (h4 : -1048576 ≤ t ∧ t ≤ 1048576) :
    ((hc (x + z) - z == x) && (hc (y + t) - t == y)) = true ∨ (((hc (x + z) - z == x) && (hc (y + t) - t == y)) = false ∧ validB (x + z) (y + t) = false) := by
  cases hv : validB (x + z) (y + t)
  · cases h : ((hc (x + z) - z == x) && (hc (y + t) - t == y))
    · exact .inr ⟨rfl, rfl⟩
    · exact .inl rfl
  · left
    obtain ⟨a, b⟩ := (valid_iff _ _).1 hv
    rw [hc_id a, hc_id b, Int.add_sub_cancel, Int.add_sub_cancel]; simp
set_option maxRecDepth 100000 in
set_option maxHeartbeats 2000000 in
theorem walk (x y z t : Int) (w : World) (lx : -9223372036854775808 ≤ x) (ux : x ≤ 9223372036854775807) (ly : -9223372036854775808 ≤ y) (uy : y ≤ 9223372036854775807) (lz : -9223372036854775808 ≤ z) (uz : z ≤ 9223372036854775807) (lt : -9223372036854775808 ≤ t) (ut : t ≤ 9223372036854775807) :
    Calls Try.prog 8 #[.agg #[.int .i64 x, .int .i64 y], .agg #[.int .i64 z, .int .i64 t]] w fun e w' => e = .returned (.bool true) ∧ Below w.heap.size w w' := by
  have HS := Lib.hid (show ∀ w', Keeps ((w.alloc (.cells #[.int .i64 x, .int .i64 y] 23)).alloc (.cells #[.int .i64 z, .int .i64 t] 23)) w' → w'.cell? ⟨w.heap.size, 0, none⟩ = some (.int .i64 x) ∧ w'.frozen? ⟨w.heap.size, 0, none⟩ = false ∧ w'.cell? ⟨w.heap.size, 1, none⟩ = some (.int .i64 y) ∧ w'.frozen? ⟨w.heap.size, 1, none⟩ = false ∧ w'.cell? ⟨w.heap.size + 1, 0, none⟩ = some (.int .i64 z) ∧ w'.frozen? ⟨w.heap.size + 1, 0, none⟩ = false ∧ w'.cell? ⟨w.heap.size + 1, 1, none⟩ = some (.int .i64 t) ∧ w'.frozen? ⟨w.heap.size + 1, 1, none⟩ = false from fun w' hk => ⟨(hk.cell (p := ⟨w.heap.size, 0, none⟩) (by first | (simp; done) | (simp; omega))).trans (by simp [go_sem]), (hk.frozen (p := ⟨w.heap.size, 0, none⟩) (by first | (simp; done) | (simp; omega))).trans (by simp [go_sem]), (hk.cell (p := ⟨w.heap.size, 1, none⟩) (by first | (simp; done) | (simp; omega))).trans (by simp [go_sem]), (hk.frozen (p := ⟨w.heap.size, 1, none⟩) (by first | (simp; done) | (simp; omega))).trans (by simp [go_sem]), (hk.cell (p := ⟨w.heap.size + 1, 0, none⟩) (by first | (simp; done) | (simp; omega))).trans (by simp [go_sem]), (hk.frozen (p := ⟨w.heap.size + 1, 0, none⟩) (by first | (simp; done) | (simp; omega))).trans (by simp [go_sem]), (hk.cell (p := ⟨w.heap.size + 1, 1, none⟩) (by first | (simp; done) | (simp; omega))).trans (by simp [go_sem]), (hk.frozen (p := ⟨w.heap.size + 1, 1, none⟩) (by first | (simp; done) | (simp; omega))).trans (by simp [go_sem])⟩)
  have HB := Lib.hid (show Keeps w ((w.alloc (.cells #[.int .i64 x, .int .i64 y] 23)).alloc (.cells #[.int .i64 z, .int .i64 t] 23)) from (by (repeat (first | (with_reducible exact Keeps.refl _) | (with_reducible assumption) | (with_reducible refine Keeps.drewN ?_ _) | (with_reducible refine Keeps.drew ?_) | (with_reducible refine Keeps.alloc ?_ _) | (with_reducible refine Keeps.setNew ?_ ?_ _))) <;> (dsimp only; omega)))
  have hk0 := Keeps.refl ((w.alloc (.cells #[.int .i64 x, .int .i64 y] 23)).alloc (.cells #[.int .i64 z, .int .i64 t] 23))
  have V1 := Lib.hid (fun w' (hk : Keeps ((w.alloc (.cells #[.int .i64 x, .int .i64 y] 23)).alloc (.cells #[.int .i64 z, .int .i64 t] 23)) w') => keepk (valid_any x y w') hk)
  have V2 := Lib.hid (fun w' (hk : Keeps ((w.alloc (.cells #[.int .i64 x, .int .i64 y] 23)).alloc (.cells #[.int .i64 z, .int .i64 t] 23)) w') => keepk (valid_any z t w') hk)
  have T0 := Lib.hid (fun w' (hk : Keeps ((w.alloc (.cells #[.int .i64 x, .int .i64 y] 23)).alloc (.cells #[.int .i64 z, .int .i64 t] 23)) w') => keepk (perp_any x y w') hk)
  by_cases hv : validB x y = true ∧ validB z t = true
  · obtain ⟨hv1, hv2⟩ := hv
    obtain ⟨X, Y⟩ := (valid_iff _ _).1 hv1
    obtain ⟨Z, T⟩ := (valid_iff _ _).1 hv2
    rw [hv1] at V1
    rw [hv2] at V2
    rw [hc_id X, hc_id Y] at T0
    clear hv1 hv2
    go_enter Try.func8, Try.ntmps8
    go_wp2_with (first | (go_at_call 16; (first | (with_reducible refine (V1.out _ (by first | assumption | exact Keeps.drew (by assumption) | exact Keeps.drewN (by assumption) _)).mono ?_) | (with_reducible refine (V2.out _ (by first | assumption | exact Keeps.drew (by assumption) | exact Keeps.drewN (by assumption) _)).mono ?_)); rintro e w1 ⟨rfl, hk⟩; obtain ⟨y0, y1, y2, y3, y4, y5, y6, y7⟩ := HS.out _ hk) | (go_at_call 20; (first | (with_reducible refine (T0.out _ (by first | assumption | exact Keeps.drew (by assumption) | exact Keeps.drewN (by assumption) _)).mono ?_)); rintro e w1 ⟨rfl, hk⟩; obtain ⟨y0, y1, y2, y3, y4, y5, y6, y7⟩ := HS.out _ hk; have hsz : w.heap.size + 1 < w1.heap.size := (by have h := hk.size; simp at h; omega); have hsb : w.heap.size < w1.heap.size := (by omega)))
    refine name_world (fun W hW => ?_)
    have F : W.cell? ⟨w.heap.size, 0, none⟩ = some (.int .i64 (x)) ∧ W.cell? ⟨w.heap.size, 1, none⟩ = some (.int .i64 (y)) ∧ W.cell? ⟨w.heap.size + 1, 0, none⟩ = some (.int .i64 (z)) ∧ W.cell? ⟨w.heap.size + 1, 1, none⟩ = some (.int .i64 (t)) ∧ W.cell? ⟨w1.heap.size, 0, none⟩ = some (.int .i64 (-y)) ∧ W.cell? ⟨w1.heap.size, 1, none⟩ = some (.int .i64 (x)) := by rw [hW]; refine ⟨?_, ?_, ?_, ?_, ?_, ?_⟩ <;> go_simp
    have hs2 : w1.heap.size < W.heap.size := by rw [hW]; simp
    have hs1 : w.heap.size + 1 < W.heap.size := by omega
    have hs0 : w.heap.size < W.heap.size := by omega
    have hKW : Keeps w W := by rw [hW]; exact HB.out.trans (by (repeat (first | (with_reducible exact Keeps.refl _) | (with_reducible assumption) | (with_reducible refine Keeps.drewN ?_ _) | (with_reducible refine Keeps.drew ?_) | (with_reducible refine Keeps.alloc ?_ _) | (with_reducible refine Keeps.setNew ?_ ?_ _))) <;> ((try dsimp only); omega))
    clear hW
    obtain ⟨f0, f1, f2, f3, f4, f5⟩ := F
    have z0 : ∀ k : KW W, k.w.cell? ⟨w.heap.size, 0, none⟩ = some (.int .i64 (x)) := fun k => (k.keeps.cell (p := ⟨w.heap.size, 0, none⟩) hs0).trans f0
    have z1 : ∀ k : KW W, k.w.cell? ⟨w.heap.size, 1, none⟩ = some (.int .i64 (y)) := fun k => (k.keeps.cell (p := ⟨w.heap.size, 1, none⟩) hs0).trans f1
    have z2 : ∀ k : KW W, k.w.cell? ⟨w.heap.size + 1, 0, none⟩ = some (.int .i64 (z)) := fun k => (k.keeps.cell (p := ⟨w.heap.size + 1, 0, none⟩) hs1).trans f2
    have z3 : ∀ k : KW W, k.w.cell? ⟨w.heap.size + 1, 1, none⟩ = some (.int .i64 (t)) := fun k => (k.keeps.cell (p := ⟨w.heap.size + 1, 1, none⟩) hs1).trans f3
    have z4 : ∀ k : KW W, k.w.cell? ⟨w1.heap.size, 0, none⟩ = some (.int .i64 (-y)) := fun k => (k.keeps.cell (p := ⟨w1.heap.size, 0, none⟩) hs2).trans f4
    have z5 : ∀ k : KW W, k.w.cell? ⟨w1.heap.size, 1, none⟩ = some (.int .i64 (x)) := fun k => (k.keeps.cell (p := ⟨w1.heap.size, 1, none⟩) hs2).trans f5
    have hkW := Keeps.refl W
    clear f0 f1 f2 f3 f4 f5 hs0 hs1 hs2 hsz hsb hk hk0 V1 V2 T0 y0 y1 y2 y3 y4 y5 y6 y7 HS HB
    obtain ⟨d, m, e1, d1, e2, m1, HL⟩ := dotI_self x y
    have pd := prod_bd X Z
    have pe := prod_bd Y T
    have cb : -2199023255552 ≤ crossI x y z t ∧ crossI x y z t ≤ 2199023255552 := by have := prod_bd X T; have := prod_bd Y Z; unfold crossI; omega
    have db : -2199023255552 ≤ dotI x y z t ∧ dotI x y z t ≤ 2199023255552 := by unfold dotI; omega
    have l1 := hc_id X
    have l2 := hc_id Y
    have l3 := hc_id Z
    have l4 := hc_id T
    have l5 : hc (-y) = -y := hc_id (by omega)
    have l6 : hc (-x) = -x := hc_id (by omega)
    have A1 := Lib.hid (fun k : KW W => keepq (add_any x y z t k.w))
    have U1 := Lib.hid (fun k : KW W => keepq (subc_any (x + z) (y + t) z t k.w))
    have V1 := Lib.hid (fun k : KW W => keepq (valid_any (x + z) (y + t) k.w))
    have P1 := Lib.hid (fun k : KW W => keepq (perp_any (-y) x k.w))
    have P2 := Lib.hid (fun k : KW W => keepq (perp_any (-x) (-y) k.w))
    have P3 := Lib.hid (fun k : KW W => keepq (perp_any y (-x) k.w))
    have C1 := Lib.hid (fun k : KW W => keepq (vcrossx_any x y z t k.w))
    have C2 := Lib.hid (fun k : KW W => keepq (vcrossx_any z t x y k.w))
    have D1 := Lib.hid (fun k : KW W => keepq (vdotx_any (-y) x z t k.w))
    have D2 := Lib.hid (fun k : KW W => keepq (vdotx_any x y z t k.w))
    have D3 := Lib.hid (fun k : KW W => keepq (vdotx_any z t x y k.w))
    have D4 := Lib.hid (fun k : KW W => keepq (vdotx_any x y (-y) x k.w))
    have D5 := Lib.hid (fun k : KW W => keepq (vdotx_any x y x y k.w))
    have N1 := Lib.hid (fun k : KW W => keepq (length_any x y k.w))
    have N2 := Lib.hid (fun k : KW W => keepq (length_any (-y) x k.w))
    have L1 := Lib.hid (fun k : KW W => keepq (less_any x y z t k.w))
    have L2 := Lib.hid (fun k : KW W => keepq (less_any z t x y k.w))
    have EX := Lib.hid (fun k : KW W => keepq (example11 k.w k.w (Keeps.refl _)))
    unfold subc at U1
    rw [len_perp x y X Y, HL.out] at N2
    rw [HL.out] at N1
    rw [e1] at D5
    rw [l1, l2, l3, l4] at A1 C1 C2 D2 D3
    rw [l3, l4] at U1
    rw [l5, l1] at P1 D4
    rw [l6, l5, Int.neg_neg] at P2
    rw [l6, l2, Int.neg_neg] at P3
    rw [l5, l1, l3, l4, dot_perp] at D1
    rw [l2, dot_self_perp] at D4
    rw [cross_swap] at C2
    rw [dot_swap] at D3
    have SA := sub_add x y z t X Y Z T
    have LS := less_swap x y z t X Y Z T
    have g1 := ptGuard
    have gN2 : ∀ w, (binOp .neq 23 (.agg #[.int .i64 x, .int .i64 y]) (.agg #[.int .i64 x, .int .i64 y])).run Try.prog w = .ok (.bool false) w := fun w => (ptNeq x y x y w).trans (by simp)
    have N3 := Lib.hid (fun w' (hk : Keeps W w') => keepk (length_any x y w') hk)
    have D6 := Lib.hid (fun w' (hk : Keeps W w') => keepk (vdotx_any x y x y w') hk)
    rw [HL.out] at N3
    rw [e1] at D6
    obtain ⟨q1, q2⟩ := isq_spec m (by omega)
    have q3 : isq m * isq m ≤ 144115188075855872 := by omega
    have q4 : isq m ≤ 536870912 := by
      apply Classical.byContradiction; intro h
      have := Nat.mul_le_mul (show 536870913 ≤ isq m by omega) (show 536870913 ≤ isq m by omega)
      omega
    generalize isq m = n at *
    obtain ⟨p2, ep2⟩ : ∃ p2 : Nat, n * n = p2 := ⟨_, rfl⟩
    obtain ⟨p3, ep3⟩ : ∃ p3 : Nat, (n + 1) * (n + 1) = p3 := ⟨_, rfl⟩
    have hp2 : (n : Int) * n = p2 := by rw [← ep2]; simp
    have hp3 : ((n : Int) + 1) * (n + 1) = p3 := by rw [← ep3]; simp
    have hb3 : p3 ≤ 288230377225453569 := by rw [← ep3]; exact Nat.mul_le_mul (show n + 1 ≤ 536870913 by omega) (show n + 1 ≤ 536870913 by omega)
    rw [ep2] at q1 q3
    rw [ep3] at q2
    have hq0 : (n : Int) ≤ 536870912 := by omega
    have hq1 : (p2 : Int) ≤ m := by omega
    have hq2 : (m : Int) < p3 := by omega
    generalize crossI x y z t = c at *
    generalize dotI x y z t = dd at *
    have u1 : (c != c) = false := bne_self_eq_false c
    have u2 : (dd != dd) = false := bne_self_eq_false dd
    have u3 : - -c = c := Int.neg_neg c
    have u4 : ((n : Int) == n) = true := beq_self_eq_true _
    clear l1 l2 l3 l4 l5 l6 pd pe e1 HL ep2 ep3
    rcases SA with h | ⟨h, h2⟩
    · have gN1 : ∀ w, (binOp .neq 23 (.agg #[.int .i64 (hc (x + z) - z), .int .i64 (hc (y + t) - t)]) (.agg #[.int .i64 x, .int .i64 y])).run Try.prog w = .ok (.bool false) w := fun w => (ptNeq _ _ x y w).trans (by rw [h]; rfl)
      clear h
      refine wp_region_kept (W) (by kernel_rfl) (by kernel_rfl) (hkW) ?_
      repeat (first | go_big_quiet_skip | (go_big_quiet_want; go_big_quiet_op; first | go_big_quiet_on | go_big_quiet_call ((first | (go_at_call 19; first | (with_reducible exact A1.out _)) | (go_at_call 17; first | (with_reducible exact U1.out _)) | (go_at_call 16; first | (with_reducible exact V1.out _)) | (go_at_call 20; first | (with_reducible exact P1.out _) | (with_reducible exact P2.out _) | (with_reducible exact P3.out _)) | (go_at_call 27; first | (with_reducible exact C1.out _) | (with_reducible exact C2.out _)) | (go_at_call 25; first | (with_reducible exact D1.out _) | (with_reducible exact D2.out _) | (with_reducible exact D3.out _) | (with_reducible exact D4.out _))))))
      refine wpQuiet_nil ?_
      rintro w' ⟨k9, rfl⟩
      have hk := k9.keeps
      generalize k9.w = w9 at hk ⊢
      clear k9
      have y0 : w9.cell? ⟨w.heap.size, 0, none⟩ = _ := z0 ⟨w9, hk⟩; have y1 : w9.cell? ⟨w.heap.size, 1, none⟩ = _ := z1 ⟨w9, hk⟩
      go_wp2_with (first | (go_at_call 29; (first | (with_reducible refine (N3.out _ (by first | assumption | exact Keeps.drew (by assumption) | exact Keeps.drewN (by assumption) _)).mono ?_)); rintro e w1 ⟨rfl, hk⟩; have y0 : w1.cell? ⟨w.heap.size, 0, none⟩ = _ := z0 ⟨w1, hk⟩; have y1 : w1.cell? ⟨w.heap.size, 1, none⟩ = _ := z1 ⟨w1, hk⟩) | (go_at_call 25; (first | (with_reducible refine (D6.out _ (by first | assumption | exact Keeps.drew (by assumption) | exact Keeps.drewN (by assumption) _)).mono ?_)); rintro e w1 ⟨rfl, hk⟩; skip))
      try clear y0 y1
      rcases LS with ⟨a1, a2, a3⟩ | ⟨a1, a2, a3⟩ | ⟨a1, a2, a3⟩
      all_goals
        have gN3 : ∀ w, (binOp .neq 23 (.agg #[.int .i64 x, .int .i64 y]) (.agg #[.int .i64 z, .int .i64 t])).run Try.prog w = _ := fun w => (ptNeq x y z t w).trans (by rw [a3])
        rw [a1] at L1
        rw [a2] at L2
        clear a1 a2 a3
        refine wp_region_kept (W) (by kernel_rfl) (by kernel_rfl) (by assumption) ?_
        repeat (first | go_big_quiet_skip | (go_big_quiet_want; go_big_quiet_op; first | go_big_quiet_on | go_big_quiet_call ((first | (go_at_call 29; first | (with_reducible exact N2.out _)) | (go_at_call 31; first | (with_reducible exact L1.out _) | (with_reducible exact L2.out _)) | (go_at_call 13; first | (with_reducible exact EX.out _))))))
        refine wpQuiet_nil ?_
        rintro w' ⟨k9, rfl⟩
        have hk := k9.keeps
        generalize k9.w = w9 at hk ⊢
        clear k9
        go_wp2_with fail
        go_ret
        exact ⟨rfl, hKW.trans hk⟩
    · have gN1 : ∀ w, (binOp .neq 23 (.agg #[.int .i64 (hc (x + z) - z), .int .i64 (hc (y + t) - t)]) (.agg #[.int .i64 x, .int .i64 y])).run Try.prog w = .ok (.bool true) w := fun w => (ptNeq _ _ x y w).trans (by rw [h]; rfl)
      rw [h2] at V1
      clear h h2
      refine wp_region_kept (W) (by kernel_rfl) (by kernel_rfl) (hkW) ?_
      repeat (first | go_big_quiet_skip | (go_big_quiet_want; go_big_quiet_op; first | go_big_quiet_on | go_big_quiet_call ((first | (go_at_call 19; first | (with_reducible exact A1.out _)) | (go_at_call 17; first | (with_reducible exact U1.out _)) | (go_at_call 16; first | (with_reducible exact V1.out _)) | (go_at_call 20; first | (with_reducible exact P1.out _) | (with_reducible exact P2.out _) | (with_reducible exact P3.out _)) | (go_at_call 27; first | (with_reducible exact C1.out _) | (with_reducible exact C2.out _)) | (go_at_call 25; first | (with_reducible exact D1.out _) | (with_reducible exact D2.out _) | (with_reducible exact D3.out _) | (with_reducible exact D4.out _))))))
      refine wpQuiet_nil ?_
      rintro w' ⟨k9, rfl⟩
      have hk := k9.keeps
      generalize k9.w = w9 at hk ⊢
      clear k9
      have y0 : w9.cell? ⟨w.heap.size, 0, none⟩ = _ := z0 ⟨w9, hk⟩; have y1 : w9.cell? ⟨w.heap.size, 1, none⟩ = _ := z1 ⟨w9, hk⟩
      go_wp2_with (first | (go_at_call 29; (first | (with_reducible refine (N3.out _ (by first | assumption | exact Keeps.drew (by assumption) | exact Keeps.drewN (by assumption) _)).mono ?_)); rintro e w1 ⟨rfl, hk⟩; have y0 : w1.cell? ⟨w.heap.size, 0, none⟩ = _ := z0 ⟨w1, hk⟩; have y1 : w1.cell? ⟨w.heap.size, 1, none⟩ = _ := z1 ⟨w1, hk⟩) | (go_at_call 25; (first | (with_reducible refine (D6.out _ (by first | assumption | exact Keeps.drew (by assumption) | exact Keeps.drewN (by assumption) _)).mono ?_)); rintro e w1 ⟨rfl, hk⟩; skip))
      try clear y0 y1
      rcases LS with ⟨a1, a2, a3⟩ | ⟨a1, a2, a3⟩ | ⟨a1, a2, a3⟩
      all_goals
        have gN3 : ∀ w, (binOp .neq 23 (.agg #[.int .i64 x, .int .i64 y]) (.agg #[.int .i64 z, .int .i64 t])).run Try.prog w = _ := fun w => (ptNeq x y z t w).trans (by rw [a3])
        rw [a1] at L1
        rw [a2] at L2
        clear a1 a2 a3
        refine wp_region_kept (W) (by kernel_rfl) (by kernel_rfl) (by assumption) ?_
        repeat (first | go_big_quiet_skip | (go_big_quiet_want; go_big_quiet_op; first | go_big_quiet_on | go_big_quiet_call ((first | (go_at_call 29; first | (with_reducible exact N2.out _)) | (go_at_call 31; first | (with_reducible exact L1.out _) | (with_reducible exact L2.out _)) | (go_at_call 13; first | (with_reducible exact EX.out _))))))
        refine wpQuiet_nil ?_
        rintro w' ⟨k9, rfl⟩
        have hk := k9.keeps
        generalize k9.w = w9 at hk ⊢
        clear k9
        go_wp2_with fail
        go_ret
        exact ⟨rfl, hKW.trans hk⟩
  · have hv0 : validB x y = false ∨ (validB x y = true ∧ validB z t = false) := by
      cases h1 : validB x y
      · exact .inl rfl
      · cases h2 : validB z t
        · exact .inr ⟨rfl, rfl⟩
        · exact absurd ⟨h1, h2⟩ hv
    clear hv
    rcases hv0 with h | ⟨h, h2⟩
    · rw [h] at V1
      clear h
      go_enter Try.func8, Try.ntmps8
      go_wp2_with (first | (go_at_call 16; (first | (with_reducible refine (V1.out _ (by first | assumption | exact Keeps.drew (by assumption) | exact Keeps.drewN (by assumption) _)).mono ?_) | (with_reducible refine (V2.out _ (by first | assumption | exact Keeps.drew (by assumption) | exact Keeps.drewN (by assumption) _)).mono ?_)); rintro e w1 ⟨rfl, hk⟩; obtain ⟨y0, y1, y2, y3, y4, y5, y6, y7⟩ := HS.out _ hk) | (go_at_call 13; refine (example11 _ _ (by first | assumption | exact Keeps.drew (by assumption) | exact Keeps.drewN (by assumption) _)).mono ?_; rintro e w1 ⟨rfl, hk⟩))
      go_ret
      exact ⟨rfl, HB.out.trans (by (repeat (first | (with_reducible exact Keeps.refl _) | (with_reducible assumption) | (with_reducible refine Keeps.drewN ?_ _) | (with_reducible refine Keeps.drew ?_) | (with_reducible refine Keeps.alloc ?_ _) | (with_reducible refine Keeps.setNew ?_ ?_ _))) <;> ((try dsimp only); omega))⟩
    · rw [h] at V1
      rw [h2] at V2
      clear h h2
      go_enter Try.func8, Try.ntmps8
      go_wp2_with (first | (go_at_call 16; (first | (with_reducible refine (V1.out _ (by first | assumption | exact Keeps.drew (by assumption) | exact Keeps.drewN (by assumption) _)).mono ?_) | (with_reducible refine (V2.out _ (by first | assumption | exact Keeps.drew (by assumption) | exact Keeps.drewN (by assumption) _)).mono ?_)); rintro e w1 ⟨rfl, hk⟩; obtain ⟨y0, y1, y2, y3, y4, y5, y6, y7⟩ := HS.out _ hk) | (go_at_call 13; refine (example11 _ _ (by first | assumption | exact Keeps.drew (by assumption) | exact Keeps.drewN (by assumption) _)).mono ?_; rintro e w1 ⟨rfl, hk⟩))
      go_ret
      exact ⟨rfl, HB.out.trans (by (repeat (first | (with_reducible exact Keeps.refl _) | (with_reducible assumption) | (with_reducible refine Keeps.drewN ?_ _) | (with_reducible refine Keeps.drew ?_) | (with_reducible refine Keeps.alloc ?_ _) | (with_reducible refine Keeps.setNew ?_ ?_ _))) <;> ((try dsimp only); omega))⟩

set_option maxRecDepth 100000 in
theorem lifted (os : Os) (started : os.Started) (H : Type) (enc : TypeId × Value → H) :
    ReturnsInHanded {} Try.checked os 8 .any (Rows.vecIdentitiesSpec.pre6 enc Try.prog Try.f8 Rows.vecIdentitiesRow.domain false) (Rows.vecIdentitiesSpec.post enc Try.prog Try.f8 false true false false) := by
  refine returnsInHanded_of_change (C := Try.checked) Try.own started (by kernel_rfl) Try.func8
    (ChangeSpec.witness6 (enc := enc) (C := Try.checked) false ⟨#[], #[.agg #[.int .i64 0, .int .i64 0], .agg #[.int .i64 0, .int .i64 0]], []⟩ 8 (by kernel_rfl) (by kernel_rfl) (by kernel_rfl) (by kernel_rfl)) ?_
  intro W base args ds gs before hval0 hW hcnd _
  have hval : ∀ (j : Nat) t v, Try.f8.params[j]? = some t → args[j]? = some v → Value.okWide Try.prog W .any base t v := hval0
  have hW' := hW
  obtain ⟨p, q, hA0, hV, rfl, hfz, hnd⟩ := hW
  have hA : DataW.TrodAll enc Try.prog W 0 (fun _ => true) true Try.f8.params.toList args.toList ds p := hA0
  have hAll := hA
  rw [Try.params8] at hA hval
  obtain ⟨v0, vs0, d0, ds0, p0, q0, hargs, rfl, rfl, h0, r0⟩ := trodAll_cons hA
  obtain ⟨v1, vs1, d1, ds1, p1, q1, rfl, rfl, rfl, h1, r1⟩ := trodAll_cons r0
  obtain ⟨rfl, rfl, rfl⟩ := trodAll_nil r1
  obtain rfl : args = #[v0, v1] := by cases args; simp_all
  obtain ⟨rfl, rfl⟩ := trodVars_none hV
  obtain ⟨c0, rfl, L0_0⟩ := open_flat (ks := [some .i64, some .i64]) (by kernel_rfl) (by kernel_rfl) (hval 0 23 v0 rfl rfl) h0
  obtain ⟨_, c0_0, rfl, ⟨a0_0, rfl, w0_0⟩, L0_1⟩ := leafs_cons L0_0
  obtain ⟨l0_0, u0_0⟩ := bounds_i64 w0_0
  obtain ⟨_, c0_1, rfl, ⟨a0_1, rfl, w0_1⟩, L0_2⟩ := leafs_cons L0_1
  obtain ⟨l0_1, u0_1⟩ := bounds_i64 w0_1
  obtain rfl := leafs_nil L0_2
  obtain ⟨c1, rfl, L1_0⟩ := open_flat (ks := [some .i64, some .i64]) (by kernel_rfl) (by kernel_rfl) (hval 1 23 v1 rfl rfl) h1
  obtain ⟨_, c1_0, rfl, ⟨a1_0, rfl, w1_0⟩, L1_1⟩ := leafs_cons L1_0
  obtain ⟨l1_0, u1_0⟩ := bounds_i64 w1_0
  obtain ⟨_, c1_1, rfl, ⟨a1_1, rfl, w1_1⟩, L1_2⟩ := leafs_cons L1_1
  obtain ⟨l1_1, u1_1⟩ := bounds_i64 w1_1
  obtain rfl := leafs_nil L1_2
  clear hA0 hval0
  refine (walk a0_0 a0_1 a1_0 a1_1 W l0_0 u0_0 l0_1 u0_1 l1_0 u1_0 l1_1 u1_1).mono fun e W' ⟨he, bel⟩ => ?_
  subst he
  exact ⟨_, rfl, _, _, _, [], _, [], hW', trodAll_mk1 (shut_bool Try.underlying4 _), below_trodAll Try.laidOut bel (reads_of (by kernel_rfl)) hAll, rfl, bel.frame _, fun h => by cases h⟩

theorem over : Rows.vecIdentitiesRow.holds Try.pinned (OpenSpec.ofChange Rows.vecIdentitiesSpec) :=
  OpenClaim.holds_of_wide 8 Try.f8 rfl rfl rfl rfl rfl rfl rfl ⟨rfl, rfl, rfl, rfl, rfl⟩ rfl rfl rfl rfl rfl (by kernel_rfl) Try.func8 (by kernel_rfl)
    (of_decide_eq_true (by kernel_rfl)) (by unfold Func.isWrapper; first | (rw [if_pos (by decide +kernel)]; kernel_rfl) | (rw [if_neg (by decide +kernel)]; exact ⟨rfl, rfl⟩))
    (fun os started H enc _ => lifted os started H enc)

/-- The statement. -/
theorem proved : Rows.VecIdentitiesSaid := over
#print axioms proved
end Go.Proofs.Ytpmhmaiagjdpeaa.vecIdentities
