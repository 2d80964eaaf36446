/- Contracts of SquareCap, of strokegeom and of reference 22. -/
import Derived.Test.YtdodgnpjlicnoaaGreatQm
namespace Go.Proofs.YtdodgnpjlicnoaaGreat
section
open Go.RowKit
attribute [local go_sem ↓] Go.wp_at_zero Go.wp_at_succ
set_option linter.unusedVariables false
set_option linter.unusedSimpArgs false
def bodyL (a b : Pt) (v : Int) : List Pt := if mayB a b v = true then orient [subP a (ofs (subP b a) v), subP b (ofs (subP b a) v), addP b (ofs (subP b a) v), addP a (ofs (subP b a) v)] else []
def capOf (b n : Pt) : List Pt := [subP b n, addP (subP b n) (n.2, -n.1), addP (addP b n) (n.2, -n.1), addP b n]
def capL (a b : Pt) (v : Int) : List Pt := if mayB a b v = true then orient [subP b (ofs (subP b a) v), addP (subP b (ofs (subP b a) v)) ((ofs (subP b a) v).2, -(ofs (subP b a) v).1), addP (addP b (ofs (subP b a) v)) ((ofs (subP b a) v).2, -(ofs (subP b a) v).1), addP b (ofs (subP b a) v)] else []
theorem Pts.lit (w : World) (L : List Pt) (h : ∀ p ∈ L, okP p) (t : TypeId) (hn : L.length ≤ maxLen) : Pts (w.alloc (.cells (rowP L).toArray t)) (some ⟨w.heap.size, 0, none⟩) L.length L.length L := by
  refine ⟨rfl, Nat.le_refl _, hn, h, fun _ => ⟨_, _, rfl, by simp, fun k hk => ?_⟩⟩
  have e : ∀ i, i < 2 → (w.alloc (.cells (rowP L).toArray t)).cell? ⟨w.heap.size, k * 2 + i, none⟩ = (ptV (L.getD k pt0))[i]? := fun i hi => by
    rw [cell_of_row _ w.heap.size (k * 2 + i) (rowP L).toArray t (0, 0) (heap_alloc_new w _), ← rowP_get L k i hk hi]
    simp
  rw [Nat.zero_add]
  exact ⟨e 0 (by omega), e 1 (by omega)⟩
set_option maxRecDepth 100000 in
set_option maxHeartbeats 8000000 in
theorem body_any (a b : Pt) (v : Int) (w : World) :
    Calls Tryz.prog 32 #[.agg #[.int .i64 a.1, .int .i64 a.2], .agg #[.int .i64 b.1, .int .i64 b.2], .int .i64 v] w (OwnP w (bodyL a b v)) := by
  have HS := Lib.hid (show ∀ w', Keeps ((w.alloc (.cells #[.int .i64 a.1, .int .i64 a.2] 37)).alloc (.cells #[.int .i64 b.1, .int .i64 b.2] 37)) w' → w'.cell? ⟨w.heap.size, 0, none⟩ = some (.int .i64 a.1) ∧ w'.frozen? ⟨w.heap.size, 0, none⟩ = false ∧ w'.cell? ⟨w.heap.size, 1, none⟩ = some (.int .i64 a.2) ∧ w'.frozen? ⟨w.heap.size, 1, none⟩ = false ∧ w'.cell? ⟨w.heap.size + 1, 0, none⟩ = some (.int .i64 b.1) ∧ w'.frozen? ⟨w.heap.size + 1, 0, none⟩ = false ∧ w'.cell? ⟨w.heap.size + 1, 1, none⟩ = some (.int .i64 b.2) ∧ w'.frozen? ⟨w.heap.size + 1, 1, none⟩ = false from fun w' hk => ⟨(hk.cell (p := ⟨w.heap.size, 0, none⟩) (by first | (simp; done) | (simp; omega))).trans (by simp [go_sem]), (hk.frozen (p := ⟨w.heap.size, 0, none⟩) (by first | (simp; done) | (simp; omega))).trans (by simp [go_sem]), (hk.cell (p := ⟨w.heap.size, 1, none⟩) (by first | (simp; done) | (simp; omega))).trans (by simp [go_sem]), (hk.frozen (p := ⟨w.heap.size, 1, none⟩) (by first | (simp; done) | (simp; omega))).trans (by simp [go_sem]), (hk.cell (p := ⟨w.heap.size + 1, 0, none⟩) (by first | (simp; done) | (simp; omega))).trans (by simp [go_sem]), (hk.frozen (p := ⟨w.heap.size + 1, 0, none⟩) (by first | (simp; done) | (simp; omega))).trans (by simp [go_sem]), (hk.cell (p := ⟨w.heap.size + 1, 1, none⟩) (by first | (simp; done) | (simp; omega))).trans (by simp [go_sem]), (hk.frozen (p := ⟨w.heap.size + 1, 1, none⟩) (by first | (simp; done) | (simp; omega))).trans (by simp [go_sem])⟩)
  have HB := Lib.hid (show Keeps w ((w.alloc (.cells #[.int .i64 a.1, .int .i64 a.2] 37)).alloc (.cells #[.int .i64 b.1, .int .i64 b.2] 37)) from (by (repeat (first | (with_reducible exact Keeps.refl _) | (with_reducible assumption) | (with_reducible refine Keeps.drewN ?_ _) | (with_reducible refine Keeps.drew ?_) | (with_reducible refine Keeps.alloc ?_ _) | (with_reducible refine Keeps.setNew ?_ ?_ _))) <;> (dsimp only; omega)))
  have hk0 := Keeps.refl ((w.alloc (.cells #[.int .i64 a.1, .int .i64 a.2] 37)).alloc (.cells #[.int .i64 b.1, .int .i64 b.2] 37))
  unfold bodyL
  have KA := Lib.hid (fun w => across_any a b v w)
  cases hm : mayB a b v with
  | false =>
    rw [if_neg (by decide)]
    rw [hm] at KA
    clear hm
    generalize acr a b v = n at *
    go_enter Tryz.func32, Tryz.ntmps32
    go_wp2_with (go_at_call 50; (with_reducible refine (keepk (KA.out _) (by first | assumption | exact Keeps.drew (by assumption) | exact Keeps.drewN (by assumption) _)).mono ?_); rintro e w1 ⟨rfl, hk⟩; have hj := Keeps.trans HB.out hk; have hk := hk; obtain ⟨y0, y1, y2, y3, y4, y5, y6, y7⟩ := HS.out _ hk)
    go_ret
    exact ⟨_, rfl, World.ownsRow_nil _ _ _ _, hj.alloc _⟩
  | true =>
    rw [if_pos rfl]
    obtain ⟨⟨b0, b1, b2, b3⟩, ⟨b4, b5, b6, b7⟩, bv⟩ := mayB_bd hm
    have hac : acr a b v = ofs (subP b a) v := by unfold acr; rw [if_pos hm]
    rw [hac] at KA
    rw [hm] at KA
    obtain ⟨⟨n0, n1⟩, n2, n3⟩ := ofs_bd' (subP b a) v
    clear hac
    clear hm bv
    generalize ofs (subP b a) v = n at *
    have hok : ∀ p ∈ ([subP a n, subP b n, addP b n, addP a n] : List Pt), okP p := by
      intro p hp
      simp at hp
      unfold okP i64b
      rcases hp with rfl | rfl | rfl | rfl <;> (simp only [addP, subP]; omega)
    have hok := Lib.hid hok
    go_enter Tryz.func32, Tryz.ntmps32
    go_wp2_with (first | (go_at_call 50; (with_reducible refine (keepk (KA.out _) (by first | assumption | exact Keeps.drew (by assumption) | exact Keeps.drewN (by assumption) _)).mono ?_); rintro e w1 ⟨rfl, hk⟩; have hj := Keeps.trans HB.out hk; have hk := hk; obtain ⟨y0, y1, y2, y3, y4, y5, y6, y7⟩ := HS.out _ hk))
    refine name_world (fun W hW => ?_)
    have HF := HS.out W (by rw [hW]; exact (by (repeat (first | (with_reducible exact Keeps.refl _) | (with_reducible assumption) | (with_reducible refine Keeps.drewN ?_ _) | (with_reducible refine Keeps.drew ?_) | (with_reducible refine Keeps.alloc ?_ _) | (with_reducible refine Keeps.setNew ?_ ?_ _))) <;> (dsimp only; omega)))
    have f0 := HF.1
    have f1 := HF.2.2.1
    have f2 := HF.2.2.2.2.1
    have f3 := HF.2.2.2.2.2.2.1
    clear HF
    have F : W.cell? ⟨w1.heap.size, 0, none⟩ = some (.int .i64 (n.1)) ∧ W.cell? ⟨w1.heap.size, 1, none⟩ = some (.int .i64 (n.2)) := by rw [hW]; refine ⟨?_, ?_⟩ <;> go_simp
    have KW0 : Keeps w W := by rw [hW]; exact (by (repeat (first | (with_reducible exact Keeps.refl _) | (with_reducible assumption) | (with_reducible refine Keeps.drewN ?_ _) | (with_reducible refine Keeps.drew ?_) | (with_reducible refine Keeps.alloc ?_ _) | (with_reducible refine Keeps.setNew ?_ ?_ _))) <;> (dsimp only; omega))
    clear hW
    obtain ⟨f4, f5⟩ := F
    have z0 : ∀ k : KW W, k.w.cell? ⟨w.heap.size, 0, none⟩ = some (.int .i64 (a.1)) := fun k => (k.keeps.cell (World.block_lt_of_cell? W _ f0)).trans f0
    have z1 : ∀ k : KW W, k.w.cell? ⟨w.heap.size, 1, none⟩ = some (.int .i64 (a.2)) := fun k => (k.keeps.cell (World.block_lt_of_cell? W _ f1)).trans f1
    have z2 : ∀ k : KW W, k.w.cell? ⟨w.heap.size + 1, 0, none⟩ = some (.int .i64 (b.1)) := fun k => (k.keeps.cell (World.block_lt_of_cell? W _ f2)).trans f2
    have z3 : ∀ k : KW W, k.w.cell? ⟨w.heap.size + 1, 1, none⟩ = some (.int .i64 (b.2)) := fun k => (k.keeps.cell (World.block_lt_of_cell? W _ f3)).trans f3
    have z4 : ∀ k : KW W, k.w.cell? ⟨w1.heap.size, 0, none⟩ = some (.int .i64 (n.1)) := fun k => (k.keeps.cell (World.block_lt_of_cell? W _ f4)).trans f4
    have z5 : ∀ k : KW W, k.w.cell? ⟨w1.heap.size, 1, none⟩ = some (.int .i64 (n.2)) := fun k => (k.keeps.cell (World.block_lt_of_cell? W _ f5)).trans f5
    have L1 := Lib.hid (fun k : KW W => keepq (sless_any a.1 a.2 n.1 n.2 k.w (by omega) (by omega) (by omega) (by omega) (by omega) (by omega) (by omega) (by omega)))
    have L2 := Lib.hid (fun k : KW W => keepq (sless_any b.1 b.2 n.1 n.2 k.w (by omega) (by omega) (by omega) (by omega) (by omega) (by omega) (by omega) (by omega)))
    have P1 := Lib.hid (fun k : KW W => keepq (splus_any b.1 b.2 n.1 n.2 k.w (by omega) (by omega) (by omega) (by omega) (by omega) (by omega) (by omega) (by omega)))
    have P2 := Lib.hid (fun k : KW W => keepq (splus_any a.1 a.2 n.1 n.2 k.w (by omega) (by omega) (by omega) (by omega) (by omega) (by omega) (by omega) (by omega)))
    clear f0 f1 f2 f3 f4 f5
    refine wp_region_kept_tail 12 (W) (by kernel_rfl) (by kernel_rfl) (Keeps.refl _) ?_
    simp only [List.take_succ_cons, List.take_zero, List.drop_succ_cons, List.drop_zero]
    repeat (first | go_big_quiet_skip | (go_big_quiet_want; go_big_quiet_op; first | go_big_quiet_on | go_big_quiet_call ((first | (go_at_call 52; first | (with_reducible exact L1.out _) | (with_reducible exact L2.out _)) | (go_at_call 53; first | (with_reducible exact P1.out _) | (with_reducible exact P2.out _))))))
    refine wpQuiet_nil ?_
    rintro w' ⟨k9, rfl⟩
    have hk := k9.keeps
    generalize k9.w = w9 at hk ⊢
    clear k9
    have hP := Lib.hid (Pts.lit w9 [subP a n, subP b n, addP b n, addP a n] hok.out 37 (show 4 ≤ maxLen by unfold maxLen; omega))
    have hkw := Lib.hid (KW0.trans hk)
    go_wp2_with (go_at_call 51; (with_reducible refine (orient_any _ 4 4 _ _ hP.out (by omega)).mono ?_); rintro e w10 ⟨vv, rfl, hown, hk10⟩; have hown := Lib.hid hown; have hk10 := Lib.hid hk10)
    go_ret
    exact ⟨_, rfl, own_base hown.out (hkw.out.alloc _).size, (hkw.out.alloc _).trans hk10.out⟩
set_option maxRecDepth 100000 in
set_option maxHeartbeats 8000000 in
theorem rbody_any (a b : Pt) (v : Int) (w : World) :
    Calls Tryz.prog 59 #[.agg #[.int .i64 a.1, .int .i64 a.2], .agg #[.int .i64 b.1, .int .i64 b.2], .int .i64 v] w (OwnP w (bodyL a b v)) := by
  have HS := Lib.hid (show ∀ w', Keeps ((w.alloc (.cells #[.int .i64 a.1, .int .i64 a.2] 37)).alloc (.cells #[.int .i64 b.1, .int .i64 b.2] 37)) w' → w'.cell? ⟨w.heap.size, 0, none⟩ = some (.int .i64 a.1) ∧ w'.frozen? ⟨w.heap.size, 0, none⟩ = false ∧ w'.cell? ⟨w.heap.size, 1, none⟩ = some (.int .i64 a.2) ∧ w'.frozen? ⟨w.heap.size, 1, none⟩ = false ∧ w'.cell? ⟨w.heap.size + 1, 0, none⟩ = some (.int .i64 b.1) ∧ w'.frozen? ⟨w.heap.size + 1, 0, none⟩ = false ∧ w'.cell? ⟨w.heap.size + 1, 1, none⟩ = some (.int .i64 b.2) ∧ w'.frozen? ⟨w.heap.size + 1, 1, none⟩ = false from fun w' hk => ⟨(hk.cell (p := ⟨w.heap.size, 0, none⟩) (by first | (simp; done) | (simp; omega))).trans (by simp [go_sem]), (hk.frozen (p := ⟨w.heap.size, 0, none⟩) (by first | (simp; done) | (simp; omega))).trans (by simp [go_sem]), (hk.cell (p := ⟨w.heap.size, 1, none⟩) (by first | (simp; done) | (simp; omega))).trans (by simp [go_sem]), (hk.frozen (p := ⟨w.heap.size, 1, none⟩) (by first | (simp; done) | (simp; omega))).trans (by simp [go_sem]), (hk.cell (p := ⟨w.heap.size + 1, 0, none⟩) (by first | (simp; done) | (simp; omega))).trans (by simp [go_sem]), (hk.frozen (p := ⟨w.heap.size + 1, 0, none⟩) (by first | (simp; done) | (simp; omega))).trans (by simp [go_sem]), (hk.cell (p := ⟨w.heap.size + 1, 1, none⟩) (by first | (simp; done) | (simp; omega))).trans (by simp [go_sem]), (hk.frozen (p := ⟨w.heap.size + 1, 1, none⟩) (by first | (simp; done) | (simp; omega))).trans (by simp [go_sem])⟩)
  have HB := Lib.hid (show Keeps w ((w.alloc (.cells #[.int .i64 a.1, .int .i64 a.2] 37)).alloc (.cells #[.int .i64 b.1, .int .i64 b.2] 37)) from (by (repeat (first | (with_reducible exact Keeps.refl _) | (with_reducible assumption) | (with_reducible refine Keeps.drewN ?_ _) | (with_reducible refine Keeps.drew ?_) | (with_reducible refine Keeps.alloc ?_ _) | (with_reducible refine Keeps.setNew ?_ ?_ _))) <;> (dsimp only; omega)))
  have hk0 := Keeps.refl ((w.alloc (.cells #[.int .i64 a.1, .int .i64 a.2] 37)).alloc (.cells #[.int .i64 b.1, .int .i64 b.2] 37))
  unfold bodyL
  have KA := Lib.hid (fun w => rmay_any a b v w)
  cases hm : mayB a b v with
  | false =>
    rw [if_neg (by decide)]
    rw [hm] at KA
    clear hm
    go_enter Tryz.func59, Tryz.ntmps59
    go_wp2_with (go_at_call 74; (with_reducible refine (keepk (KA.out _) (by first | assumption | exact Keeps.drew (by assumption) | exact Keeps.drewN (by assumption) _)).mono ?_); rintro e w1 ⟨rfl, hk⟩; have hj := Keeps.trans HB.out hk; have hk := hk; obtain ⟨y0, y1, y2, y3, y4, y5, y6, y7⟩ := HS.out _ hk)
    go_ret
    exact ⟨_, rfl, own_base (World.ownsRow_lit w1 #[] 0 (Nat.le_refl _) (by unfold maxLen; omega) (by simp)) hj.size, hj.alloc _⟩
  | true =>
    rw [if_pos rfl]
    obtain ⟨⟨b0, b1, b2, b3⟩, ⟨b4, b5, b6, b7⟩, bv⟩ := mayB_bd hm
    rw [hm] at KA
    obtain ⟨⟨n0, n1⟩, n2, n3⟩ := ofs_bd' (subP b a) v
    have KL := Lib.hid (fun w => rless22_any b.1 b.2 a.1 a.2 w (by omega) (by omega) (by omega) (by omega) (by omega) (by omega) (by omega) (by omega))
    have KO := Lib.hid (fun w => rofs_any (b.1 - a.1) (b.2 - a.2) v w)
    rw [show ((b.1 - a.1, b.2 - a.2) : Pt) = subP b a from rfl] at KO
    clear hm bv
    generalize ofs (subP b a) v = n at *
    have hok : ∀ p ∈ ([subP a n, subP b n, addP b n, addP a n] : List Pt), okP p := by
      intro p hp
      simp at hp
      unfold okP i64b
      rcases hp with rfl | rfl | rfl | rfl <;> (simp only [addP, subP]; omega)
    have hok := Lib.hid hok
    go_enter Tryz.func59, Tryz.ntmps59
    go_wp2_with (first | (go_at_call 74; (with_reducible refine (keepk (KA.out _) (by first | assumption | exact Keeps.drew (by assumption) | exact Keeps.drewN (by assumption) _)).mono ?_); rintro e w1 ⟨rfl, hk⟩; have hj := Keeps.trans HB.out hk; have hk := hk; obtain ⟨y0, y1, y2, y3, y4, y5, y6, y7⟩ := HS.out _ hk) | (go_at_call 76; (with_reducible refine (keepk (KL.out _) (by first | assumption | exact Keeps.drew (by assumption) | exact Keeps.drewN (by assumption) _)).mono ?_); rintro e w1 ⟨rfl, hk⟩; have hj := Keeps.trans HB.out hk; have hk := hk; obtain ⟨y0, y1, y2, y3, y4, y5, y6, y7⟩ := HS.out _ hk) | (go_at_call 75; (with_reducible refine (keepk (KO.out _) (by first | assumption | exact Keeps.drew (by assumption) | exact Keeps.drewN (by assumption) _)).mono ?_); rintro e w1 ⟨rfl, hk⟩; have hj := Keeps.trans HB.out hk; have hk := hk; obtain ⟨y0, y1, y2, y3, y4, y5, y6, y7⟩ := HS.out _ hk))
    refine name_world (fun W hW => ?_)
    have HF := HS.out W (by rw [hW]; exact (by (repeat (first | (with_reducible exact Keeps.refl _) | (with_reducible assumption) | (with_reducible refine Keeps.drewN ?_ _) | (with_reducible refine Keeps.drew ?_) | (with_reducible refine Keeps.alloc ?_ _) | (with_reducible refine Keeps.setNew ?_ ?_ _))) <;> (dsimp only; omega)))
    have f0 := HF.1
    have f1 := HF.2.2.1
    have f2 := HF.2.2.2.2.1
    have f3 := HF.2.2.2.2.2.2.1
    clear HF
    have F : W.cell? ⟨w1.heap.size, 0, none⟩ = some (.int .i64 (n.1)) ∧ W.cell? ⟨w1.heap.size, 1, none⟩ = some (.int .i64 (n.2)) := by rw [hW]; refine ⟨?_, ?_⟩ <;> go_simp
    have KW0 : Keeps w W := by rw [hW]; exact (by (repeat (first | (with_reducible exact Keeps.refl _) | (with_reducible assumption) | (with_reducible refine Keeps.drewN ?_ _) | (with_reducible refine Keeps.drew ?_) | (with_reducible refine Keeps.alloc ?_ _) | (with_reducible refine Keeps.setNew ?_ ?_ _))) <;> (dsimp only; omega))
    clear hW
    obtain ⟨f4, f5⟩ := F
    have z0 : ∀ k : KW W, k.w.cell? ⟨w.heap.size, 0, none⟩ = some (.int .i64 (a.1)) := fun k => (k.keeps.cell (World.block_lt_of_cell? W _ f0)).trans f0
    have z1 : ∀ k : KW W, k.w.cell? ⟨w.heap.size, 1, none⟩ = some (.int .i64 (a.2)) := fun k => (k.keeps.cell (World.block_lt_of_cell? W _ f1)).trans f1
    have z2 : ∀ k : KW W, k.w.cell? ⟨w.heap.size + 1, 0, none⟩ = some (.int .i64 (b.1)) := fun k => (k.keeps.cell (World.block_lt_of_cell? W _ f2)).trans f2
    have z3 : ∀ k : KW W, k.w.cell? ⟨w.heap.size + 1, 1, none⟩ = some (.int .i64 (b.2)) := fun k => (k.keeps.cell (World.block_lt_of_cell? W _ f3)).trans f3
    have z4 : ∀ k : KW W, k.w.cell? ⟨w1.heap.size, 0, none⟩ = some (.int .i64 (n.1)) := fun k => (k.keeps.cell (World.block_lt_of_cell? W _ f4)).trans f4
    have z5 : ∀ k : KW W, k.w.cell? ⟨w1.heap.size, 1, none⟩ = some (.int .i64 (n.2)) := fun k => (k.keeps.cell (World.block_lt_of_cell? W _ f5)).trans f5
    have L1 := Lib.hid (fun k : KW W => keepq (rless22_any a.1 a.2 n.1 n.2 k.w (by omega) (by omega) (by omega) (by omega) (by omega) (by omega) (by omega) (by omega)))
    have L2 := Lib.hid (fun k : KW W => keepq (rless22_any b.1 b.2 n.1 n.2 k.w (by omega) (by omega) (by omega) (by omega) (by omega) (by omega) (by omega) (by omega)))
    have P1 := Lib.hid (fun k : KW W => keepq (rmore_any b.1 b.2 n.1 n.2 k.w (by omega) (by omega) (by omega) (by omega) (by omega) (by omega) (by omega) (by omega)))
    have P2 := Lib.hid (fun k : KW W => keepq (rmore_any a.1 a.2 n.1 n.2 k.w (by omega) (by omega) (by omega) (by omega) (by omega) (by omega) (by omega) (by omega)))
    clear f0 f1 f2 f3 f4 f5
    refine wp_region_kept_tail 12 (W) (by kernel_rfl) (by kernel_rfl) (Keeps.refl _) ?_
    simp only [List.take_succ_cons, List.take_zero, List.drop_succ_cons, List.drop_zero]
    repeat (first | go_big_quiet_skip | (go_big_quiet_want; go_big_quiet_op; first | go_big_quiet_on | go_big_quiet_call ((first | (go_at_call 76; first | (with_reducible exact L1.out _) | (with_reducible exact L2.out _)) | (go_at_call 78; first | (with_reducible exact P1.out _) | (with_reducible exact P2.out _))))))
    refine wpQuiet_nil ?_
    rintro w' ⟨k9, rfl⟩
    have hk := k9.keeps
    generalize k9.w = w9 at hk ⊢
    clear k9
    have hP := Lib.hid (Pts.lit w9 [subP a n, subP b n, addP b n, addP a n] hok.out 37 (show 4 ≤ maxLen by unfold maxLen; omega))
    have hkw := Lib.hid (KW0.trans hk)
    go_wp2_with (go_at_call 77; (with_reducible refine (rorient_any _ 4 4 _ _ hP.out (by omega)).mono ?_); rintro e w10 ⟨vv, rfl, hown, hk10⟩; have hown := Lib.hid hown; have hk10 := Lib.hid hk10)
    go_ret
    exact ⟨_, rfl, own_base hown.out (hkw.out.alloc _).size, (hkw.out.alloc _).trans hk10.out⟩
end

section
open Go.RowKit
attribute [local go_sem ↓] Go.wp_at_zero Go.wp_at_succ
set_option linter.unusedVariables false
set_option linter.unusedSimpArgs false
set_option maxRecDepth 100000 in
set_option maxHeartbeats 8000000 in
theorem cap_any (a b : Pt) (v : Int) (w : World) :
    Calls Tryz.prog 58 #[.agg #[.int .i64 a.1, .int .i64 a.2], .agg #[.int .i64 b.1, .int .i64 b.2], .int .i64 v] w (OwnP w (capL a b v)) := by
  have HS := Lib.hid (show ∀ w', Keeps ((w.alloc (.cells #[.int .i64 a.1, .int .i64 a.2] 37)).alloc (.cells #[.int .i64 b.1, .int .i64 b.2] 37)) w' → w'.cell? ⟨w.heap.size, 0, none⟩ = some (.int .i64 a.1) ∧ w'.frozen? ⟨w.heap.size, 0, none⟩ = false ∧ w'.cell? ⟨w.heap.size, 1, none⟩ = some (.int .i64 a.2) ∧ w'.frozen? ⟨w.heap.size, 1, none⟩ = false ∧ w'.cell? ⟨w.heap.size + 1, 0, none⟩ = some (.int .i64 b.1) ∧ w'.frozen? ⟨w.heap.size + 1, 0, none⟩ = false ∧ w'.cell? ⟨w.heap.size + 1, 1, none⟩ = some (.int .i64 b.2) ∧ w'.frozen? ⟨w.heap.size + 1, 1, none⟩ = false from fun w' hk => ⟨(hk.cell (p := ⟨w.heap.size, 0, none⟩) (by first | (simp; done) | (simp; omega))).trans (by simp [go_sem]), (hk.frozen (p := ⟨w.heap.size, 0, none⟩) (by first | (simp; done) | (simp; omega))).trans (by simp [go_sem]), (hk.cell (p := ⟨w.heap.size, 1, none⟩) (by first | (simp; done) | (simp; omega))).trans (by simp [go_sem]), (hk.frozen (p := ⟨w.heap.size, 1, none⟩) (by first | (simp; done) | (simp; omega))).trans (by simp [go_sem]), (hk.cell (p := ⟨w.heap.size + 1, 0, none⟩) (by first | (simp; done) | (simp; omega))).trans (by simp [go_sem]), (hk.frozen (p := ⟨w.heap.size + 1, 0, none⟩) (by first | (simp; done) | (simp; omega))).trans (by simp [go_sem]), (hk.cell (p := ⟨w.heap.size + 1, 1, none⟩) (by first | (simp; done) | (simp; omega))).trans (by simp [go_sem]), (hk.frozen (p := ⟨w.heap.size + 1, 1, none⟩) (by first | (simp; done) | (simp; omega))).trans (by simp [go_sem])⟩)
  have HB := Lib.hid (show Keeps w ((w.alloc (.cells #[.int .i64 a.1, .int .i64 a.2] 37)).alloc (.cells #[.int .i64 b.1, .int .i64 b.2] 37)) from (by (repeat (first | (with_reducible exact Keeps.refl _) | (with_reducible assumption) | (with_reducible refine Keeps.drewN ?_ _) | (with_reducible refine Keeps.drew ?_) | (with_reducible refine Keeps.alloc ?_ _) | (with_reducible refine Keeps.setNew ?_ ?_ _))) <;> (dsimp only; omega)))
  have hk0 := Keeps.refl ((w.alloc (.cells #[.int .i64 a.1, .int .i64 a.2] 37)).alloc (.cells #[.int .i64 b.1, .int .i64 b.2] 37))
  unfold capL
  have KA := Lib.hid (fun w => across_any a b v w)
  cases hm : mayB a b v with
  | false =>
    rw [if_neg (by decide)]
    rw [hm] at KA
    clear hm
    generalize acr a b v = n at *
    go_enter Tryz.func58, Tryz.ntmps58
    go_wp2_with (go_at_call 50; (with_reducible refine (keepk (KA.out _) (by first | assumption | exact Keeps.drew (by assumption) | exact Keeps.drewN (by assumption) _)).mono ?_); rintro e w1 ⟨rfl, hk⟩; have hj := Keeps.trans HB.out hk; have hk := hk; obtain ⟨y0, y1, y2, y3, y4, y5, y6, y7⟩ := HS.out _ hk)
    go_ret
    exact ⟨_, rfl, World.ownsRow_nil _ _ _ _, hj.alloc _⟩
  | true =>
    rw [if_pos rfl]
    obtain ⟨⟨b0, b1, b2, b3⟩, ⟨b4, b5, b6, b7⟩, bv⟩ := mayB_bd hm
    have hac : acr a b v = ofs (subP b a) v := by unfold acr; rw [if_pos hm]
    rw [hac] at KA
    rw [hm] at KA
    obtain ⟨⟨n0, n1⟩, n2, n3⟩ := ofs_bd' (subP b a) v
    clear hac
    clear hm bv
    generalize ofs (subP b a) v = n at *
    have hok : ∀ p ∈ ([subP b n, addP (subP b n) (n.2, -n.1), addP (addP b n) (n.2, -n.1), addP b n] : List Pt), okP p := by
      intro p hp
      simp at hp
      unfold okP i64b
      rcases hp with rfl | rfl | rfl | rfl <;> (simp only [addP, subP]; omega)
    have hok := Lib.hid hok
    go_enter Tryz.func58, Tryz.ntmps58
    go_wp2_with (first | (go_at_call 50; (with_reducible refine (keepk (KA.out _) (by first | assumption | exact Keeps.drew (by assumption) | exact Keeps.drewN (by assumption) _)).mono ?_); rintro e w1 ⟨rfl, hk⟩; have hj := Keeps.trans HB.out hk; have hk := hk; obtain ⟨y0, y1, y2, y3, y4, y5, y6, y7⟩ := HS.out _ hk))
    refine name_world (fun W hW => ?_)
    have HF := HS.out W (by rw [hW]; exact (by (repeat (first | (with_reducible exact Keeps.refl _) | (with_reducible assumption) | (with_reducible refine Keeps.drewN ?_ _) | (with_reducible refine Keeps.drew ?_) | (with_reducible refine Keeps.alloc ?_ _) | (with_reducible refine Keeps.setNew ?_ ?_ _))) <;> (dsimp only; omega)))
    have f0 := HF.1
    have f1 := HF.2.2.1
    have f2 := HF.2.2.2.2.1
    have f3 := HF.2.2.2.2.2.2.1
    clear HF
    have F : W.cell? ⟨w1.heap.size, 0, none⟩ = some (.int .i64 (n.1)) ∧ W.cell? ⟨w1.heap.size, 1, none⟩ = some (.int .i64 (n.2)) ∧ W.cell? ⟨w1.heap.size + 1, 0, none⟩ = some (.int .i64 (n.2)) ∧ W.cell? ⟨w1.heap.size + 1, 1, none⟩ = some (.int .i64 (-n.1)) := by rw [hW]; refine ⟨?_, ?_, ?_, ?_⟩ <;> go_simp
    have KW0 : Keeps w W := by rw [hW]; exact (by (repeat (first | (with_reducible exact Keeps.refl _) | (with_reducible assumption) | (with_reducible refine Keeps.drewN ?_ _) | (with_reducible refine Keeps.drew ?_) | (with_reducible refine Keeps.alloc ?_ _) | (with_reducible refine Keeps.setNew ?_ ?_ _))) <;> (dsimp only; omega))
    clear hW
    obtain ⟨f4, f5, f6, f7⟩ := F
    have z0 : ∀ k : KW W, k.w.cell? ⟨w.heap.size, 0, none⟩ = some (.int .i64 (a.1)) := fun k => (k.keeps.cell (World.block_lt_of_cell? W _ f0)).trans f0
    have z1 : ∀ k : KW W, k.w.cell? ⟨w.heap.size, 1, none⟩ = some (.int .i64 (a.2)) := fun k => (k.keeps.cell (World.block_lt_of_cell? W _ f1)).trans f1
    have z2 : ∀ k : KW W, k.w.cell? ⟨w.heap.size + 1, 0, none⟩ = some (.int .i64 (b.1)) := fun k => (k.keeps.cell (World.block_lt_of_cell? W _ f2)).trans f2
    have z3 : ∀ k : KW W, k.w.cell? ⟨w.heap.size + 1, 1, none⟩ = some (.int .i64 (b.2)) := fun k => (k.keeps.cell (World.block_lt_of_cell? W _ f3)).trans f3
    have z4 : ∀ k : KW W, k.w.cell? ⟨w1.heap.size, 0, none⟩ = some (.int .i64 (n.1)) := fun k => (k.keeps.cell (World.block_lt_of_cell? W _ f4)).trans f4
    have z5 : ∀ k : KW W, k.w.cell? ⟨w1.heap.size, 1, none⟩ = some (.int .i64 (n.2)) := fun k => (k.keeps.cell (World.block_lt_of_cell? W _ f5)).trans f5
    have z6 : ∀ k : KW W, k.w.cell? ⟨w1.heap.size + 1, 0, none⟩ = some (.int .i64 (n.2)) := fun k => (k.keeps.cell (World.block_lt_of_cell? W _ f6)).trans f6
    have z7 : ∀ k : KW W, k.w.cell? ⟨w1.heap.size + 1, 1, none⟩ = some (.int .i64 (-n.1)) := fun k => (k.keeps.cell (World.block_lt_of_cell? W _ f7)).trans f7
    have L1 := Lib.hid (fun k : KW W => keepq (sless_any b.1 b.2 n.1 n.2 k.w (by omega) (by omega) (by omega) (by omega) (by omega) (by omega) (by omega) (by omega)))
    have P1 := Lib.hid (fun k : KW W => keepq (splus_any (b.1 - n.1) (b.2 - n.2) n.2 (-n.1) k.w (by omega) (by omega) (by omega) (by omega) (by omega) (by omega) (by omega) (by omega)))
    have P2 := Lib.hid (fun k : KW W => keepq (splus_any b.1 b.2 n.1 n.2 k.w (by omega) (by omega) (by omega) (by omega) (by omega) (by omega) (by omega) (by omega)))
    have P3 := Lib.hid (fun k : KW W => keepq (splus_any (b.1 + n.1) (b.2 + n.2) n.2 (-n.1) k.w (by omega) (by omega) (by omega) (by omega) (by omega) (by omega) (by omega) (by omega)))
    clear f0 f1 f2 f3 f4 f5 f6 f7
    refine wp_region_kept_tail 16 (W) (by kernel_rfl) (by kernel_rfl) (Keeps.refl _) ?_
    simp only [List.take_succ_cons, List.take_zero, List.drop_succ_cons, List.drop_zero]
    repeat (first | go_big_quiet_skip | (go_big_quiet_want; go_big_quiet_op; first | go_big_quiet_on | go_big_quiet_call ((first | (go_at_call 52; first | (with_reducible exact L1.out _)) | (go_at_call 53; first | (with_reducible exact P1.out _) | (with_reducible exact P2.out _) | (with_reducible exact P3.out _))))))
    refine wpQuiet_nil ?_
    rintro w' ⟨k9, rfl⟩
    have hk := k9.keeps
    generalize k9.w = w9 at hk ⊢
    clear k9
    have hP := Lib.hid (Pts.lit w9 [subP b n, addP (subP b n) (n.2, -n.1), addP (addP b n) (n.2, -n.1), addP b n] hok.out 37 (show 4 ≤ maxLen by unfold maxLen; omega))
    have hkw := Lib.hid (KW0.trans hk)
    go_wp2_with (go_at_call 51; (with_reducible refine (orient_any _ 4 4 _ _ hP.out (by omega)).mono ?_); rintro e w10 ⟨vv, rfl, hown, hk10⟩; have hown := Lib.hid hown; have hk10 := Lib.hid hk10)
    go_ret
    exact ⟨_, rfl, own_base hown.out (hkw.out.alloc _).size, (hkw.out.alloc _).trans hk10.out⟩
set_option maxRecDepth 100000 in
set_option maxHeartbeats 8000000 in
theorem rcap_any (a b : Pt) (v : Int) (w : World) :
    Calls Tryz.prog 63 #[.agg #[.int .i64 a.1, .int .i64 a.2], .agg #[.int .i64 b.1, .int .i64 b.2], .int .i64 v] w (OwnP w (capL a b v)) := by
  have HS := Lib.hid (show ∀ w', Keeps ((w.alloc (.cells #[.int .i64 a.1, .int .i64 a.2] 37)).alloc (.cells #[.int .i64 b.1, .int .i64 b.2] 37)) w' → w'.cell? ⟨w.heap.size, 0, none⟩ = some (.int .i64 a.1) ∧ w'.frozen? ⟨w.heap.size, 0, none⟩ = false ∧ w'.cell? ⟨w.heap.size, 1, none⟩ = some (.int .i64 a.2) ∧ w'.frozen? ⟨w.heap.size, 1, none⟩ = false ∧ w'.cell? ⟨w.heap.size + 1, 0, none⟩ = some (.int .i64 b.1) ∧ w'.frozen? ⟨w.heap.size + 1, 0, none⟩ = false ∧ w'.cell? ⟨w.heap.size + 1, 1, none⟩ = some (.int .i64 b.2) ∧ w'.frozen? ⟨w.heap.size + 1, 1, none⟩ = false from fun w' hk => ⟨(hk.cell (p := ⟨w.heap.size, 0, none⟩) (by first | (simp; done) | (simp; omega))).trans (by simp [go_sem]), (hk.frozen (p := ⟨w.heap.size, 0, none⟩) (by first | (simp; done) | (simp; omega))).trans (by simp [go_sem]), (hk.cell (p := ⟨w.heap.size, 1, none⟩) (by first | (simp; done) | (simp; omega))).trans (by simp [go_sem]), (hk.frozen (p := ⟨w.heap.size, 1, none⟩) (by first | (simp; done) | (simp; omega))).trans (by simp [go_sem]), (hk.cell (p := ⟨w.heap.size + 1, 0, none⟩) (by first | (simp; done) | (simp; omega))).trans (by simp [go_sem]), (hk.frozen (p := ⟨w.heap.size + 1, 0, none⟩) (by first | (simp; done) | (simp; omega))).trans (by simp [go_sem]), (hk.cell (p := ⟨w.heap.size + 1, 1, none⟩) (by first | (simp; done) | (simp; omega))).trans (by simp [go_sem]), (hk.frozen (p := ⟨w.heap.size + 1, 1, none⟩) (by first | (simp; done) | (simp; omega))).trans (by simp [go_sem])⟩)
  have HB := Lib.hid (show Keeps w ((w.alloc (.cells #[.int .i64 a.1, .int .i64 a.2] 37)).alloc (.cells #[.int .i64 b.1, .int .i64 b.2] 37)) from (by (repeat (first | (with_reducible exact Keeps.refl _) | (with_reducible assumption) | (with_reducible refine Keeps.drewN ?_ _) | (with_reducible refine Keeps.drew ?_) | (with_reducible refine Keeps.alloc ?_ _) | (with_reducible refine Keeps.setNew ?_ ?_ _))) <;> (dsimp only; omega)))
  have hk0 := Keeps.refl ((w.alloc (.cells #[.int .i64 a.1, .int .i64 a.2] 37)).alloc (.cells #[.int .i64 b.1, .int .i64 b.2] 37))
  unfold capL
  have KA := Lib.hid (fun w => rmay_any a b v w)
  cases hm : mayB a b v with
  | false =>
    rw [if_neg (by decide)]
    rw [hm] at KA
    clear hm
    go_enter Tryz.func63, Tryz.ntmps63
    go_wp2_with (go_at_call 74; (with_reducible refine (keepk (KA.out _) (by first | assumption | exact Keeps.drew (by assumption) | exact Keeps.drewN (by assumption) _)).mono ?_); rintro e w1 ⟨rfl, hk⟩; have hj := Keeps.trans HB.out hk; have hk := hk; obtain ⟨y0, y1, y2, y3, y4, y5, y6, y7⟩ := HS.out _ hk)
    go_ret
    exact ⟨_, rfl, own_base (World.ownsRow_lit w1 #[] 0 (Nat.le_refl _) (by unfold maxLen; omega) (by simp)) hj.size, hj.alloc _⟩
  | true =>
    rw [if_pos rfl]
    obtain ⟨⟨b0, b1, b2, b3⟩, ⟨b4, b5, b6, b7⟩, bv⟩ := mayB_bd hm
    rw [hm] at KA
    obtain ⟨⟨n0, n1⟩, n2, n3⟩ := ofs_bd' (subP b a) v
    have KL := Lib.hid (fun w => rless22_any b.1 b.2 a.1 a.2 w (by omega) (by omega) (by omega) (by omega) (by omega) (by omega) (by omega) (by omega))
    have KO := Lib.hid (fun w => rofs_any (b.1 - a.1) (b.2 - a.2) v w)
    rw [show ((b.1 - a.1, b.2 - a.2) : Pt) = subP b a from rfl] at KO
    clear hm bv
    generalize ofs (subP b a) v = n at *
    have hok : ∀ p ∈ ([subP b n, addP (subP b n) (n.2, -n.1), addP (addP b n) (n.2, -n.1), addP b n] : List Pt), okP p := by
      intro p hp
      simp at hp
      unfold okP i64b
      rcases hp with rfl | rfl | rfl | rfl <;> (simp only [addP, subP]; omega)
    have hok := Lib.hid hok
    go_enter Tryz.func63, Tryz.ntmps63
    go_wp2_with (first | (go_at_call 74; (with_reducible refine (keepk (KA.out _) (by first | assumption | exact Keeps.drew (by assumption) | exact Keeps.drewN (by assumption) _)).mono ?_); rintro e w1 ⟨rfl, hk⟩; have hj := Keeps.trans HB.out hk; have hk := hk; obtain ⟨y0, y1, y2, y3, y4, y5, y6, y7⟩ := HS.out _ hk) | (go_at_call 76; (with_reducible refine (keepk (KL.out _) (by first | assumption | exact Keeps.drew (by assumption) | exact Keeps.drewN (by assumption) _)).mono ?_); rintro e w1 ⟨rfl, hk⟩; have hj := Keeps.trans HB.out hk; have hk := hk; obtain ⟨y0, y1, y2, y3, y4, y5, y6, y7⟩ := HS.out _ hk) | (go_at_call 75; (with_reducible refine (keepk (KO.out _) (by first | assumption | exact Keeps.drew (by assumption) | exact Keeps.drewN (by assumption) _)).mono ?_); rintro e w1 ⟨rfl, hk⟩; have hj := Keeps.trans HB.out hk; have hk := hk; obtain ⟨y0, y1, y2, y3, y4, y5, y6, y7⟩ := HS.out _ hk))
    refine name_world (fun W hW => ?_)
    have HF := HS.out W (by rw [hW]; exact (by (repeat (first | (with_reducible exact Keeps.refl _) | (with_reducible assumption) | (with_reducible refine Keeps.drewN ?_ _) | (with_reducible refine Keeps.drew ?_) | (with_reducible refine Keeps.alloc ?_ _) | (with_reducible refine Keeps.setNew ?_ ?_ _))) <;> (dsimp only; omega)))
    have f0 := HF.1
    have f1 := HF.2.2.1
    have f2 := HF.2.2.2.2.1
    have f3 := HF.2.2.2.2.2.2.1
    clear HF
    have F : W.cell? ⟨w1.heap.size, 0, none⟩ = some (.int .i64 (n.1)) ∧ W.cell? ⟨w1.heap.size, 1, none⟩ = some (.int .i64 (n.2)) ∧ W.cell? ⟨w1.heap.size + 1, 0, none⟩ = some (.int .i64 (n.2)) ∧ W.cell? ⟨w1.heap.size + 1, 1, none⟩ = some (.int .i64 (-n.1)) := by rw [hW]; refine ⟨?_, ?_, ?_, ?_⟩ <;> go_simp
    have KW0 : Keeps w W := by rw [hW]; exact (by (repeat (first | (with_reducible exact Keeps.refl _) | (with_reducible assumption) | (with_reducible refine Keeps.drewN ?_ _) | (with_reducible refine Keeps.drew ?_) | (with_reducible refine Keeps.alloc ?_ _) | (with_reducible refine Keeps.setNew ?_ ?_ _))) <;> (dsimp only; omega))
    clear hW
    obtain ⟨f4, f5, f6, f7⟩ := F
    have z0 : ∀ k : KW W, k.w.cell? ⟨w.heap.size, 0, none⟩ = some (.int .i64 (a.1)) := fun k => (k.keeps.cell (World.block_lt_of_cell? W _ f0)).trans f0
    have z1 : ∀ k : KW W, k.w.cell? ⟨w.heap.size, 1, none⟩ = some (.int .i64 (a.2)) := fun k => (k.keeps.cell (World.block_lt_of_cell? W _ f1)).trans f1
    have z2 : ∀ k : KW W, k.w.cell? ⟨w.heap.size + 1, 0, none⟩ = some (.int .i64 (b.1)) := fun k => (k.keeps.cell (World.block_lt_of_cell? W _ f2)).trans f2
    have z3 : ∀ k : KW W, k.w.cell? ⟨w.heap.size + 1, 1, none⟩ = some (.int .i64 (b.2)) := fun k => (k.keeps.cell (World.block_lt_of_cell? W _ f3)).trans f3
    have z4 : ∀ k : KW W, k.w.cell? ⟨w1.heap.size, 0, none⟩ = some (.int .i64 (n.1)) := fun k => (k.keeps.cell (World.block_lt_of_cell? W _ f4)).trans f4
    have z5 : ∀ k : KW W, k.w.cell? ⟨w1.heap.size, 1, none⟩ = some (.int .i64 (n.2)) := fun k => (k.keeps.cell (World.block_lt_of_cell? W _ f5)).trans f5
    have z6 : ∀ k : KW W, k.w.cell? ⟨w1.heap.size + 1, 0, none⟩ = some (.int .i64 (n.2)) := fun k => (k.keeps.cell (World.block_lt_of_cell? W _ f6)).trans f6
    have z7 : ∀ k : KW W, k.w.cell? ⟨w1.heap.size + 1, 1, none⟩ = some (.int .i64 (-n.1)) := fun k => (k.keeps.cell (World.block_lt_of_cell? W _ f7)).trans f7
    have L1 := Lib.hid (fun k : KW W => keepq (rless22_any b.1 b.2 n.1 n.2 k.w (by omega) (by omega) (by omega) (by omega) (by omega) (by omega) (by omega) (by omega)))
    have P1 := Lib.hid (fun k : KW W => keepq (rmore_any (b.1 - n.1) (b.2 - n.2) n.2 (-n.1) k.w (by omega) (by omega) (by omega) (by omega) (by omega) (by omega) (by omega) (by omega)))
    have P2 := Lib.hid (fun k : KW W => keepq (rmore_any b.1 b.2 n.1 n.2 k.w (by omega) (by omega) (by omega) (by omega) (by omega) (by omega) (by omega) (by omega)))
    have P3 := Lib.hid (fun k : KW W => keepq (rmore_any (b.1 + n.1) (b.2 + n.2) n.2 (-n.1) k.w (by omega) (by omega) (by omega) (by omega) (by omega) (by omega) (by omega) (by omega)))
    clear f0 f1 f2 f3 f4 f5 f6 f7
    refine wp_region_kept_tail 16 (W) (by kernel_rfl) (by kernel_rfl) (Keeps.refl _) ?_
    simp only [List.take_succ_cons, List.take_zero, List.drop_succ_cons, List.drop_zero]
    repeat (first | go_big_quiet_skip | (go_big_quiet_want; go_big_quiet_op; first | go_big_quiet_on | go_big_quiet_call ((first | (go_at_call 76; first | (with_reducible exact L1.out _)) | (go_at_call 78; first | (with_reducible exact P1.out _) | (with_reducible exact P2.out _) | (with_reducible exact P3.out _))))))
    refine wpQuiet_nil ?_
    rintro w' ⟨k9, rfl⟩
    have hk := k9.keeps
    generalize k9.w = w9 at hk ⊢
    clear k9
    have hP := Lib.hid (Pts.lit w9 [subP b n, addP (subP b n) (n.2, -n.1), addP (addP b n) (n.2, -n.1), addP b n] hok.out 37 (show 4 ≤ maxLen by unfold maxLen; omega))
    have hkw := Lib.hid (KW0.trans hk)
    go_wp2_with (go_at_call 77; (with_reducible refine (rorient_any _ 4 4 _ _ hP.out (by omega)).mono ?_); rintro e w10 ⟨vv, rfl, hown, hk10⟩; have hown := Lib.hid hown; have hk10 := Lib.hid hk10)
    go_ret
    exact ⟨_, rfl, own_base hown.out (hkw.out.alloc _).size, (hkw.out.alloc _).trans hk10.out⟩
end
end Go.Proofs.YtdodgnpjlicnoaaGreat
