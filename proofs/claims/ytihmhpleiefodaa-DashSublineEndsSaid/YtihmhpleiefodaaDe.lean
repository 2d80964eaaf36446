/- Contract of reference 24's Dedup (chapter 25). -/
import Derived.Test.YtihmhpleiefodaaKu
import Derived.RangeFuncRecord
import Derived.Test.YtihmhpleiefodaaDd
namespace Go.Proofs.Ytihmhpleiefodaa
section
open Go.RowKit
attribute [local go_sem ↓] Go.wp_at_zero Go.wp_at_succ
set_option linter.unusedVariables false
set_option linter.unusedSimpArgs false
/-- the polyline under way: its box, its points in a row of the call's own -/
structure DI (W0 : World) (bo : Nat) (cl : Bool) (v : Value) (M : List Pt) (wr : World) : Prop where
  box : wr.heap[bo]? = some (.cells #[v, .bool cl] 24 (0, 0))
  own : wr.ownsRow W0.heap.size 50 2 v M.length (rowP M)
  keep : Keeps W0 wr
  up : W0.heap.size ≤ bo
theorem DI.c0 {W0 wr : World} {bo : Nat} {cl : Bool} {v : Value} {M : List Pt} (h : DI W0 bo cl v M wr) : wr.cell? ⟨bo, 0, none⟩ = some v := by simp [World.cell?, h.box]
theorem DI.c1 {W0 wr : World} {bo : Nat} {cl : Bool} {v : Value} {M : List Pt} (h : DI W0 bo cl v M wr) : wr.cell? ⟨bo, 1, none⟩ = some (.bool cl) := by simp [World.cell?, h.box]
theorem DI.f0 {W0 wr : World} {bo : Nat} {cl : Bool} {v : Value} {M : List Pt} (h : DI W0 bo cl v M wr) : wr.frozen? ⟨bo, 0, none⟩ = false := by simp [World.frozen?, h.box]
theorem DI.lt {W0 wr : World} {bo : Nat} {cl : Bool} {v : Value} {M : List Pt} (h : DI W0 bo cl v M wr) : bo < wr.heap.size := (Array.getElem?_eq_some_iff.1 h.box).1
theorem DI.step {W0 wr w' : World} {bo : Nat} {cl : Bool} {v : Value} {M : List Pt} (h : DI W0 bo cl v M wr) (hk : Keeps wr w') : DI W0 bo cl v M w' :=
  ⟨(hk.block bo h.lt).trans h.box, own_keep h.own hk, h.keep.trans hk, h.up⟩
theorem row_not_box {w : World} {B bo n : Nat} {v : Value} {xs : List Value} {cs : Array Value} (hr : w.ownsRow B 50 2 v n xs) (hb : w.heap[bo]? = some (.cells cs 24 (0, 0))) : v.ownBlock ≠ some bo := by
  rcases hr.2 with ⟨rfl, _⟩ | ⟨g, cap, cur, rfl, _, hgb, _⟩
  · simp [Value.ownBlock]
  · intro e
    obtain rfl : g = bo := by simpa [Value.ownBlock] using e
    rw [hb] at hgb
    simp at hgb
theorem box_set {w : World} {bo : Nat} {v u v' : Value} {t : TypeId} (h : w.heap[bo]? = some (.cells #[v, u] t (0, 0))) : (w.setCell ⟨bo, 0, none⟩ v').heap[bo]? = some (.cells #[v', u] t (0, 0)) := by
  obtain ⟨hlt, hk⟩ := Array.getElem?_eq_some_iff.1 h
  show (w.heap.modify bo _)[bo]? = _
  rw [Array.getElem?_eq_getElem (by rw [Array.size_modify]; exact hlt), Array.getElem_modify_self, hk]
  rfl
theorem DI.put {W0 wr : World} {bo : Nat} {cl : Bool} {v v' : Value} {M' : List Pt} (hb : wr.heap[bo]? = some (.cells #[v, .bool cl] 24 (0, 0))) (hown : wr.ownsRow W0.heap.size 50 2 v' M'.length (rowP M')) (hk : Keeps W0 wr) (hu : W0.heap.size ≤ bo) :
    DI W0 bo cl v' M' (wr.setCell ⟨bo, 0, none⟩ v') :=
  ⟨box_set hb, ownsRow_setCell_other hown (row_not_box hown hb) _, hk.setNew hu _, hu⟩
theorem DI.app {W0 wr w1 : World} {bo : Nat} {cl : Bool} {v v1 : Value} {M : List Pt} {p : Pt} {o : Obj} (h : DI W0 bo cl v M wr) (hg : (wr.alloc o).grownBy w1 v.ownBlock) (hown1 : w1.ownsRow W0.heap.size 50 2 v1 (M.length + 1) (rowP (M ++ [p]))) :
    w1.cell? ⟨bo, 0, none⟩ = some v ∧ w1.frozen? ⟨bo, 0, none⟩ = false ∧ DI W0 bo cl v1 (M ++ [p]) (w1.setCell ⟨bo, 0, none⟩ v1) := by
  have hne := row_not_box h.own h.box
  have e1 := (World.grownBy_alloc wr o none).block bo h.lt (by simp)
  have e2 := hg.block bo (by have := h.lt; simp; omega) (fun e => hne e.symm)
  have hb := (e2.trans e1).trans h.box
  refine ⟨by simp [World.cell?, hb], by simp [World.frozen?, hb], DI.put hb (by rw [List.length_append]; exact hown1) (below_own h.keep rfl h.own hg) h.up⟩
set_option maxRecDepth 100000 in
set_option maxHeartbeats 8000000 in
theorem rdedup_any (cl : Bool) (A : Option Addr) (n c : Nat) (L : List Pt) (w : World) (h : Pts w A n c L) (hn : n ≤ 1000000) :
    Calls Try.prog 24 #[.agg #[.slice A n c, .bool cl]] w (RetPl w cl (dedC cl L)) := by
  obtain ⟨i0, hi, hz0, hz1, hz2⟩ := info_parts pt_info
  have HI0 := Lib.hid (And.intro hi (And.intro hz0 (And.intro hz1 hz2)))
  have hl := h.1
  have hni : (n : Int) ≤ 1000000 := by omega
  have hok := Lib.hid (dedTo_ok L h.2.2.2.1 L.length (Nat.le_refl _))
  have hdl := Lib.hid (fun j => dedTo_len L j)
  have HS := Lib.hid (show ∀ w', Keeps ((w.alloc (.cells #[.slice A n c, .bool cl] 24)).alloc (.cells #[.slice none 0 0, .bool false] 24)) w' → w'.cell? ⟨w.heap.size, 0, none⟩ = some (.slice A n c) ∧ w'.frozen? ⟨w.heap.size, 0, none⟩ = false ∧ w'.cell? ⟨w.heap.size, 1, none⟩ = some (.bool cl) ∧ w'.frozen? ⟨w.heap.size, 1, none⟩ = false ∧ w'.cell? ⟨w.heap.size + 1, 0, none⟩ = some (.slice none 0 0) ∧ w'.frozen? ⟨w.heap.size + 1, 0, none⟩ = false ∧ w'.cell? ⟨w.heap.size + 1, 1, none⟩ = some (.bool false) ∧ w'.frozen? ⟨w.heap.size + 1, 1, none⟩ = false from fun w' hk => ⟨(hk.cell (p := ⟨w.heap.size, 0, none⟩) (by first | (simp; done) | (simp; omega))).trans (by simp [go_sem]), (hk.frozen (p := ⟨w.heap.size, 0, none⟩) (by first | (simp; done) | (simp; omega))).trans (by simp [go_sem]), (hk.cell (p := ⟨w.heap.size, 1, none⟩) (by first | (simp; done) | (simp; omega))).trans (by simp [go_sem]), (hk.frozen (p := ⟨w.heap.size, 1, none⟩) (by first | (simp; done) | (simp; omega))).trans (by simp [go_sem]), (hk.cell (p := ⟨w.heap.size + 1, 0, none⟩) (by first | (simp; done) | (simp; omega))).trans (by simp [go_sem]), (hk.frozen (p := ⟨w.heap.size + 1, 0, none⟩) (by first | (simp; done) | (simp; omega))).trans (by simp [go_sem]), (hk.cell (p := ⟨w.heap.size + 1, 1, none⟩) (by first | (simp; done) | (simp; omega))).trans (by simp [go_sem]), (hk.frozen (p := ⟨w.heap.size + 1, 1, none⟩) (by first | (simp; done) | (simp; omega))).trans (by simp [go_sem])⟩)
  have HB := Lib.hid (show Keeps w ((w.alloc (.cells #[.slice A n c, .bool cl] 24)).alloc (.cells #[.slice none 0 0, .bool false] 24)) from (by (repeat (first | (with_reducible exact Keeps.refl _) | (with_reducible assumption) | (with_reducible refine Keeps.drewN ?_ _) | (with_reducible refine Keeps.drew ?_) | (with_reducible refine Keeps.alloc ?_ _) | (with_reducible refine Keeps.setNew ?_ ?_ _))) <;> (dsimp only; omega)))
  have hk0 := Keeps.refl ((w.alloc (.cells #[.slice A n c, .bool cl] 24)).alloc (.cells #[.slice none 0 0, .bool false] 24))
  have HP := Lib.hid (fun w' (hk : Keeps ((w.alloc (.cells #[.slice A n c, .bool cl] 24)).alloc (.cells #[.slice none 0 0, .bool false] 24)) w') => h.keep (HB.out.trans hk))
  have hW0s : (((w.alloc (.cells #[.slice A n c, .bool cl] 24)).alloc (.cells #[.slice none 0 0, .bool false] 24))).heap.size = w.heap.size + 2 := by simp
  clear h hi hz0 hz1 hz2
  go_enter Try.func24, Try.ntmps24
  go_wp2_with fail
  generalize ((w.alloc (.cells #[.slice A n c, .bool cl] 24)).alloc (.cells #[.slice none 0 0, .bool false] 24)) = W0 at *
  have HD0 := Lib.hid (show DI W0 (w.heap.size + 2 + 1) cl (.slice (some ⟨w.heap.size + 2, 0, none⟩) 0 0) [] ((W0.alloc (.cells #[] 50)).alloc (.cells #[.slice (some ⟨w.heap.size + 2, 0, none⟩) 0 0, .bool cl] 24)) from
    ⟨by rw [show w.heap.size + 2 + 1 = (W0.alloc (.cells #[] 50)).heap.size by simp [hW0s]]; exact World.alloc_heap_new _ _, (own_litH W0 #[] 0 2 _ _ _ hW0s (by omega) (by unfold maxLen; omega) (by simp)).alloc _, ((Keeps.refl _).alloc _).alloc _, by omega⟩)
  generalize (W0.alloc (.cells #[] 50)).alloc (.cells #[.slice (some ⟨w.heap.size + 2, 0, none⟩) 0 0, .bool cl] 24) = W2 at *
  go_loopw [4] (fun i wr => ∃ (j : Nat) (v : Value), j ≤ n ∧ i = .int .i64 j ∧ Hid (DI W0 (w.heap.size + 2 + 1) cl v (dedTo L j) wr)) (fun i _ => n - (intOf i).toNat)
  case atStart => exact ⟨0, _, by omega, rfl, HD0⟩
  case round =>
    clear HD0 hk0
    obtain ⟨j, v, hj, rfl, hI⟩ := hrel
    have hdj := hdl.out j
    by_cases hlt : j < n
    · have hlt2 : (j : Int) < n := by omega
      obtain ⟨b, o, rfl, hbw, hC0⟩ := (HP.out _ (Keeps.refl _)).2.2.2.2 (by omega)
      have hpt := Lib.hid (fun q (hq : q < n) w' (hk : Keeps W0 w') => (hC0 q hq).keep hbw hk)
      clear hC0
      obtain ⟨y0, y1, y2, y3, y4, y5, y6, y7⟩ := HS.out _ hI.out.keep
      rcases Nat.eq_zero_or_pos j with h0 | h0
      · subst h0
        have hT := Lib.hid (show dedTo L (0 + 1) = dedTo L 0 ++ [L.getD 0 pt0] by simp [dedTo])
        go_wp2_with fail
        go_quiet (fail)
        go_wp2_with fail
        clear y0 y1 y2 y3 y4 y5 y6 y7
        have hwx : Keeps wr (wr.drewN nq) := (Keeps.refl _).drewN _
        generalize wr.drewN nq = wx at *
        have gp0 := hpt.out 0 hlt
        simp only [Nat.zero_mul, Nat.add_zero] at gp0
        generalize L.getD 0 pt0 = p at *
        have hI9 := Lib.hid (hI.out.step hwx)
        have hI8 := Lib.hid (hI9.out.step (Keeps.refl wx).drew)
        have hkx := hI9.out.keep
        have x0 : wx.cell? ⟨w.heap.size + 2 + 1, 0, none⟩ = some v := hI9.out.c0
        have x1 : wx.drew.cell? ⟨w.heap.size + 2 + 1, 0, none⟩ = some v := x0
        have x2 : w.heap.size + 2 + 1 < wx.heap.size := hI9.out.lt
        have x3 : wx.cell? ⟨w.heap.size, 0, none⟩ = some (.slice (some ⟨b, o, none⟩) n c) := (HS.out _ hkx).1
        have x4 : wx.cell? ⟨b, o, none⟩ = some (.int .i64 p.1) := (gp0 _ hkx).1
        have x5 : wx.cell? ⟨b, o + 1, none⟩ = some (.int .i64 p.2) := (gp0 _ hkx).2
        have x6 : w.heap.size < wx.heap.size := World.block_lt_of_cell? wx _ x3
        have x7 : b < wx.heap.size := World.block_lt_of_cell? wx _ x4
        obtain ⟨hi, hz0, hz1, hz2⟩ := HI0.out
        clear gp0 hI
        go_region_law (refine step_appendQ _ (by rfl) (.tmp 33) (.tmp 39) 22 (by rfl) W0.heap.size 50 i0 (.agg #[.int .i64 0, .int .i64 0]) 2 16 Try.underlying22 hi hz0 hz1 hz2 rfl (by decide) _ _ _ (by rfl) (hI8.out.own.alloc _) ⟨wx.heap.size, 0, none⟩ 1 1 (ptV p) (by rfl) rfl (two_new wx.drew p _) (oneCell_ptV _) (by unfold maxLen; omega) (by omega) (by have := hI8.out.keep.size; simp at this ⊢; omega) ?_; intro v1 w1 hown1 hgrow1; rw [← rowP_one, ← rowP_append] at hown1; obtain ⟨A1, c1, rfl⟩ := own_len hown1; obtain ⟨z0, z1, hD⟩ := DI.app hI8.out hgrow1 hown1; have hkD := hD.keep; have hkE : Keeps W0 w1 := below_own hI8.out.keep rfl hI8.out.own hgrow1; have hD := Lib.hid hD; clear hgrow1 hown1)
        all_goals
          go_wp2_with fail
          go_roundw
          case rel => exact ⟨0 + 1, _, by omega, by go_num, Lib.hid (by rw [hT.out]; exact hD.out)⟩
          case measure => simp [intOf]; omega
      · have q0 : ((j : Int) == 0) = false := by rw [beq_eq_false_iff_ne]; omega
        obtain ⟨q, hq⟩ : ∃ q : Nat, j = q + 1 := ⟨j - 1, by omega⟩
        have hq1 : (j : Int) - 1 = q := by omega
        have hwq : IntKind.i64.wrap (q : Int) = q := IntWalk.i64_in _ (by omega)
        have hqn : (q : Int) < n := by omega
        have hTn := Lib.hid (fun h => show dedTo L (j + 1) = dedTo L j ++ [L.getD j pt0] by rw [dedTo_new L j h0 h])
        have hTo := Lib.hid (fun h => show dedTo L (j + 1) = dedTo L j by rw [dedTo_old L j h0 h])
        rw [show j - 1 = q by omega] at hTn hTo
        clear hq
        have gp := hpt.out j hlt wr hI.out.keep
        have gq := hpt.out q (by omega) wr hI.out.keep
        have hxy := Lib.hid (show (fun x y => x = L.getD j pt0 ∧ y = L.getD q pt0) (L.getD j pt0) (L.getD q pt0) from ⟨rfl, rfl⟩)
        obtain ⟨c0, c1⟩ := gp
        obtain ⟨d0, d1⟩ := gq
        generalize hx : L.getD j pt0 = x at c0 c1
        generalize hy : L.getD q pt0 = y at d0 d1
        have hP := fun w => ptNeq x.1 x.2 y.1 y.2 w
        by_cases he : x = y
        · have hT := Lib.hid (hTo.out (by rw [hx, hy, he]))
          rw [show ((x.1 == y.1) && (x.2 == y.2)) = true by rw [he]; simp] at hP
          simp only [Bool.not_true] at hP
          clear hx hy he hxy
          go_wp2_with fail
          go_quiet (fail)
          go_wp2_with fail
          go_roundw
          case rel => exact ⟨j + 1, v, by omega, by go_num, Lib.hid (by rw [hT.out]; exact hI.out.step ((Keeps.refl _).drewN _))⟩
          case measure => simp [intOf]; omega
        · have hT := Lib.hid (hTn.out (by rw [hx, hy]; exact he))
          rw [show ((x.1 == y.1) && (x.2 == y.2)) = false by rw [Bool.eq_false_iff]; intro h; simp at h; exact he (Prod.ext h.1 h.2)] at hP
          simp only [Bool.not_false] at hP
          clear hx hy he hxy hTn hTo
          go_wp2_with fail
          go_quiet (fail)
          go_wp2_with fail
          clear y0 y1 y2 y3 y4 y5 y6 y7 c0 c1 d0 d1 hP
          have hwx : Keeps wr (wr.drewN nq) := (Keeps.refl _).drewN _
          generalize wr.drewN nq = wx at *
          have gp0 := hpt.out j hlt
          generalize L.getD j pt0 = p at *
          have hI9 := Lib.hid (hI.out.step hwx)
          have hI8 := Lib.hid (hI9.out.step (Keeps.refl wx).drew)
          have hkx := hI9.out.keep
          have x0 : wx.cell? ⟨w.heap.size + 2 + 1, 0, none⟩ = some v := hI9.out.c0
          have x1 : wx.drew.cell? ⟨w.heap.size + 2 + 1, 0, none⟩ = some v := x0
          have x2 : w.heap.size + 2 + 1 < wx.heap.size := hI9.out.lt
          have x3 : wx.cell? ⟨w.heap.size, 0, none⟩ = some (.slice (some ⟨b, o, none⟩) n c) := (HS.out _ hkx).1
          have x4 : wx.cell? ⟨b, o + j * 2, none⟩ = some (.int .i64 p.1) := (gp0 _ hkx).1
          have x5 : wx.cell? ⟨b, o + j * 2 + 1, none⟩ = some (.int .i64 p.2) := (gp0 _ hkx).2
          have x6 : w.heap.size < wx.heap.size := World.block_lt_of_cell? wx _ x3
          have x7 : b < wx.heap.size := World.block_lt_of_cell? wx _ x4
          obtain ⟨hi, hz0, hz1, hz2⟩ := HI0.out
          clear gp0 hI
          go_region_law (refine step_appendQ _ (by rfl) (.tmp 33) (.tmp 39) 22 (by rfl) W0.heap.size 50 i0 (.agg #[.int .i64 0, .int .i64 0]) 2 16 Try.underlying22 hi hz0 hz1 hz2 rfl (by decide) _ _ _ (by rfl) (hI8.out.own.alloc _) ⟨wx.heap.size, 0, none⟩ 1 1 (ptV p) (by rfl) rfl (two_new wx.drew p _) (oneCell_ptV _) (by unfold maxLen; omega) (by omega) (by have := hI8.out.keep.size; simp at this ⊢; omega) ?_; intro v1 w1 hown1 hgrow1; rw [← rowP_one, ← rowP_append] at hown1; obtain ⟨A1, c1, rfl⟩ := own_len hown1; obtain ⟨z0, z1, hD⟩ := DI.app hI8.out hgrow1 hown1; have hkD := hD.keep; have hkE : Keeps W0 w1 := below_own hI8.out.keep rfl hI8.out.own hgrow1; have hD := Lib.hid hD; clear hgrow1 hown1)
          all_goals
            go_wp2_with fail
            go_roundw
            case rel => exact ⟨j + 1, _, by omega, by go_num, Lib.hid (by rw [hT.out]; exact hD.out)⟩
            case measure => simp [intOf]; omega
    · obtain rfl : j = n := by omega
      have hlt2 : ¬ (j : Int) < j := by omega
      obtain ⟨y0, y1, y2, y3, y4, y5, y6, y7⟩ := HS.out _ hI.out.keep
      go_wp2_with fail
      clear y0 y1 y2 y3 y4 y5 y6 y7
      have hE0 := Lib.hid (show dedC cl L = if cl = true then trimC (ded L).length (ded L) else ded L from rfl)
      have hI1 := Lib.hid (show DI W0 (w.heap.size + 2 + 1) cl v (ded L) wr by unfold ded; rw [hl]; exact hI.out)
      have hdl := Lib.hid (show (ded L).length ≤ j by unfold ded; rw [hl]; exact hdj)
      go_loopw [42] (fun _ wr => ∃ (v : Value) (X : List Pt), Hid (DI W0 (w.heap.size + 2 + 1) cl v X wr) ∧ Hid (X.length ≤ j) ∧ Hid (∀ p ∈ X, okP p) ∧ Hid (dedC cl L = if cl = true then trimC X.length X else X)) (fun _ wr => lenV ((wr.cell? ⟨w.heap.size + 2 + 1, 0, none⟩).getD undef))
      case atStart => exact ⟨v, ded L, hI1, hdl, hok, hE0⟩
      case round =>
      clear hI hI1 hE0 hdl hdj
      obtain ⟨v, X, hI, hXn, hOk, hR⟩ := hrel
      have hI0 := hI.out
      have y := HS.out _ hI0.keep
      obtain ⟨y0, y1, y2, y3, y4, y5, y6, y7⟩ := y
      have b0 := hI0.c0
      have b1 := hI0.c1
      have b2 := hI0.f0
      have hend : (cl = true → ¬ (1 < X.length ∧ X.getD (X.length - 1) pt0 = X.getD 0 pt0)) → Hid (dedC cl L = X) := fun hc => Lib.hid (by
        rw [hR.out]
        cases cl with
        | false => rfl
        | true => rw [if_pos rfl]; exact trim_off X (hc rfl))
      obtain ⟨Ai, ci, rfl⟩ := own_len hI0.own
      have fin : ∀ (wz : World) (hD : dedC cl L = X) (hz : Keeps wr wz), RetPl w cl (dedC cl L) (.returned (.agg #[.slice Ai X.length ci, .bool cl])) ((wz.setCell ⟨w.heap.size + 1, 0, none⟩ (.slice Ai X.length ci)).setCell ⟨w.heap.size + 1, 1, none⟩ (.bool cl)) := fun wz hD hz => by
        rw [hD]
        have ho := own_keep hI0.own hz
        have ho := ownsRow_setCell_other ho (a := ⟨w.heap.size + 1, 0, none⟩) (fun e => by have := (ho.lt _ e).1; dsimp only at this; omega) (.slice Ai X.length ci)
        have ho := ownsRow_setCell_other ho (a := ⟨w.heap.size + 1, 1, none⟩) (fun e => by have := (ho.lt _ e).1; dsimp only at this; omega) (.bool cl)
        obtain ⟨A', c', he, hP⟩ := Pts.of_own ho rfl hOk.out
        cases he
        have hnw := own_base ho (B2 := w.heap.size) (by first | omega | (simp; done) | (simp; omega))
        exact ⟨_, _, rfl, hP, (((HB.out.trans hI0.keep).trans hz).setNew (by dsimp only; omega) _).setNew (by dsimp only; omega) _, hnw⟩
      have fin := Lib.hid fin
      have n1 := fun (w' : World) (u : Value) => setOff w' (w.heap.size + 1) 0 1 u (by omega)
      have hmi : (X.length : Int) ≤ 1000000000000 := by have := hXn.out; omega
      by_cases hgo : cl = true ∧ 1 < X.length
      · obtain ⟨rfl, h1⟩ := hgo
        have hOg := hI0.own
        obtain ⟨g, cap, hx, hcap, _⟩ := own_slice hOg (by omega)
        obtain ⟨rfl, rfl⟩ : Ai = some ⟨g, 0, none⟩ ∧ ci = cap := by simpa using hx
        have cc := fun i (hi : i < X.length * 2) => (rowAt hOg i hi).2.1
        have rp : ∀ q i, q < X.length → i < 2 → wr.cell? ⟨g, q * 2 + i, none⟩ = (ptV (X.getD q pt0))[i]? := fun q i hk hi => (cc (q * 2 + i) (by omega)).trans (rowP_get X q i (by omega) hi)
        obtain ⟨q, hq⟩ : ∃ q : Nat, X.length = q + 1 := ⟨X.length - 1, by omega⟩
        have c0 := rp q 0 (by omega) (by omega)
        have c1 := rp q 1 (by omega) (by omega)
        have d0 := rp 0 0 (by omega) (by omega)
        have d1 := rp 0 1 (by omega) (by omega)
        rw [Nat.add_zero] at c0
        rw [show 0 * 2 + 0 = 0 from rfl] at d0
        rw [show 0 * 2 + 1 = 1 from rfl] at d1
        have hq1 : (X.length : Int) - 1 = q := by omega
        have hwq : IntKind.i64.wrap (q : Int) = q := i64_in _ (by omega)
        have hqn : (q : Int) < X.length := by omega
        have h0n : (0 : Int) < X.length := by omega
        have ht : decide ((1 : Int) < X.length) = true := decide_eq_true (by omega)
        have hqc : q ≤ ci := by omega
        have hqc2 : (q : Int) ≤ ci := by omega
        have hon := Lib.hid (fun h => trim_on X h1 h)
        have hend := Lib.hid hend
        have hQ := Lib.hid hq
        have hcut := Lib.hid (own_cut hOg (k := q) (by have := hQ.out; omega))
        rw [rowP_take X q (by have := hQ.out; omega)] at hcut
        rw [show X.length - 1 = q by have := hQ.out; omega] at *
        have hOkT := Lib.hid (fun p (hp : p ∈ X.take q) => hOk.out p (List.mem_of_mem_take hp))
        have hbx := Lib.hid hI0.box
        have hkp := Lib.hid hI0.keep
        have hup := hI0.up
        clear hOg cc rp hOk hq hx hcap hI0
        generalize hx1 : X.getD q pt0 = a at *
        generalize hx0 : X.getD 0 pt0 = b at *
        have hX := Lib.hid (And.intro hx1 hx0)
        clear hx1 hx0
        simp only [ptV, List.getElem?_cons_zero, List.getElem?_cons_succ] at c0 c1 d0 d1
        obtain ⟨a0, a1⟩ := a
        obtain ⟨e0, e1⟩ := b
        have hP := fun w => ptEql a0 a1 e0 e1 w
        by_cases he : a0 = e0 ∧ a1 = e1
        · obtain ⟨rfl, rfl⟩ := he
          simp only [beq_self_eq_true, Bool.and_self] at hP
          go_wp2_with fail
          go_quiet (fail)
          go_wp2_with fail
          have hz := Lib.hid (show DI W0 (w.heap.size + 2 + 1) true (.slice (some ⟨g, 0, none⟩) q ci) (X.take q) ((wr.drewN nq).setCell ⟨w.heap.size + 2 + 1, 0, none⟩ (.slice (some ⟨g, 0, none⟩) q ci)) from
            DI.put (show (wr.drewN nq).heap[w.heap.size + 2 + 1]? = _ from hbx.out) (by rw [show (X.take q).length = q by rw [List.length_take]; have := hQ.out; omega]; exact own_keep hcut.out ((Keeps.refl _).drewN nq)) (hkp.out.drewN nq) hup)
          have hc9 := hz.out.c0
          go_roundw
          case rel =>
            have e := hon.out trivial
            refine ⟨_, X.take q, hz, Lib.hid (by have := hXn.out; rw [List.length_take]; omega), hOkT, Lib.hid ?_⟩
            have := hR.out
            rw [if_pos trivial] at this
            rw [this, e]; first | done | rfl | rw [if_pos trivial]
          case measure => rw [hc9, b0]; have := hQ.out; simp [lenV]; omega
        · rw [show ((a0 == e0) && (a1 == e1)) = false by simpa using he] at hP
          go_wp2_with fail
          go_quiet (fail)
          go_wp2_with fail
          refine bodyPost_ret (v := .agg #[.slice (some ⟨g, 0, none⟩) X.length ci, .bool true]) (by simp [results, Try.results24, go_sem, *]) rfl ?_
          exact fin.out _ (hend.out (fun _ h => he (by injection h.2 with e1 e2; exact ⟨e1, e2⟩))).out ((Keeps.refl _).drewN nq)
      · have hD := hend (fun hc hx => hgo ⟨hc, hx.1⟩)
        clear hend hI0
        cases cl with
        | false =>
          go_wp2_with fail
          go_quiet (fail)
          go_wp2_with fail
          refine bodyPost_ret (v := .agg #[.slice Ai X.length ci, .bool false]) (by simp [results, Try.results24, go_sem, *]) rfl ?_
          exact fin.out _ hD.out ((Keeps.refl _).drewN nq)
        | true =>
          have ht : decide ((1 : Int) < X.length) = false := decide_eq_false (fun h => hgo ⟨rfl, by omega⟩)
          go_wp2_with fail
          go_quiet (fail)
          go_wp2_with fail
          refine bodyPost_ret (v := .agg #[.slice Ai X.length ci, .bool true]) (by simp [results, Try.results24, go_sem, *]) rfl ?_
          exact fin.out _ hD.out ((Keeps.refl _).drewN nq)
end
end Go.Proofs.Ytihmhpleiefodaa
