/- Contract of gradient.SortStops. -/
import Derived.Test.YtboomdbmeallfaaGq
import Derived.Deep.AppendLies
import Derived.Deep.RegionLaw
import Derived.IntWalk
namespace Go.Proofs.Ytboomdbmeallfaa
open Go.RowKit
set_option linter.unusedVariables false
set_option linter.unusedSimpArgs false
set_option maxRecDepth 100000 in
set_option maxHeartbeats 8000000 in
theorem sort_any (A : Option Addr) (n c : Nat) (L : List St) (w : World) (h : Sts w A n c L) (hn : n ≤ 1000) :
    Calls Try.prog 25 #[.slice A n c] w fun e w' => ∃ A' c', e = .returned (.slice A' n c') ∧ Sts w' A' n c' (srt L n) ∧ Keeps w w' := by
  obtain ⟨i0, hi, hz0, hz1, hz2⟩ := info_parts cs_info
  have hmx := h.max
  have HA := Lib.hid h
  clear h
  go_enter Try.func25, Try.ntmps25
  go_wp2_with fail
  go_loopw [3, 9] (fun v i wr => ∃ j : Nat, j ≤ n ∧ i = .int .i64 j ∧ Keeps w wr ∧ wr.ownsRow w.heap.size 31 5 v j (rowS (srt L j)) ∧ Hid (∀ s ∈ srt L j, okSt s)) (fun _ i _ => n - (intOf i).toNat)
  case atStart => exact ⟨0, by omega, rfl, Keeps.refl _, World.ownsRow_nil _ _ _ _, Lib.hid (fun s hs => by cases hs)⟩
  case round =>
    obtain ⟨j, hj, rfl, hkw, hown, hOk⟩ := hrel
    by_cases hlt : j < n
    · rename World => wo
      have hSo := srt_length L j
      have hs := HA.out.ok j
      have hsd := Lib.hid (show srt L (j + 1) = ins (L.getD j st0) (srt L j) from rfl)
      have hOk2 := Lib.hid (ins_ok (L.getD j st0) (srt L j) hs hOk.out)
      have hRi := Lib.hid (srt_rising L j)
      obtain ⟨b2, o2, rfl, hb2, hc2⟩ := HA.out.2.2.2.2 (by omega)
      obtain ⟨x0, x1, x2, x3, x4⟩ := (hc2 j hlt).keep hb2 hkw
      obtain ⟨Ao, co, rfl, hSt⟩ := Sts.of_own hown hSo hOk.out
      have hSt := Lib.hid hSt
      generalize srt L j = O at *
      generalize L.getD j st0 = s at *
      have hlt2 : (j : Int) < n := by omega
      have hj1000 : (j : Int) ≤ 1000 := by omega
      clear hc2
      go_wp2_with fail
      go_loopw [6] (fun i wr => ∃ a : Nat, a ≤ j ∧ i = .int .i64 a ∧ Keeps (wo.alloc (.cells #[.int .i64 s.1, .int .u8 s.2.1, .int .u8 s.2.2.1, .int .u8 s.2.2.2.1, .int .u8 s.2.2.2.2] 31)) wr ∧ Hid (∀ q, a ≤ q → q < j → s.1 < (O.getD q st0).1)) (fun i _ => (intOf i).toNat)
      case atStart => exact ⟨j, Nat.le_refl _, rfl, Keeps.refl _, Lib.hid (fun q h1 h2 => by omega)⟩
      case round =>
        obtain ⟨a, ha, rfl, hkv, hG⟩ := hrel
        have hkx : Keeps wo wr := ((Keeps.refl wo).alloc _).trans hkv
        have s0 : wr.cell? ⟨wo.heap.size, 0, none⟩ = some (.int .i64 s.1) := (hkv.cell (by simp)).trans (by simp [go_sem])
        have s1 : wr.cell? ⟨wo.heap.size, 1, none⟩ = some (.int .u8 s.2.1) := (hkv.cell (by simp)).trans (by simp [go_sem])
        have s2 : wr.cell? ⟨wo.heap.size, 2, none⟩ = some (.int .u8 s.2.2.1) := (hkv.cell (by simp)).trans (by simp [go_sem])
        have s3 : wr.cell? ⟨wo.heap.size, 3, none⟩ = some (.int .u8 s.2.2.2.1) := (hkv.cell (by simp)).trans (by simp [go_sem])
        have s4 : wr.cell? ⟨wo.heap.size, 4, none⟩ = some (.int .u8 s.2.2.2.2) := (hkv.cell (by simp)).trans (by simp [go_sem])
        by_cases hz : a = 0
        · have hlead := Lib.hid (lead_back O s.1 a (by omega) (fun q h1 h2 => hG.out q h1 (by omega)) (fun h => by omega) hRi.out)
          have t9 : decide (0 < (a : Int)) = false := decide_eq_false (by omega)
          have t8 : decide (0 < a) = false := decide_eq_false (by omega)
          clear hz
          go_wp2_with fail
          go_quiet (fail)
          go_wp2_with (at_builtin; refine wpList_append_lies _ rfl _ _ 25 rfl w.heap.size 31 i0 (.agg #[.int .i64 0, .int .u8 0, .int .u8 0, .int .u8 0, .int .u8 0]) 5 16 Try.underlying25 hi hz0 hz1 hz2 rfl (by decide) _ _ _ rfl ((own_drw (own4_keep hown hkx) _).alloc _) ⟨wr.heap.size, 0, none⟩ 1 1 (stV st0) rfl rfl (five_new _ _ _) (oneCell_stV _) (by omega) (by unfold maxLen; omega) (by omega) (by have := (hkw.trans hkx).size; simp; omega) (wr.heap.size + 1) (by simp) ?_; intro g cap w1 hown1 hgrow1 hlie hglt; have hk1 := below_own ((hkw.trans hkx).drewN _) rfl (own_drw (own4_keep hown hkx) _) hgrow1; have hgr := Lib.hid hgrow1; have hlie := Lib.hid hlie; clear hgrow1; rw [← rowS_one, ← rowS_append] at hown1)
          have f0 := (hgr.out.cell_far ⟨wo.heap.size, 0, none⟩ (by have := hkv.size; simp at this ⊢; omega) (fun e => absurd (hown.lt _ e.symm).2 (Nat.lt_irrefl _))).trans ((World.cell?_alloc_lt _ _ _ (by have := hkv.size; simp at this ⊢; omega)).trans s0)
          have f1 := (hgr.out.cell_far ⟨wo.heap.size, 1, none⟩ (by have := hkv.size; simp at this ⊢; omega) (fun e => absurd (hown.lt _ e.symm).2 (Nat.lt_irrefl _))).trans ((World.cell?_alloc_lt _ _ _ (by have := hkv.size; simp at this ⊢; omega)).trans s1)
          have f2 := (hgr.out.cell_far ⟨wo.heap.size, 2, none⟩ (by have := hkv.size; simp at this ⊢; omega) (fun e => absurd (hown.lt _ e.symm).2 (Nat.lt_irrefl _))).trans ((World.cell?_alloc_lt _ _ _ (by have := hkv.size; simp at this ⊢; omega)).trans s2)
          have f3 := (hgr.out.cell_far ⟨wo.heap.size, 3, none⟩ (by have := hkv.size; simp at this ⊢; omega) (fun e => absurd (hown.lt _ e.symm).2 (Nat.lt_irrefl _))).trans ((World.cell?_alloc_lt _ _ _ (by have := hkv.size; simp at this ⊢; omega)).trans s3)
          have f4 := (hgr.out.cell_far ⟨wo.heap.size, 4, none⟩ (by have := hkv.size; simp at this ⊢; omega) (fun e => absurd (hown.lt _ e.symm).2 (Nat.lt_irrefl _))).trans ((World.cell?_alloc_lt _ _ _ (by have := hkv.size; simp at this ⊢; omega)).trans s4)
          have hne : wo.heap.size ≠ g := fun e => by
            rcases hlie.out with h | h
            · exact absurd (hown.lt _ (e ▸ h)).2 (Nat.lt_irrefl _)
            · have := hkv.size; simp at this; omega
          have FL := Lib.hid (And.intro f0 (And.intro f1 (And.intro f2 (And.intro f3 f4))))
          have hbg := (rowBase hown1).1
          obtain ⟨cur, hg, hnc, hcs, htk⟩ := row_parts hown1
          have hsz5 : (Try.prog.info? 31).map (·.size) = some 5 := by kernel_rfl
          have hsrc := Lib.hid (row_drop hg htk hSo ha)
          have hgH := Lib.hid hg
          have hsp := Lib.hid (own_splice5 hown1 hg hnc hcs htk hSo ha)
          have hsp0 := Lib.hid (own_splice0 hown1 hg htk hSo)
          have hl5 := Lib.hid (show (rowS (O.drop a)).length = Nat.min (j + 1 - a) (j - a) * 5 by rw [rowS_length, List.length_drop, hSo, show Nat.min (j + 1 - a) (j - a) = j - a from Nat.min_eq_right (by omega)])
          have hfit := Lib.hid (show (a + 1) * 5 + (rowS (O.drop a)).length ≤ cur.size by rw [rowS_length, List.length_drop, hSo, hcs]; omega)
          have hME := Lib.hid ((rowS_set (moved O a) s a (by rw [moved_length O a (by omega)]; omega)).trans (congrArg rowS ((moved_set O s a (by omega)).trans (show O.take a ++ s :: O.drop a = ins s O by unfold ins; rw [hlead.out]))))
          have hone := Lib.hid (oneCell_rowS (O.drop a))
          clear hg htk hcs hown1 s0 s1 s2 s3 s4 f0 f1 f2 f3 f4 hi hz0 hz1 hz2 hkv hkw hown hgr hlie hSt hkx hG hRi hs hOk hlead hglt
          have w1a : IntKind.i64.wrap ((a : Int) + 1) = (a : Int) + 1 := IntWalk.i64_in _ (by omega)
          have w1b : ((a : Int) + 1).toNat = a + 1 := by omega
          have w1c : (0 : Int) ≤ (a : Int) + 1 := by omega
          have w1d : (a : Int) + 1 ≤ (j : Int) + 1 := by omega
          have w1e : (a : Int) ≤ (j : Int) + 1 := by omega
          have w1f : ((a : Int)).toNat = a := by omega
          have w1g : ¬ cap = a := by omega
          go_wp2_with fail
          by_cases hc1 : cap = a + 1
          · subst hc1
            obtain rfl : a = j := by omega
            refine wp_region_any (by kernel_rfl) ?_
            change wpAny _ _ _ _ _ _ _ (World.drew _)
            refine wpAny_take (i := 0) (oi := ⟨some 34, _, _, _, _, _⟩) (v := ?_) rfl (by kernel_rfl) (by kernel_rfl) (by kernel_rfl) (fun _ _ _ h => h) (Or.inl ⟨by rfl, ?_⟩) ?_; rotate_left; · (intro w; go_simp; try with_reducible rfl)
            (try simp only [Act.put, List.setIfInBounds_toArray, List.set_cons_zero, List.set_cons_succ])
            refine wpAny_take (i := 1) (oi := ⟨some 35, _, _, _, _, _⟩) (v := ?_) rfl (by kernel_rfl) (by kernel_rfl) (by kernel_rfl) (fun _ _ _ h => h) (Or.inl ⟨by rfl, ?_⟩) ?_; rotate_left; · (intro w; go_simp; try with_reducible rfl)
            (try simp only [Act.put, List.setIfInBounds_toArray, List.set_cons_zero, List.set_cons_succ])
            refine wpAny_take (i := 2) (oi := ⟨some 36, _, _, _, _, _⟩) (v := ?_) rfl (by kernel_rfl) (by kernel_rfl) (by kernel_rfl) (fun _ _ _ h => h) (Or.inl ⟨by rfl, ?_⟩) ?_; rotate_left; · (intro w; go_simp; try with_reducible rfl)
            (try simp only [Act.put, List.setIfInBounds_toArray, List.set_cons_zero, List.set_cons_succ])
            refine wpAny_take (i := 3) (oi := ⟨some 37, _, _, _, _, _⟩) (v := ?_) rfl (by kernel_rfl) (by kernel_rfl) (by kernel_rfl) (fun _ _ _ h => h) (Or.inl ⟨by rfl, ?_⟩) ?_; rotate_left; · (intro w; go_simp; try with_reducible rfl)
            (try simp only [Act.put, List.setIfInBounds_toArray, List.set_cons_zero, List.set_cons_succ])
            refine wpAny_take (i := 4) (oi := ⟨some 38, _, _, _, _, _⟩) (v := ?_) rfl (by kernel_rfl) (by kernel_rfl) (by kernel_rfl) (fun _ _ _ h => h) (Or.inl ⟨by rfl, ?_⟩) ?_; rotate_left; · (intro w; go_simp; try with_reducible rfl)
            (try simp only [Act.put, List.setIfInBounds_toArray, List.set_cons_zero, List.set_cons_succ])
            refine wpAny_take (i := 5) (oi := ⟨some 39, _, _, _, _, _⟩) (v := ?_) rfl (by kernel_rfl) (by kernel_rfl) (by kernel_rfl) (fun _ _ _ h => h) (Or.inl ⟨by rfl, ?_⟩) ?_; rotate_left; · (intro w; go_simp; try with_reducible rfl)
            (try simp only [Act.put, List.setIfInBounds_toArray, List.set_cons_zero, List.set_cons_succ])
            refine wpAny_take (i := 6) (oi := ⟨some 40, _, _, _, _, _⟩) (v := ?_) rfl (by kernel_rfl) (by kernel_rfl) (by kernel_rfl) (fun _ _ _ h => h) (Or.inl ⟨by rfl, ?_⟩) ?_; rotate_left; · (intro w; go_simp; try with_reducible rfl)
            (try simp only [Act.put, List.setIfInBounds_toArray, List.set_cons_zero, List.set_cons_succ])
            refine wpAny_ready (rs := [7]) (by kernel_rfl) (by simp) ?_
            refine AllReady.cons (o := ⟨some 41, _, _, _, _, _⟩) rfl (fun K hK => ?_) AllReady.nil
            refine step_copyN (by rfl) (.tmp 37) (.tmp 40) 25 25 (by rfl) 31 5 Try.underlying25 hsz5 g 0 0 0 ⟨g, a * 5, none⟩ 1 1 (by simp [Act.eval]) (by simp [Act.eval]) cur 31 hgH.out ([] : List Value) (by simp [Nat.min_def]) (fun i v hv => by cases hv) (by simp) (fun v hv => by cases hv) ?_
            refine hK _ _ ?_; clear hK K
            refine wpAny_done (by kernel_rfl) ?_ _
            (try simp only [Act.put, List.setIfInBounds_toArray, List.set_cons_zero, List.set_cons_succ])
            have ho4 := Lib.hid (hsp0.out)
            have hkW := Lib.hid (Keeps.setRowNew hk1.drew hbg ((cur.toList.take 0 ++ ([] : List Value) ++ cur.toList.drop (0 + ([] : List Value).length)).toArray))
            have FW := (show (World.setRow w1.drew g ((cur.toList.take 0 ++ ([] : List Value) ++ cur.toList.drop (0 + ([] : List Value).length)).toArray)).cell? ⟨wo.heap.size, 0, none⟩ = some (.int .i64 s.1) ∧ (World.setRow w1.drew g ((cur.toList.take 0 ++ ([] : List Value) ++ cur.toList.drop (0 + ([] : List Value).length)).toArray)).cell? ⟨wo.heap.size, 1, none⟩ = some (.int .u8 s.2.1) ∧ (World.setRow w1.drew g ((cur.toList.take 0 ++ ([] : List Value) ++ cur.toList.drop (0 + ([] : List Value).length)).toArray)).cell? ⟨wo.heap.size, 2, none⟩ = some (.int .u8 s.2.2.1) ∧ (World.setRow w1.drew g ((cur.toList.take 0 ++ ([] : List Value) ++ cur.toList.drop (0 + ([] : List Value).length)).toArray)).cell? ⟨wo.heap.size, 3, none⟩ = some (.int .u8 s.2.2.2.1) ∧ (World.setRow w1.drew g ((cur.toList.take 0 ++ ([] : List Value) ++ cur.toList.drop (0 + ([] : List Value).length)).toArray)).cell? ⟨wo.heap.size, 4, none⟩ = some (.int .u8 s.2.2.2.2) from ⟨(cell_setRow_far w1.drew g wo.heap.size 0 _ hne).trans FL.out.1, (cell_setRow_far w1.drew g wo.heap.size 1 _ hne).trans FL.out.2.1, (cell_setRow_far w1.drew g wo.heap.size 2 _ hne).trans FL.out.2.2.1, (cell_setRow_far w1.drew g wo.heap.size 3 _ hne).trans FL.out.2.2.2.1, (cell_setRow_far w1.drew g wo.heap.size 4 _ hne).trans FL.out.2.2.2.2⟩)
            clear FL
            generalize World.setRow w1.drew g ((cur.toList.take 0 ++ ([] : List Value) ++ cur.toList.drop (0 + ([] : List Value).length)).toArray) = W at *
            clear hgH hsrc hl5 hk1 hone hsz5
            obtain ⟨-, -, q0, u0, e0⟩ := rowAt ho4.out (a * 5) (by omega)
            obtain ⟨-, -, q1, u1, e1⟩ := rowAt ho4.out (a * 5 + 1) (by omega)
            obtain ⟨-, -, q2, u2, e2⟩ := rowAt ho4.out (a * 5 + 2) (by omega)
            obtain ⟨-, -, q3, u3, e3⟩ := rowAt ho4.out (a * 5 + 3) (by omega)
            obtain ⟨-, -, q4, u4, e4⟩ := rowAt ho4.out (a * 5 + 4) (by omega)
            have n01 := fun (w : World) (u : Value) => setOff w g (a * 5) (a * 5 + 1) u (by omega)
            have n02 := fun (w : World) (u : Value) => setOff w g (a * 5) (a * 5 + 2) u (by omega)
            have n03 := fun (w : World) (u : Value) => setOff w g (a * 5) (a * 5 + 3) u (by omega)
            have n04 := fun (w : World) (u : Value) => setOff w g (a * 5) (a * 5 + 4) u (by omega)
            have n12 := fun (w : World) (u : Value) => setOff w g (a * 5 + 1) (a * 5 + 2) u (by omega)
            have n13 := fun (w : World) (u : Value) => setOff w g (a * 5 + 1) (a * 5 + 3) u (by omega)
            have n14 := fun (w : World) (u : Value) => setOff w g (a * 5 + 1) (a * 5 + 4) u (by omega)
            have n23 := fun (w : World) (u : Value) => setOff w g (a * 5 + 2) (a * 5 + 3) u (by omega)
            have n24 := fun (w : World) (u : Value) => setOff w g (a * 5 + 2) (a * 5 + 4) u (by omega)
            have n34 := fun (w : World) (u : Value) => setOff w g (a * 5 + 3) (a * 5 + 4) u (by omega)
            obtain ⟨g0, g1, g2, g3, g4⟩ := FW
            go_wp2_with fail
            go_roundw
            case rel => exact ⟨a + 1, by omega, by go_num, ((((hkW.out.setNew (p := ⟨g, _, none⟩) hbg _).setNew (p := ⟨g, _, none⟩) hbg _).setNew (p := ⟨g, _, none⟩) hbg _).setNew (p := ⟨g, _, none⟩) hbg _).setNew (p := ⟨g, _, none⟩) hbg _, by rw [hsd.out, ← hME.out]; exact (World.ownsRow.stored (World.ownsRow.stored (World.ownsRow.stored (World.ownsRow.stored (World.ownsRow.stored ho4.out (a * 5) _).1 (a * 5 + 1) _).1 (a * 5 + 2) _).1 (a * 5 + 3) _).1 (a * 5 + 4) _).1, by rw [hsd.out]; exact Lib.hid hOk2.out⟩
            case measure => simp [intOf]; omega

          · refine wp_region_any (by kernel_rfl) ?_
            change wpAny _ _ _ _ _ _ _ (World.drew _)
            refine wpAny_take (i := 0) (oi := ⟨some 34, _, _, _, _, _⟩) (v := ?_) rfl (by kernel_rfl) (by kernel_rfl) (by kernel_rfl) (fun _ _ _ h => h) (Or.inl ⟨by rfl, ?_⟩) ?_; rotate_left; · (intro w; go_simp; try with_reducible rfl)
            (try simp only [Act.put, List.setIfInBounds_toArray, List.set_cons_zero, List.set_cons_succ])
            refine wpAny_take (i := 1) (oi := ⟨some 35, _, _, _, _, _⟩) (v := ?_) rfl (by kernel_rfl) (by kernel_rfl) (by kernel_rfl) (fun _ _ _ h => h) (Or.inl ⟨by rfl, ?_⟩) ?_; rotate_left; · (intro w; go_simp; try with_reducible rfl)
            (try simp only [Act.put, List.setIfInBounds_toArray, List.set_cons_zero, List.set_cons_succ])
            refine wpAny_take (i := 2) (oi := ⟨some 36, _, _, _, _, _⟩) (v := ?_) rfl (by kernel_rfl) (by kernel_rfl) (by kernel_rfl) (fun _ _ _ h => h) (Or.inl ⟨by rfl, ?_⟩) ?_; rotate_left; · (intro w; go_simp; try with_reducible rfl)
            (try simp only [Act.put, List.setIfInBounds_toArray, List.set_cons_zero, List.set_cons_succ])
            refine wpAny_take (i := 3) (oi := ⟨some 37, _, _, _, _, _⟩) (v := ?_) rfl (by kernel_rfl) (by kernel_rfl) (by kernel_rfl) (fun _ _ _ h => h) (Or.inl ⟨by rfl, ?_⟩) ?_; rotate_left; · (intro w; go_simp; try with_reducible rfl)
            (try simp only [Act.put, List.setIfInBounds_toArray, List.set_cons_zero, List.set_cons_succ])
            refine wpAny_take (i := 4) (oi := ⟨some 38, _, _, _, _, _⟩) (v := ?_) rfl (by kernel_rfl) (by kernel_rfl) (by kernel_rfl) (fun _ _ _ h => h) (Or.inl ⟨by rfl, ?_⟩) ?_; rotate_left; · (intro w; go_simp; try with_reducible rfl)
            (try simp only [Act.put, List.setIfInBounds_toArray, List.set_cons_zero, List.set_cons_succ])
            refine wpAny_take (i := 5) (oi := ⟨some 39, _, _, _, _, _⟩) (v := ?_) rfl (by kernel_rfl) (by kernel_rfl) (by kernel_rfl) (fun _ _ _ h => h) (Or.inl ⟨by rfl, ?_⟩) ?_; rotate_left; · (intro w; go_simp; try with_reducible rfl)
            (try simp only [Act.put, List.setIfInBounds_toArray, List.set_cons_zero, List.set_cons_succ])
            refine wpAny_take (i := 6) (oi := ⟨some 40, _, _, _, _, _⟩) (v := ?_) rfl (by kernel_rfl) (by kernel_rfl) (by kernel_rfl) (fun _ _ _ h => h) (Or.inl ⟨by rfl, ?_⟩) ?_; rotate_left; · (intro w; go_simp; try with_reducible rfl)
            (try simp only [Act.put, List.setIfInBounds_toArray, List.set_cons_zero, List.set_cons_succ])
            refine wpAny_ready (rs := [7]) (by kernel_rfl) (by simp) ?_
            refine AllReady.cons (o := ⟨some 41, _, _, _, _, _⟩) rfl (fun K hK => ?_) AllReady.nil
            refine step_copyN (by rfl) (.tmp 37) (.tmp 40) 25 25 (by rfl) 31 5 Try.underlying25 hsz5 g ((a + 1) * 5) (j - a) (cap - (a + 1)) ⟨g, a * 5, none⟩ (j + 1 - a) (cap - a) (by simp [Act.eval]) (by simp [Act.eval]) cur 31 hgH.out (rowS (O.drop a)) hl5.out hsrc.out hfit.out hone.out ?_
            refine hK _ _ ?_; clear hK K
            refine wpAny_done (by kernel_rfl) ?_ _
            (try simp only [Act.put, List.setIfInBounds_toArray, List.set_cons_zero, List.set_cons_succ])
            have ho4 := Lib.hid (hsp.out)
            have hkW := Lib.hid (Keeps.setRowNew hk1.drew hbg ((cur.toList.take ((a + 1) * 5) ++ rowS (O.drop a) ++ cur.toList.drop ((a + 1) * 5 + (rowS (O.drop a)).length)).toArray))
            have FW := (show (World.setRow w1.drew g ((cur.toList.take ((a + 1) * 5) ++ rowS (O.drop a) ++ cur.toList.drop ((a + 1) * 5 + (rowS (O.drop a)).length)).toArray)).cell? ⟨wo.heap.size, 0, none⟩ = some (.int .i64 s.1) ∧ (World.setRow w1.drew g ((cur.toList.take ((a + 1) * 5) ++ rowS (O.drop a) ++ cur.toList.drop ((a + 1) * 5 + (rowS (O.drop a)).length)).toArray)).cell? ⟨wo.heap.size, 1, none⟩ = some (.int .u8 s.2.1) ∧ (World.setRow w1.drew g ((cur.toList.take ((a + 1) * 5) ++ rowS (O.drop a) ++ cur.toList.drop ((a + 1) * 5 + (rowS (O.drop a)).length)).toArray)).cell? ⟨wo.heap.size, 2, none⟩ = some (.int .u8 s.2.2.1) ∧ (World.setRow w1.drew g ((cur.toList.take ((a + 1) * 5) ++ rowS (O.drop a) ++ cur.toList.drop ((a + 1) * 5 + (rowS (O.drop a)).length)).toArray)).cell? ⟨wo.heap.size, 3, none⟩ = some (.int .u8 s.2.2.2.1) ∧ (World.setRow w1.drew g ((cur.toList.take ((a + 1) * 5) ++ rowS (O.drop a) ++ cur.toList.drop ((a + 1) * 5 + (rowS (O.drop a)).length)).toArray)).cell? ⟨wo.heap.size, 4, none⟩ = some (.int .u8 s.2.2.2.2) from ⟨(cell_setRow_far w1.drew g wo.heap.size 0 _ hne).trans FL.out.1, (cell_setRow_far w1.drew g wo.heap.size 1 _ hne).trans FL.out.2.1, (cell_setRow_far w1.drew g wo.heap.size 2 _ hne).trans FL.out.2.2.1, (cell_setRow_far w1.drew g wo.heap.size 3 _ hne).trans FL.out.2.2.2.1, (cell_setRow_far w1.drew g wo.heap.size 4 _ hne).trans FL.out.2.2.2.2⟩)
            clear FL
            generalize World.setRow w1.drew g ((cur.toList.take ((a + 1) * 5) ++ rowS (O.drop a) ++ cur.toList.drop ((a + 1) * 5 + (rowS (O.drop a)).length)).toArray) = W at *
            clear hgH hsrc hl5 hk1 hone hsz5
            obtain ⟨-, -, q0, u0, e0⟩ := rowAt ho4.out (a * 5) (by omega)
            obtain ⟨-, -, q1, u1, e1⟩ := rowAt ho4.out (a * 5 + 1) (by omega)
            obtain ⟨-, -, q2, u2, e2⟩ := rowAt ho4.out (a * 5 + 2) (by omega)
            obtain ⟨-, -, q3, u3, e3⟩ := rowAt ho4.out (a * 5 + 3) (by omega)
            obtain ⟨-, -, q4, u4, e4⟩ := rowAt ho4.out (a * 5 + 4) (by omega)
            have n01 := fun (w : World) (u : Value) => setOff w g (a * 5) (a * 5 + 1) u (by omega)
            have n02 := fun (w : World) (u : Value) => setOff w g (a * 5) (a * 5 + 2) u (by omega)
            have n03 := fun (w : World) (u : Value) => setOff w g (a * 5) (a * 5 + 3) u (by omega)
            have n04 := fun (w : World) (u : Value) => setOff w g (a * 5) (a * 5 + 4) u (by omega)
            have n12 := fun (w : World) (u : Value) => setOff w g (a * 5 + 1) (a * 5 + 2) u (by omega)
            have n13 := fun (w : World) (u : Value) => setOff w g (a * 5 + 1) (a * 5 + 3) u (by omega)
            have n14 := fun (w : World) (u : Value) => setOff w g (a * 5 + 1) (a * 5 + 4) u (by omega)
            have n23 := fun (w : World) (u : Value) => setOff w g (a * 5 + 2) (a * 5 + 3) u (by omega)
            have n24 := fun (w : World) (u : Value) => setOff w g (a * 5 + 2) (a * 5 + 4) u (by omega)
            have n34 := fun (w : World) (u : Value) => setOff w g (a * 5 + 3) (a * 5 + 4) u (by omega)
            obtain ⟨g0, g1, g2, g3, g4⟩ := FW
            go_wp2_with fail
            go_roundw
            case rel => exact ⟨j + 1, by omega, by go_num, ((((hkW.out.setNew (p := ⟨g, _, none⟩) hbg _).setNew (p := ⟨g, _, none⟩) hbg _).setNew (p := ⟨g, _, none⟩) hbg _).setNew (p := ⟨g, _, none⟩) hbg _).setNew (p := ⟨g, _, none⟩) hbg _, by rw [hsd.out, ← hME.out]; exact (World.ownsRow.stored (World.ownsRow.stored (World.ownsRow.stored (World.ownsRow.stored (World.ownsRow.stored ho4.out (a * 5) _).1 (a * 5 + 1) _).1 (a * 5 + 2) _).1 (a * 5 + 3) _).1 (a * 5 + 4) _).1, by rw [hsd.out]; exact Lib.hid hOk2.out⟩
            case measure => simp [intOf]; omega
        · obtain ⟨b1, o1, rfl, hb1, hcs⟩ := hSt.out.2.2.2.2 (by omega)
          obtain ⟨c0, c1, c2, c3, c4⟩ := (hcs (a - 1) (by omega)).keep hb1 hkx
          clear hcs c1 c2 c3 c4
          have ha2 : (a : Int) - 1 < j := by omega
          have ha3 : 0 ≤ (a : Int) - 1 := by omega
          have ha4 : ((a : Int) - 1).toNat = a - 1 := by omega
          have t9 : decide (0 < (a : Int)) = true := decide_eq_true (by omega)
          have t8 : decide (0 < a) = true := decide_eq_true (by omega)
          have ha5 : 0 < a := by omega
          by_cases hgt : s.1 < (O.getD (a - 1) st0).1
          · have t1 : decide (s.1 < (O.getD (a - 1) st0).1) = true := decide_eq_true hgt
            have hG2 := Lib.hid (show ∀ q, a - 1 ≤ q → q < j → s.1 < (O.getD q st0).1 from fun q h1 h2 => by
              rcases Nat.eq_or_lt_of_le h1 with h3 | h3
              · rw [← h3]; exact hgt
              · exact hG.out q (by omega) h2)
            clear hgt
            generalize O.getD (a - 1) st0 = y at *
            go_wp2_with fail
            go_quiet (fail)
            go_wp2_with fail
            go_roundw
            case rel => exact ⟨a - 1, by omega, by congr 1; omega, hkv.drewN _, hG2⟩
            case measure => simp [intOf]; omega
          · have t1 : decide (s.1 < (O.getD (a - 1) st0).1) = false := decide_eq_false hgt
            have hlead := Lib.hid (lead_back O s.1 a (by omega) (fun q h1 h2 => hG.out q h1 (by omega)) (fun _ => by omega) hRi.out)
            clear hgt
            generalize O.getD (a - 1) st0 = y at *
            go_wp2_with fail
            go_quiet (fail)
            go_wp2_with (at_builtin; refine wpList_append_lies _ rfl _ _ 25 rfl w.heap.size 31 i0 (.agg #[.int .i64 0, .int .u8 0, .int .u8 0, .int .u8 0, .int .u8 0]) 5 16 Try.underlying25 hi hz0 hz1 hz2 rfl (by decide) _ _ _ rfl ((own_drw (own4_keep hown hkx) _).alloc _) ⟨wr.heap.size, 0, none⟩ 1 1 (stV st0) rfl rfl (five_new _ _ _) (oneCell_stV _) (by omega) (by unfold maxLen; omega) (by omega) (by have := (hkw.trans hkx).size; simp; omega) (wr.heap.size + 1) (by simp) ?_; intro g cap w1 hown1 hgrow1 hlie hglt; have hk1 := below_own ((hkw.trans hkx).drewN _) rfl (own_drw (own4_keep hown hkx) _) hgrow1; have hgr := Lib.hid hgrow1; have hlie := Lib.hid hlie; clear hgrow1; rw [← rowS_one, ← rowS_append] at hown1)
            have f0 := (hgr.out.cell_far ⟨wo.heap.size, 0, none⟩ (by have := hkv.size; simp at this ⊢; omega) (fun e => absurd (hown.lt _ e.symm).2 (Nat.lt_irrefl _))).trans ((World.cell?_alloc_lt _ _ _ (by have := hkv.size; simp at this ⊢; omega)).trans s0)
            have f1 := (hgr.out.cell_far ⟨wo.heap.size, 1, none⟩ (by have := hkv.size; simp at this ⊢; omega) (fun e => absurd (hown.lt _ e.symm).2 (Nat.lt_irrefl _))).trans ((World.cell?_alloc_lt _ _ _ (by have := hkv.size; simp at this ⊢; omega)).trans s1)
            have f2 := (hgr.out.cell_far ⟨wo.heap.size, 2, none⟩ (by have := hkv.size; simp at this ⊢; omega) (fun e => absurd (hown.lt _ e.symm).2 (Nat.lt_irrefl _))).trans ((World.cell?_alloc_lt _ _ _ (by have := hkv.size; simp at this ⊢; omega)).trans s2)
            have f3 := (hgr.out.cell_far ⟨wo.heap.size, 3, none⟩ (by have := hkv.size; simp at this ⊢; omega) (fun e => absurd (hown.lt _ e.symm).2 (Nat.lt_irrefl _))).trans ((World.cell?_alloc_lt _ _ _ (by have := hkv.size; simp at this ⊢; omega)).trans s3)
            have f4 := (hgr.out.cell_far ⟨wo.heap.size, 4, none⟩ (by have := hkv.size; simp at this ⊢; omega) (fun e => absurd (hown.lt _ e.symm).2 (Nat.lt_irrefl _))).trans ((World.cell?_alloc_lt _ _ _ (by have := hkv.size; simp at this ⊢; omega)).trans s4)
            have hne : wo.heap.size ≠ g := fun e => by
              rcases hlie.out with h | h
              · exact absurd (hown.lt _ (e ▸ h)).2 (Nat.lt_irrefl _)
              · have := hkv.size; simp at this; omega
            have FL := Lib.hid (And.intro f0 (And.intro f1 (And.intro f2 (And.intro f3 f4))))
            have hbg := (rowBase hown1).1
            obtain ⟨cur, hg, hnc, hcs, htk⟩ := row_parts hown1
            have hsz5 : (Try.prog.info? 31).map (·.size) = some 5 := by kernel_rfl
            have hsrc := Lib.hid (row_drop hg htk hSo ha)
            have hgH := Lib.hid hg
            have hsp := Lib.hid (own_splice5 hown1 hg hnc hcs htk hSo ha)
            have hsp0 := Lib.hid (own_splice0 hown1 hg htk hSo)
            have hl5 := Lib.hid (show (rowS (O.drop a)).length = Nat.min (j + 1 - a) (j - a) * 5 by rw [rowS_length, List.length_drop, hSo, show Nat.min (j + 1 - a) (j - a) = j - a from Nat.min_eq_right (by omega)])
            have hfit := Lib.hid (show (a + 1) * 5 + (rowS (O.drop a)).length ≤ cur.size by rw [rowS_length, List.length_drop, hSo, hcs]; omega)
            have hME := Lib.hid ((rowS_set (moved O a) s a (by rw [moved_length O a (by omega)]; omega)).trans (congrArg rowS ((moved_set O s a (by omega)).trans (show O.take a ++ s :: O.drop a = ins s O by unfold ins; rw [hlead.out]))))
            have hone := Lib.hid (oneCell_rowS (O.drop a))
            clear hg htk hcs hown1 s0 s1 s2 s3 s4 f0 f1 f2 f3 f4 hi hz0 hz1 hz2 hkv hkw hown hgr hlie hSt hkx hG hRi hs hOk hlead hglt
            have w1a : IntKind.i64.wrap ((a : Int) + 1) = (a : Int) + 1 := IntWalk.i64_in _ (by omega)
            have w1b : ((a : Int) + 1).toNat = a + 1 := by omega
            have w1c : (0 : Int) ≤ (a : Int) + 1 := by omega
            have w1d : (a : Int) + 1 ≤ (j : Int) + 1 := by omega
            have w1e : (a : Int) ≤ (j : Int) + 1 := by omega
            have w1f : ((a : Int)).toNat = a := by omega
            have w1g : ¬ cap = a := by omega
            go_wp2_with fail
            by_cases hc1 : cap = a + 1
            · subst hc1
              obtain rfl : a = j := by omega
              refine wp_region_any (by kernel_rfl) ?_
              change wpAny _ _ _ _ _ _ _ (World.drew _)
              refine wpAny_take (i := 0) (oi := ⟨some 34, _, _, _, _, _⟩) (v := ?_) rfl (by kernel_rfl) (by kernel_rfl) (by kernel_rfl) (fun _ _ _ h => h) (Or.inl ⟨by rfl, ?_⟩) ?_; rotate_left; · (intro w; go_simp; try with_reducible rfl)
              (try simp only [Act.put, List.setIfInBounds_toArray, List.set_cons_zero, List.set_cons_succ])
              refine wpAny_take (i := 1) (oi := ⟨some 35, _, _, _, _, _⟩) (v := ?_) rfl (by kernel_rfl) (by kernel_rfl) (by kernel_rfl) (fun _ _ _ h => h) (Or.inl ⟨by rfl, ?_⟩) ?_; rotate_left; · (intro w; go_simp; try with_reducible rfl)
              (try simp only [Act.put, List.setIfInBounds_toArray, List.set_cons_zero, List.set_cons_succ])
              refine wpAny_take (i := 2) (oi := ⟨some 36, _, _, _, _, _⟩) (v := ?_) rfl (by kernel_rfl) (by kernel_rfl) (by kernel_rfl) (fun _ _ _ h => h) (Or.inl ⟨by rfl, ?_⟩) ?_; rotate_left; · (intro w; go_simp; try with_reducible rfl)
              (try simp only [Act.put, List.setIfInBounds_toArray, List.set_cons_zero, List.set_cons_succ])
              refine wpAny_take (i := 3) (oi := ⟨some 37, _, _, _, _, _⟩) (v := ?_) rfl (by kernel_rfl) (by kernel_rfl) (by kernel_rfl) (fun _ _ _ h => h) (Or.inl ⟨by rfl, ?_⟩) ?_; rotate_left; · (intro w; go_simp; try with_reducible rfl)
              (try simp only [Act.put, List.setIfInBounds_toArray, List.set_cons_zero, List.set_cons_succ])
              refine wpAny_take (i := 4) (oi := ⟨some 38, _, _, _, _, _⟩) (v := ?_) rfl (by kernel_rfl) (by kernel_rfl) (by kernel_rfl) (fun _ _ _ h => h) (Or.inl ⟨by rfl, ?_⟩) ?_; rotate_left; · (intro w; go_simp; try with_reducible rfl)
              (try simp only [Act.put, List.setIfInBounds_toArray, List.set_cons_zero, List.set_cons_succ])
              refine wpAny_take (i := 5) (oi := ⟨some 39, _, _, _, _, _⟩) (v := ?_) rfl (by kernel_rfl) (by kernel_rfl) (by kernel_rfl) (fun _ _ _ h => h) (Or.inl ⟨by rfl, ?_⟩) ?_; rotate_left; · (intro w; go_simp; try with_reducible rfl)
              (try simp only [Act.put, List.setIfInBounds_toArray, List.set_cons_zero, List.set_cons_succ])
              refine wpAny_take (i := 6) (oi := ⟨some 40, _, _, _, _, _⟩) (v := ?_) rfl (by kernel_rfl) (by kernel_rfl) (by kernel_rfl) (fun _ _ _ h => h) (Or.inl ⟨by rfl, ?_⟩) ?_; rotate_left; · (intro w; go_simp; try with_reducible rfl)
              (try simp only [Act.put, List.setIfInBounds_toArray, List.set_cons_zero, List.set_cons_succ])
              refine wpAny_ready (rs := [7]) (by kernel_rfl) (by simp) ?_
              refine AllReady.cons (o := ⟨some 41, _, _, _, _, _⟩) rfl (fun K hK => ?_) AllReady.nil
              refine step_copyN (by rfl) (.tmp 37) (.tmp 40) 25 25 (by rfl) 31 5 Try.underlying25 hsz5 g 0 0 0 ⟨g, a * 5, none⟩ 1 1 (by simp [Act.eval]) (by simp [Act.eval]) cur 31 hgH.out ([] : List Value) (by simp [Nat.min_def]) (fun i v hv => by cases hv) (by simp) (fun v hv => by cases hv) ?_
              refine hK _ _ ?_; clear hK K
              refine wpAny_done (by kernel_rfl) ?_ _
              (try simp only [Act.put, List.setIfInBounds_toArray, List.set_cons_zero, List.set_cons_succ])
              have ho4 := Lib.hid (hsp0.out)
              have hkW := Lib.hid (Keeps.setRowNew hk1.drew hbg ((cur.toList.take 0 ++ ([] : List Value) ++ cur.toList.drop (0 + ([] : List Value).length)).toArray))
              have FW := (show (World.setRow w1.drew g ((cur.toList.take 0 ++ ([] : List Value) ++ cur.toList.drop (0 + ([] : List Value).length)).toArray)).cell? ⟨wo.heap.size, 0, none⟩ = some (.int .i64 s.1) ∧ (World.setRow w1.drew g ((cur.toList.take 0 ++ ([] : List Value) ++ cur.toList.drop (0 + ([] : List Value).length)).toArray)).cell? ⟨wo.heap.size, 1, none⟩ = some (.int .u8 s.2.1) ∧ (World.setRow w1.drew g ((cur.toList.take 0 ++ ([] : List Value) ++ cur.toList.drop (0 + ([] : List Value).length)).toArray)).cell? ⟨wo.heap.size, 2, none⟩ = some (.int .u8 s.2.2.1) ∧ (World.setRow w1.drew g ((cur.toList.take 0 ++ ([] : List Value) ++ cur.toList.drop (0 + ([] : List Value).length)).toArray)).cell? ⟨wo.heap.size, 3, none⟩ = some (.int .u8 s.2.2.2.1) ∧ (World.setRow w1.drew g ((cur.toList.take 0 ++ ([] : List Value) ++ cur.toList.drop (0 + ([] : List Value).length)).toArray)).cell? ⟨wo.heap.size, 4, none⟩ = some (.int .u8 s.2.2.2.2) from ⟨(cell_setRow_far w1.drew g wo.heap.size 0 _ hne).trans FL.out.1, (cell_setRow_far w1.drew g wo.heap.size 1 _ hne).trans FL.out.2.1, (cell_setRow_far w1.drew g wo.heap.size 2 _ hne).trans FL.out.2.2.1, (cell_setRow_far w1.drew g wo.heap.size 3 _ hne).trans FL.out.2.2.2.1, (cell_setRow_far w1.drew g wo.heap.size 4 _ hne).trans FL.out.2.2.2.2⟩)
              clear FL
              generalize World.setRow w1.drew g ((cur.toList.take 0 ++ ([] : List Value) ++ cur.toList.drop (0 + ([] : List Value).length)).toArray) = W at *
              clear hgH hsrc hl5 hk1 hone hsz5
              obtain ⟨-, -, q0, u0, e0⟩ := rowAt ho4.out (a * 5) (by omega)
              obtain ⟨-, -, q1, u1, e1⟩ := rowAt ho4.out (a * 5 + 1) (by omega)
              obtain ⟨-, -, q2, u2, e2⟩ := rowAt ho4.out (a * 5 + 2) (by omega)
              obtain ⟨-, -, q3, u3, e3⟩ := rowAt ho4.out (a * 5 + 3) (by omega)
              obtain ⟨-, -, q4, u4, e4⟩ := rowAt ho4.out (a * 5 + 4) (by omega)
              have n01 := fun (w : World) (u : Value) => setOff w g (a * 5) (a * 5 + 1) u (by omega)
              have n02 := fun (w : World) (u : Value) => setOff w g (a * 5) (a * 5 + 2) u (by omega)
              have n03 := fun (w : World) (u : Value) => setOff w g (a * 5) (a * 5 + 3) u (by omega)
              have n04 := fun (w : World) (u : Value) => setOff w g (a * 5) (a * 5 + 4) u (by omega)
              have n12 := fun (w : World) (u : Value) => setOff w g (a * 5 + 1) (a * 5 + 2) u (by omega)
              have n13 := fun (w : World) (u : Value) => setOff w g (a * 5 + 1) (a * 5 + 3) u (by omega)
              have n14 := fun (w : World) (u : Value) => setOff w g (a * 5 + 1) (a * 5 + 4) u (by omega)
              have n23 := fun (w : World) (u : Value) => setOff w g (a * 5 + 2) (a * 5 + 3) u (by omega)
              have n24 := fun (w : World) (u : Value) => setOff w g (a * 5 + 2) (a * 5 + 4) u (by omega)
              have n34 := fun (w : World) (u : Value) => setOff w g (a * 5 + 3) (a * 5 + 4) u (by omega)
              obtain ⟨g0, g1, g2, g3, g4⟩ := FW
              go_wp2_with fail
              go_roundw
              case rel => exact ⟨a + 1, by omega, by go_num, ((((hkW.out.setNew (p := ⟨g, _, none⟩) hbg _).setNew (p := ⟨g, _, none⟩) hbg _).setNew (p := ⟨g, _, none⟩) hbg _).setNew (p := ⟨g, _, none⟩) hbg _).setNew (p := ⟨g, _, none⟩) hbg _, by rw [hsd.out, ← hME.out]; exact (World.ownsRow.stored (World.ownsRow.stored (World.ownsRow.stored (World.ownsRow.stored (World.ownsRow.stored ho4.out (a * 5) _).1 (a * 5 + 1) _).1 (a * 5 + 2) _).1 (a * 5 + 3) _).1 (a * 5 + 4) _).1, by rw [hsd.out]; exact Lib.hid hOk2.out⟩
              case measure => simp [intOf]; omega

            · refine wp_region_any (by kernel_rfl) ?_
              change wpAny _ _ _ _ _ _ _ (World.drew _)
              refine wpAny_take (i := 0) (oi := ⟨some 34, _, _, _, _, _⟩) (v := ?_) rfl (by kernel_rfl) (by kernel_rfl) (by kernel_rfl) (fun _ _ _ h => h) (Or.inl ⟨by rfl, ?_⟩) ?_; rotate_left; · (intro w; go_simp; try with_reducible rfl)
              (try simp only [Act.put, List.setIfInBounds_toArray, List.set_cons_zero, List.set_cons_succ])
              refine wpAny_take (i := 1) (oi := ⟨some 35, _, _, _, _, _⟩) (v := ?_) rfl (by kernel_rfl) (by kernel_rfl) (by kernel_rfl) (fun _ _ _ h => h) (Or.inl ⟨by rfl, ?_⟩) ?_; rotate_left; · (intro w; go_simp; try with_reducible rfl)
              (try simp only [Act.put, List.setIfInBounds_toArray, List.set_cons_zero, List.set_cons_succ])
              refine wpAny_take (i := 2) (oi := ⟨some 36, _, _, _, _, _⟩) (v := ?_) rfl (by kernel_rfl) (by kernel_rfl) (by kernel_rfl) (fun _ _ _ h => h) (Or.inl ⟨by rfl, ?_⟩) ?_; rotate_left; · (intro w; go_simp; try with_reducible rfl)
              (try simp only [Act.put, List.setIfInBounds_toArray, List.set_cons_zero, List.set_cons_succ])
              refine wpAny_take (i := 3) (oi := ⟨some 37, _, _, _, _, _⟩) (v := ?_) rfl (by kernel_rfl) (by kernel_rfl) (by kernel_rfl) (fun _ _ _ h => h) (Or.inl ⟨by rfl, ?_⟩) ?_; rotate_left; · (intro w; go_simp; try with_reducible rfl)
              (try simp only [Act.put, List.setIfInBounds_toArray, List.set_cons_zero, List.set_cons_succ])
              refine wpAny_take (i := 4) (oi := ⟨some 38, _, _, _, _, _⟩) (v := ?_) rfl (by kernel_rfl) (by kernel_rfl) (by kernel_rfl) (fun _ _ _ h => h) (Or.inl ⟨by rfl, ?_⟩) ?_; rotate_left; · (intro w; go_simp; try with_reducible rfl)
              (try simp only [Act.put, List.setIfInBounds_toArray, List.set_cons_zero, List.set_cons_succ])
              refine wpAny_take (i := 5) (oi := ⟨some 39, _, _, _, _, _⟩) (v := ?_) rfl (by kernel_rfl) (by kernel_rfl) (by kernel_rfl) (fun _ _ _ h => h) (Or.inl ⟨by rfl, ?_⟩) ?_; rotate_left; · (intro w; go_simp; try with_reducible rfl)
              (try simp only [Act.put, List.setIfInBounds_toArray, List.set_cons_zero, List.set_cons_succ])
              refine wpAny_take (i := 6) (oi := ⟨some 40, _, _, _, _, _⟩) (v := ?_) rfl (by kernel_rfl) (by kernel_rfl) (by kernel_rfl) (fun _ _ _ h => h) (Or.inl ⟨by rfl, ?_⟩) ?_; rotate_left; · (intro w; go_simp; try with_reducible rfl)
              (try simp only [Act.put, List.setIfInBounds_toArray, List.set_cons_zero, List.set_cons_succ])
              refine wpAny_ready (rs := [7]) (by kernel_rfl) (by simp) ?_
              refine AllReady.cons (o := ⟨some 41, _, _, _, _, _⟩) rfl (fun K hK => ?_) AllReady.nil
              refine step_copyN (by rfl) (.tmp 37) (.tmp 40) 25 25 (by rfl) 31 5 Try.underlying25 hsz5 g ((a + 1) * 5) (j - a) (cap - (a + 1)) ⟨g, a * 5, none⟩ (j + 1 - a) (cap - a) (by simp [Act.eval]) (by simp [Act.eval]) cur 31 hgH.out (rowS (O.drop a)) hl5.out hsrc.out hfit.out hone.out ?_
              refine hK _ _ ?_; clear hK K
              refine wpAny_done (by kernel_rfl) ?_ _
              (try simp only [Act.put, List.setIfInBounds_toArray, List.set_cons_zero, List.set_cons_succ])
              have ho4 := Lib.hid (hsp.out)
              have hkW := Lib.hid (Keeps.setRowNew hk1.drew hbg ((cur.toList.take ((a + 1) * 5) ++ rowS (O.drop a) ++ cur.toList.drop ((a + 1) * 5 + (rowS (O.drop a)).length)).toArray))
              have FW := (show (World.setRow w1.drew g ((cur.toList.take ((a + 1) * 5) ++ rowS (O.drop a) ++ cur.toList.drop ((a + 1) * 5 + (rowS (O.drop a)).length)).toArray)).cell? ⟨wo.heap.size, 0, none⟩ = some (.int .i64 s.1) ∧ (World.setRow w1.drew g ((cur.toList.take ((a + 1) * 5) ++ rowS (O.drop a) ++ cur.toList.drop ((a + 1) * 5 + (rowS (O.drop a)).length)).toArray)).cell? ⟨wo.heap.size, 1, none⟩ = some (.int .u8 s.2.1) ∧ (World.setRow w1.drew g ((cur.toList.take ((a + 1) * 5) ++ rowS (O.drop a) ++ cur.toList.drop ((a + 1) * 5 + (rowS (O.drop a)).length)).toArray)).cell? ⟨wo.heap.size, 2, none⟩ = some (.int .u8 s.2.2.1) ∧ (World.setRow w1.drew g ((cur.toList.take ((a + 1) * 5) ++ rowS (O.drop a) ++ cur.toList.drop ((a + 1) * 5 + (rowS (O.drop a)).length)).toArray)).cell? ⟨wo.heap.size, 3, none⟩ = some (.int .u8 s.2.2.2.1) ∧ (World.setRow w1.drew g ((cur.toList.take ((a + 1) * 5) ++ rowS (O.drop a) ++ cur.toList.drop ((a + 1) * 5 + (rowS (O.drop a)).length)).toArray)).cell? ⟨wo.heap.size, 4, none⟩ = some (.int .u8 s.2.2.2.2) from ⟨(cell_setRow_far w1.drew g wo.heap.size 0 _ hne).trans FL.out.1, (cell_setRow_far w1.drew g wo.heap.size 1 _ hne).trans FL.out.2.1, (cell_setRow_far w1.drew g wo.heap.size 2 _ hne).trans FL.out.2.2.1, (cell_setRow_far w1.drew g wo.heap.size 3 _ hne).trans FL.out.2.2.2.1, (cell_setRow_far w1.drew g wo.heap.size 4 _ hne).trans FL.out.2.2.2.2⟩)
              clear FL
              generalize World.setRow w1.drew g ((cur.toList.take ((a + 1) * 5) ++ rowS (O.drop a) ++ cur.toList.drop ((a + 1) * 5 + (rowS (O.drop a)).length)).toArray) = W at *
              clear hgH hsrc hl5 hk1 hone hsz5
              obtain ⟨-, -, q0, u0, e0⟩ := rowAt ho4.out (a * 5) (by omega)
              obtain ⟨-, -, q1, u1, e1⟩ := rowAt ho4.out (a * 5 + 1) (by omega)
              obtain ⟨-, -, q2, u2, e2⟩ := rowAt ho4.out (a * 5 + 2) (by omega)
              obtain ⟨-, -, q3, u3, e3⟩ := rowAt ho4.out (a * 5 + 3) (by omega)
              obtain ⟨-, -, q4, u4, e4⟩ := rowAt ho4.out (a * 5 + 4) (by omega)
              have n01 := fun (w : World) (u : Value) => setOff w g (a * 5) (a * 5 + 1) u (by omega)
              have n02 := fun (w : World) (u : Value) => setOff w g (a * 5) (a * 5 + 2) u (by omega)
              have n03 := fun (w : World) (u : Value) => setOff w g (a * 5) (a * 5 + 3) u (by omega)
              have n04 := fun (w : World) (u : Value) => setOff w g (a * 5) (a * 5 + 4) u (by omega)
              have n12 := fun (w : World) (u : Value) => setOff w g (a * 5 + 1) (a * 5 + 2) u (by omega)
              have n13 := fun (w : World) (u : Value) => setOff w g (a * 5 + 1) (a * 5 + 3) u (by omega)
              have n14 := fun (w : World) (u : Value) => setOff w g (a * 5 + 1) (a * 5 + 4) u (by omega)
              have n23 := fun (w : World) (u : Value) => setOff w g (a * 5 + 2) (a * 5 + 3) u (by omega)
              have n24 := fun (w : World) (u : Value) => setOff w g (a * 5 + 2) (a * 5 + 4) u (by omega)
              have n34 := fun (w : World) (u : Value) => setOff w g (a * 5 + 3) (a * 5 + 4) u (by omega)
              obtain ⟨g0, g1, g2, g3, g4⟩ := FW
              go_wp2_with fail
              go_roundw
              case rel => exact ⟨j + 1, by omega, by go_num, ((((hkW.out.setNew (p := ⟨g, _, none⟩) hbg _).setNew (p := ⟨g, _, none⟩) hbg _).setNew (p := ⟨g, _, none⟩) hbg _).setNew (p := ⟨g, _, none⟩) hbg _).setNew (p := ⟨g, _, none⟩) hbg _, by rw [hsd.out, ← hME.out]; exact (World.ownsRow.stored (World.ownsRow.stored (World.ownsRow.stored (World.ownsRow.stored (World.ownsRow.stored ho4.out (a * 5) _).1 (a * 5 + 1) _).1 (a * 5 + 2) _).1 (a * 5 + 3) _).1 (a * 5 + 4) _).1, by rw [hsd.out]; exact Lib.hid hOk2.out⟩
              case measure => simp [intOf]; omega
    · obtain rfl : j = n := by omega
      obtain ⟨Ao, co, rfl, hSt⟩ := Sts.of_own hown (srt_length L j) hOk.out
      have hSt := Lib.hid hSt
      clear HA hown
      go_wp2_with fail
      go_ret
      exact ⟨_, _, rfl, hSt.out, hkw⟩
end Go.Proofs.Ytboomdbmeallfaa
