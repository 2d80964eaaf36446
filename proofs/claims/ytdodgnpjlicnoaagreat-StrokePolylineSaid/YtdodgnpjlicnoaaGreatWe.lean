/- Contract of reference 22's RoundDisc. -/
import Derived.Test.YtdodgnpjlicnoaaGreatWb
import Derived.Test.YtdodgnpjlicnoaaGreatKu
namespace Go.Proofs.YtdodgnpjlicnoaaGreat
section
open Go.RowKit
attribute [local go_sem ↓] Go.wp_at_zero Go.wp_at_succ
set_option linter.unusedVariables false
set_option linter.unusedSimpArgs false
def discD (v : Int) (d : Pt) : Pt := (dvr (d.1 * v) 32768, dvr (d.2 * v) 32768)
def discPts (p : Pt) (v : Int) : List Pt := waysL.map fun d => addP p (discD v d)
def discL (p : Pt) (v : Int) : List Pt := if mayB p p v = true then orient (discPts p v) else []
theorem waysL_bd (k : Nat) : (-16384 ≤ (waysL.getD k pt0).1 ∧ (waysL.getD k pt0).1 ≤ 16384) ∧ (-16384 ≤ (waysL.getD k pt0).2 ∧ (waysL.getD k pt0).2 ≤ 16384) := by
  by_cases hk : k < 16
  · have h : ∀ k : Fin 16, (-16384 ≤ (waysL.getD k pt0).1 ∧ (waysL.getD k pt0).1 ≤ 16384) ∧ (-16384 ≤ (waysL.getD k pt0).2 ∧ (waysL.getD k pt0).2 ≤ 16384) := by decide +kernel
    exact h ⟨k, hk⟩
  · have e : waysL.getD k pt0 = pt0 := by rw [List.getD_eq_getElem?_getD, List.getElem?_eq_none (by show 16 ≤ k; omega)]; rfl
    rw [e]; exact ⟨⟨by decide, by decide⟩, ⟨by decide, by decide⟩⟩
theorem discD_bd (v : Int) (d : Pt) (hv : 1 ≤ v ∧ v ≤ 16384) (hd : (-16384 ≤ d.1 ∧ d.1 ≤ 16384) ∧ (-16384 ≤ d.2 ∧ d.2 ≤ 16384)) :
    ∃ a b : Int, d.1 * v = a ∧ d.2 * v = b ∧ (-17592186044416 ≤ a ∧ a ≤ 17592186044416) ∧ (-17592186044416 ≤ b ∧ b ≤ 17592186044416) ∧ discD v d = (dvr a 32768, dvr b 32768) ∧ (-1152921504606846976 ≤ (discD v d).1 ∧ (discD v d).1 ≤ 1152921504606846976) ∧ (-1152921504606846976 ≤ (discD v d).2 ∧ (discD v d).2 ≤ 1152921504606846976) := by
  obtain ⟨a, ea, a0, a1⟩ := mul_bd d.1 v (by omega) (by omega) (by omega) (by omega)
  obtain ⟨b, eb, b0, b1⟩ := mul_bd d.2 v (by omega) (by omega) (by omega) (by omega)
  have e : discD v d = (dvr a 32768, dvr b 32768) := by unfold discD; rw [ea, eb]
  refine ⟨a, b, ea, eb, ⟨a0, a1⟩, ⟨b0, b1⟩, e, ?_, ?_⟩
  · rw [e]; exact (dvr_Q a 32768 (by omega) (by omega)).2
  · rw [e]; exact (dvr_Q b 32768 (by omega) (by omega)).2
theorem discPts_get (p : Pt) (v : Int) (k : Nat) (hk : k < 16) : (discPts p v).getD k pt0 = addP p (discD v (waysL.getD k pt0)) := by
  unfold discPts
  rw [List.getD_eq_getElem?_getD, List.getElem?_map, List.getD_eq_getElem?_getD, List.getElem?_eq_getElem (show k < waysL.length from hk)]; rfl
theorem discPts_len (p : Pt) (v : Int) : (discPts p v).length = 16 := by unfold discPts; rw [List.length_map]; rfl
theorem discPts_ok (p : Pt) (v : Int) (h : mayB p p v = true) : ∀ q ∈ discPts p v, okP q := by
  obtain ⟨⟨b0, b1, b2, b3⟩, _, bv⟩ := mayB_bd h
  intro q hq
  obtain ⟨k, hk, rfl⟩ := List.getElem_of_mem hq
  rw [discPts_len] at hk
  have e := discPts_get p v k hk
  rw [List.getD_eq_getElem?_getD, List.getElem?_eq_getElem (by rw [discPts_len]; exact hk)] at e
  simp only [Option.getD_some] at e
  rw [e]
  obtain ⟨a, b, _, _, _, _, _, h1, h2⟩ := discD_bd v (waysL.getD k pt0) bv (waysL_bd k)
  unfold okP i64b addP
  dsimp only
  omega
theorem discL_ok (p : Pt) (v : Int) : ∀ q ∈ discL p v, okP q := by
  unfold discL
  cases hm : mayB p p v with
  | false => rw [if_neg (by decide)]; intro p hp; cases hp
  | true => rw [if_pos rfl]; exact orient_ok _ (discPts_ok p v hm)
theorem discL_len (p : Pt) (v : Int) : (discL p v).length ≤ 16 := by
  unfold discL; split
  · have := orient_len (discPts p v); rw [discPts_len] at this; exact this
  · simp
set_option maxRecDepth 100000 in
theorem index16 (k : Nat) (hk : k < 16) (w : World) : (Instr.index 81 (.agg (rowP waysL).toArray) (.int .i64 (k : Int))).run Tryz.prog w = .ok (.agg #[.int .i64 (waysL.getD k pt0).1, .int .i64 (waysL.getD k pt0).2]) w := by
  have u := Tryz.underlying81
  have u2 := Tryz.underlying37
  have hq : k = 0 ∨ k = 1 ∨ k = 2 ∨ k = 3 ∨ k = 4 ∨ k = 5 ∨ k = 6 ∨ k = 7 ∨ k = 8 ∨ k = 9 ∨ k = 10 ∨ k = 11 ∨ k = 12 ∨ k = 13 ∨ k = 14 ∨ k = 15 := by omega
  rcases hq with rfl | rfl | rfl | rfl | rfl | rfl | rfl | rfl | rfl | rfl | rfl | rfl | rfl | rfl | rfl | rfl <;> simp [Instr.index, go_sem, u, u2, waysL, rowP, ptV]
set_option maxRecDepth 100000 in
set_option maxHeartbeats 8000000 in
theorem disc_any (p : Pt) (v : Int) (w : World) : Calls Tryz.prog 49 #[.agg #[.int .i64 p.1, .int .i64 p.2], .int .i64 v] w (OwnP w (discL p v)) := by
  have HS := Lib.hid (show ∀ w', Keeps (w.alloc (.cells #[.int .i64 p.1, .int .i64 p.2] 37)) w' → w'.cell? ⟨w.heap.size, 0, none⟩ = some (.int .i64 p.1) ∧ w'.frozen? ⟨w.heap.size, 0, none⟩ = false ∧ w'.cell? ⟨w.heap.size, 1, none⟩ = some (.int .i64 p.2) ∧ w'.frozen? ⟨w.heap.size, 1, none⟩ = false from fun w' hk => ⟨(hk.cell (p := ⟨w.heap.size, 0, none⟩) (by first | (simp; done) | (simp; omega))).trans (by simp [go_sem]), (hk.frozen (p := ⟨w.heap.size, 0, none⟩) (by first | (simp; done) | (simp; omega))).trans (by simp [go_sem]), (hk.cell (p := ⟨w.heap.size, 1, none⟩) (by first | (simp; done) | (simp; omega))).trans (by simp [go_sem]), (hk.frozen (p := ⟨w.heap.size, 1, none⟩) (by first | (simp; done) | (simp; omega))).trans (by simp [go_sem])⟩)
  have HB := Lib.hid (show Keeps w (w.alloc (.cells #[.int .i64 p.1, .int .i64 p.2] 37)) from (by (repeat (first | (with_reducible exact Keeps.refl _) | (with_reducible assumption) | (with_reducible refine Keeps.drewN ?_ _) | (with_reducible refine Keeps.drew ?_) | (with_reducible refine Keeps.alloc ?_ _) | (with_reducible refine Keeps.setNew ?_ ?_ _))) <;> (dsimp only; omega)))
  have hk0 := Keeps.refl (w.alloc (.cells #[.int .i64 p.1, .int .i64 p.2] 37))
  have KWd := Lib.hid (fun w => wide_any v w)
  have KV := Lib.hid (fun w => valid_any p.1 p.2 w)
  rw [show validB p.1 p.2 = vP p from rfl] at KV
  unfold discL
  cases hm : mayB p p v with
  | false =>
    rw [if_neg (by decide)]
    rcases mayB_no hm with h3 | ⟨h3, h4⟩ | ⟨h3, h4, h5⟩
    · rw [h3] at KWd
      clear h3 hm
      go_enter Tryz.func49, Tryz.ntmps49
      go_wp2_with (go_at_call 24; (with_reducible refine (KWd.out _).mono ?_); rintro e w1 ⟨rfl, rfl⟩)
      go_ret
      exact ⟨_, rfl, World.ownsRow_nil _ _ _ _, (by (repeat (first | (with_reducible exact Keeps.refl _) | (with_reducible assumption) | (with_reducible refine Keeps.drewN ?_ _) | (with_reducible refine Keeps.drew ?_) | (with_reducible refine Keeps.alloc ?_ _) | (with_reducible refine Keeps.setNew ?_ ?_ _))) <;> (dsimp only; omega))⟩
    · rw [h3] at KWd
      rw [h4] at KV
      clear h3 h4 hm
      go_enter Tryz.func49, Tryz.ntmps49
      go_wp2_with (first | (go_at_call 24; (with_reducible refine (KWd.out _).mono ?_); rintro e w1 ⟨rfl, rfl⟩) | (go_at_call 28; (with_reducible refine (keepk (KV.out _) (by first | assumption | exact Keeps.drew (by assumption) | exact Keeps.drewN (by assumption) _)).mono ?_); rintro e w1 ⟨rfl, hk⟩; have hj := Keeps.trans HB.out hk; have hk := hk; obtain ⟨y0, y1, y2, y3⟩ := HS.out _ hk))
      go_ret
      exact ⟨_, rfl, World.ownsRow_nil _ _ _ _, (by (repeat (first | (with_reducible exact Keeps.refl _) | (with_reducible assumption) | (with_reducible refine Keeps.drewN ?_ _) | (with_reducible refine Keeps.drew ?_) | (with_reducible refine Keeps.alloc ?_ _) | (with_reducible refine Keeps.setNew ?_ ?_ _))) <;> (dsimp only; omega))⟩
    · rw [h4] at h5; cases h5
  | true =>
    rw [if_pos rfl]
    have hok := Lib.hid (discPts_ok p v hm)
    obtain ⟨⟨b0, b1, b2, b3⟩, -, bv⟩ := mayB_bd hm
    unfold mayB at hm
    simp only [Bool.and_eq_true] at hm
    rw [hm.1.1] at KWd
    rw [hm.1.2] at KV
    clear hm
    have KY := Lib.hid ways_any
    have HI := Lib.hid index16
    have hpl := Lib.hid (discPts_len p v)
    obtain ⟨i0, hi, hz0, hz1, hz2⟩ := info_parts pt_info
    have HI0 := Lib.hid (And.intro hi (And.intro hz0 (And.intro hz1 hz2)))
    clear hi hz0 hz1 hz2
    generalize hWV : Value.agg (rowP waysL).toArray = WV at *
    clear hWV
    have hk := hk0
    go_enter Tryz.func49, Tryz.ntmps49
    go_wp2_with (first | (go_at_call 24; (with_reducible refine (KWd.out _).mono ?_); rintro e w1 ⟨rfl, rfl⟩) | (go_at_call 28; (with_reducible refine (keepk (KV.out _) (by first | assumption | exact Keeps.drew (by assumption) | exact Keeps.drewN (by assumption) _)).mono ?_); rintro e w1 ⟨rfl, hk⟩; have hj := Keeps.trans HB.out hk; have hk := hk; obtain ⟨y0, y1, y2, y3⟩ := HS.out _ hk) | (go_at_call 66; (with_reducible refine (keepk (KY.out _) (by first | assumption | exact Keeps.drew (by assumption) | exact Keeps.drewN (by assumption) _)).mono ?_); rintro e w2 ⟨rfl, hk⟩; have hkw2 := Lib.hid hk))
    generalize (w.alloc (.cells #[.int .i64 p.1, .int .i64 p.2] 37)) = W0 at *
    go_loopw [5, 17] (fun q i wr => ∃ j : Nat, j ≤ 16 ∧ i = .int .i64 j ∧ Keeps W0 wr ∧ wr.ownsRow W0.heap.size 37 2 q j (rowP ((discPts p v).take j))) (fun _ i _ => 16 - (intOf i).toNat)
    case atStart => exact ⟨0, by omega, rfl, hkw2.out, World.ownsRow_nil _ _ _ _⟩
    case round =>
      clear hkw2 hk0
      obtain ⟨j, hj, rfl, hkw, hown⟩ := hrel
      by_cases hlt : j < 16
      · rename World => wo
        have hI := HI.out j hlt
        have hT := Lib.hid ((takeP_succ (discPts p v) j (by rw [hpl.out]; exact hlt)).trans (by rw [discPts_get p v j hlt]))
        obtain ⟨a, b, ea, eb, ⟨a0, a1⟩, ⟨c0, c1⟩, eD, ⟨d0, d1⟩, d2, d3⟩ := discD_bd v (waysL.getD j pt0) bv (waysL_bd j)
        have hlt2 : (j : Int) < 16 := by omega
        have hdb := waysL_bd j
        rw [eD] at hT d0 d1 d2 d3
        generalize waysL.getD j pt0 = d at *
        have r1 : IntKind.i64.wrap a = a := IntWalk.i64_in _ (by omega)
        have r2 : IntKind.i64.wrap b = b := IntWalk.i64_in _ (by omega)
        have KD1 := Lib.hid (fun w => (show Calls Tryz.prog 65 #[.int .i64 a, .int .i64 32768] w fun e w' => e = .returned (.int .i64 (dvr a 32768)) ∧ Keeps w w' from dvr_any a 32768 w (by omega) (by omega) (by omega) (by omega)))
        have KD2 := Lib.hid (fun w => (show Calls Tryz.prog 65 #[.int .i64 b, .int .i64 32768] w fun e w' => e = .returned (.int .i64 (dvr b 32768)) ∧ Keeps w w' from dvr_any b 32768 w (by omega) (by omega) (by omega) (by omega)))
        dsimp only at d0 d1 d2 d3
        generalize dvr a 32768 = x at *
        generalize dvr b 32768 = y at *
        have KP := Lib.hid (fun w => splus_any p.1 p.2 x y w (by omega) (by omega) (by omega) (by omega) (by omega) (by omega) (by omega) (by omega))
        obtain ⟨y0, -, y1, -⟩ := HS.out _ hkw
        clear eD
        go_wp2_with fail
        refine name_world (fun W hW => ?_)
        have hkW : Keeps wo W := by rw [hW]; exact (Keeps.refl _).alloc _
        have F : W.cell? ⟨wo.heap.size, 0, none⟩ = some (.int .i64 d.1) ∧ W.cell? ⟨wo.heap.size, 1, none⟩ = some (.int .i64 d.2) := by rw [hW]; exact ⟨by simp [go_sem], by simp [go_sem]⟩
        obtain ⟨f0, f1⟩ := F
        clear hW y0 y1
        have HK := Lib.hid (hkw.trans hkW)
        have HO := Lib.hid (own_keep hown hkW)
        have z0 : ∀ k : KW W, k.w.cell? ⟨w.heap.size, 0, none⟩ = some (.int .i64 p.1) := fun k => (HS.out _ (HK.out.trans k.keeps)).1
        have z1 : ∀ k : KW W, k.w.cell? ⟨w.heap.size, 1, none⟩ = some (.int .i64 p.2) := fun k => (HS.out _ (HK.out.trans k.keeps)).2.2.1
        have z2 : ∀ k : KW W, k.w.cell? ⟨wo.heap.size, 0, none⟩ = some (.int .i64 d.1) := fun k => (k.keeps.cell (World.block_lt_of_cell? W _ f0)).trans f0
        have z3 : ∀ k : KW W, k.w.cell? ⟨wo.heap.size, 1, none⟩ = some (.int .i64 d.2) := fun k => (k.keeps.cell (World.block_lt_of_cell? W _ f1)).trans f1
        have Q1 := Lib.hid (fun k : KW W => keepq (KD1.out k.w))
        have Q2 := Lib.hid (fun k : KW W => keepq (KD2.out k.w))
        have Q3 := Lib.hid (fun k : KW W => keepq (KP.out k.w))
        clear f0 f1 hown hkw hkW KD1 KD2 KP
        refine wp_region_kept_tail1 (v := ?_) 14 (W) (by kernel_rfl) (by kernel_rfl) (Keeps.refl _) (Or.inl ⟨by rfl, ?_⟩) (fun _ _ _ h => h) ?_; rotate_left; · (intro w; go_simp; try with_reducible rfl)
        simp only [Act.put, List.setIfInBounds_toArray, List.set_cons_zero, List.set_cons_succ, List.take_succ_cons, List.take_zero, List.drop_succ_cons, List.drop_zero, Nat.reduceSub]
        repeat (first | go_big_quiet_skip | (go_big_quiet_want; go_big_quiet_op; first | go_big_quiet_on | go_big_quiet_call ((first | (go_at_call 65; first | (with_reducible exact Q1.out _) | (with_reducible exact Q2.out _)) | (go_at_call 53; first | (with_reducible exact Q3.out _))))))
        refine wpQuiet_nil ?_
        rintro w' ⟨k9, rfl⟩
        have hk := k9.keeps
        generalize k9.w = w9 at hk ⊢
        clear k9
        have hkn := Lib.hid (HK.out.trans hk)
        have hon := Lib.hid (own_keep HO.out hk)
        obtain ⟨hi, hz0, hz1, hz2⟩ := HI0.out
        clear z0 z1 z2 z3 HO
        go_wp2_with (at_builtin; refine wpList_append_own _ rfl _ _ 22 rfl W0.heap.size 37 i0 (.agg #[.int .i64 0, .int .i64 0]) 2 16 Tryz.underlying22 hi hz0 hz1 hz2 rfl (by decide) _ _ _ rfl ((hon.out).alloc _) ⟨w9.heap.size, 0, none⟩ 1 1 (ptV (p.1 + x, p.2 + y)) rfl rfl (two_newA w9 _ _ _ (by simp)) (oneCell_ptV _) (by unfold maxLen; omega) (by omega) (by have := (hkn.out).size; simp at this ⊢; omega) ?_; intro v1 w1 hown1 hgrow1 hz9; clear hz9; have hk1 := below_own (hkn.out) rfl (hon.out) hgrow1; clear hgrow1; rw [← rowP_one, ← rowP_append] at hown1)
        go_roundw
        case rel => exact ⟨j + 1, by omega, by go_num, hk1, by rw [hT.out]; exact hown1⟩
        case measure => simp [intOf]; omega
      · obtain rfl : j = 16 := by omega
        rw [List.take_of_length_le (by rw [hpl.out]; exact Nat.le_refl _)] at hown
        obtain ⟨A', c', rfl, hP⟩ := Pts.of_own hown hpl.out hok.out
        have hP := Lib.hid hP
        have hkr := Lib.hid (HB.out.trans hkw)
        clear hown
        go_wp2_with (go_at_call 51; (with_reducible refine (orient_any _ 16 _ _ _ hP.out (by omega)).mono ?_); rintro e w10 ⟨vv, rfl, hown, hk10⟩; have hown := Lib.hid hown; have hk10 := Lib.hid hk10)
        go_ret
        exact ⟨_, rfl, own_base hown.out hkr.out.size, hkr.out.trans hk10.out⟩
end

section
open Go.RowKit
attribute [local go_sem ↓] Go.wp_at_zero Go.wp_at_succ
set_option linter.unusedVariables false
set_option linter.unusedSimpArgs false
theorem waysL_ok : ∀ q ∈ waysL, okP q := by
  intro q hq
  obtain ⟨k, hk, rfl⟩ := List.getElem_of_mem hq
  have h := waysL_bd k
  rw [List.getD_eq_getElem?_getD, List.getElem?_eq_getElem hk] at h
  simp only [Option.getD_some] at h
  unfold okP i64b
  omega
set_option maxRecDepth 100000 in
set_option maxHeartbeats 8000000 in
theorem rdisc_any (p : Pt) (v : Int) (w : World) : Calls Tryz.prog 62 #[.agg #[.int .i64 p.1, .int .i64 p.2], .int .i64 v] w (OwnP w (discL p v)) := by
  have HS := Lib.hid (show ∀ w', Keeps (w.alloc (.cells #[.int .i64 p.1, .int .i64 p.2] 37)) w' → w'.cell? ⟨w.heap.size, 0, none⟩ = some (.int .i64 p.1) ∧ w'.frozen? ⟨w.heap.size, 0, none⟩ = false ∧ w'.cell? ⟨w.heap.size, 1, none⟩ = some (.int .i64 p.2) ∧ w'.frozen? ⟨w.heap.size, 1, none⟩ = false from fun w' hk => ⟨(hk.cell (p := ⟨w.heap.size, 0, none⟩) (by first | (simp; done) | (simp; omega))).trans (by simp [go_sem]), (hk.frozen (p := ⟨w.heap.size, 0, none⟩) (by first | (simp; done) | (simp; omega))).trans (by simp [go_sem]), (hk.cell (p := ⟨w.heap.size, 1, none⟩) (by first | (simp; done) | (simp; omega))).trans (by simp [go_sem]), (hk.frozen (p := ⟨w.heap.size, 1, none⟩) (by first | (simp; done) | (simp; omega))).trans (by simp [go_sem])⟩)
  have HB := Lib.hid (show Keeps w (w.alloc (.cells #[.int .i64 p.1, .int .i64 p.2] 37)) from (by (repeat (first | (with_reducible exact Keeps.refl _) | (with_reducible assumption) | (with_reducible refine Keeps.drewN ?_ _) | (with_reducible refine Keeps.drew ?_) | (with_reducible refine Keeps.alloc ?_ _) | (with_reducible refine Keeps.setNew ?_ ?_ _))) <;> (dsimp only; omega)))
  have hk0 := Keeps.refl (w.alloc (.cells #[.int .i64 p.1, .int .i64 p.2] 37))
  have KM := Lib.hid (fun w => rmay_any p p v w)
  unfold discL
  cases hm : mayB p p v with
  | false =>
    rw [if_neg (by decide)]
    rw [hm] at KM
    clear hm
    go_enter Tryz.func62, Tryz.ntmps62
    go_wp2_with (go_at_call 74; (with_reducible refine (keepk (KM.out _) (by first | assumption | exact Keeps.drew (by assumption) | exact Keeps.drewN (by assumption) _)).mono ?_); rintro e w1 ⟨rfl, hk⟩; have hj := Keeps.trans HB.out hk; have hk := hk; obtain ⟨y0, y1, y2, y3⟩ := HS.out _ hk)
    go_ret
    exact ⟨_, rfl, own_base (World.ownsRow_lit w1 #[] 0 (Nat.le_refl _) (by unfold maxLen; omega) (by simp)) hj.size, hj.alloc _⟩
  | true =>
    rw [if_pos rfl]
    have hok := Lib.hid (discPts_ok p v hm)
    obtain ⟨⟨b0, b1, b2, b3⟩, -, bv⟩ := mayB_bd hm
    rw [hm] at KM
    clear hm
    have KY := Lib.hid (fun w => (rways_any w).mono fun _ _ h => OwnP.ret (n := 16) rfl waysL_ok h)
    have hpl := Lib.hid (discPts_len p v)
    obtain ⟨i0, hi, hz0, hz1, hz2⟩ := info_parts pt_info
    have HI0 := Lib.hid (And.intro hi (And.intro hz0 (And.intro hz1 hz2)))
    clear hi hz0 hz1 hz2
    have hk := hk0
    go_enter Tryz.func62, Tryz.ntmps62
    go_wp2_with (first | (go_at_call 74; (with_reducible refine (keepk (KM.out _) (by first | assumption | exact Keeps.drew (by assumption) | exact Keeps.drewN (by assumption) _)).mono ?_); rintro e w1 ⟨rfl, hk⟩; have hj := Keeps.trans HB.out hk; have hk := hk; obtain ⟨y0, y1, y2, y3⟩ := HS.out _ hk) | (go_at_call 83; (with_reducible refine (KY.out _).mono ?_); rintro e W1 ⟨AY, cY, rfl, hPY, hks⟩; have hPY := Lib.hid hPY; have hkw2 := Lib.hid (Keeps.trans (by first | assumption | exact Keeps.drew (by assumption) | exact Keeps.drewN (by assumption) _) hks)))
    generalize (w.alloc (.cells #[.int .i64 p.1, .int .i64 p.2] 37)) = W0 at *
    go_loopw [6, 7] (fun q i wr => ∃ j : Nat, j ≤ 16 ∧ i = .int .i64 j ∧ Keeps W1 wr ∧ wr.ownsRow W1.heap.size 37 2 q j (rowP ((discPts p v).take j))) (fun _ i _ => 16 - (intOf i).toNat)
    case atStart => exact ⟨0, by omega, rfl, (Keeps.refl _).alloc _, World.ownsRow_lit W1 #[] 0 (Nat.le_refl _) (by unfold maxLen; omega) (by simp)⟩
    case round =>
      obtain ⟨j, hj, rfl, hkw, hown⟩ := hrel
      by_cases hlt : j < 16
      · rename World => wo
        have hT := Lib.hid ((takeP_succ (discPts p v) j (by rw [hpl.out]; exact hlt)).trans (by rw [discPts_get p v j hlt]))
        obtain ⟨a, b, ea, eb, ⟨a0, a1⟩, ⟨c0, c1⟩, eD, ⟨d0, d1⟩, d2, d3⟩ := discD_bd v (waysL.getD j pt0) bv (waysL_bd j)
        have hlt2 : (j : Int) < 16 := by omega
        have hdb := waysL_bd j
        obtain ⟨bY, oY, rfl, hbY, hcY⟩ := hPY.out.2.2.2.2 (by omega)
        have hcj := Lib.hid (hcY j hlt)
        clear hcY
        rw [eD] at hT d0 d1 d2 d3
        generalize waysL.getD j pt0 = d at *
        have r1 : IntKind.i64.wrap a = a := IntWalk.i64_in _ (by omega)
        have r2 : IntKind.i64.wrap b = b := IntWalk.i64_in _ (by omega)
        have KD1 := Lib.hid (fun w => rdvr_any a 32768 w (by omega) (by omega) (by omega) (by omega))
        have KD2 := Lib.hid (fun w => rdvr_any b 32768 w (by omega) (by omega) (by omega) (by omega))
        dsimp only at d0 d1 d2 d3
        generalize dvr a 32768 = x at *
        generalize dvr b 32768 = y at *
        have KP := Lib.hid (fun w => rmore_any p.1 p.2 x y w (by omega) (by omega) (by omega) (by omega) (by omega) (by omega) (by omega) (by omega))
        clear eD
        have z0 : ∀ k : KW wo, k.w.cell? ⟨w.heap.size, 0, none⟩ = some (.int .i64 p.1) := fun k => (HS.out _ ((hkw2.out.trans hkw).trans k.keeps)).1
        have z1 : ∀ k : KW wo, k.w.cell? ⟨w.heap.size, 1, none⟩ = some (.int .i64 p.2) := fun k => (HS.out _ ((hkw2.out.trans hkw).trans k.keeps)).2.2.1
        have z2 : ∀ k : KW wo, k.w.cell? ⟨bY, oY + j * 2, none⟩ = some (.int .i64 d.1) := fun k => (hcj.out.keep hbY (hkw.trans k.keeps)).1
        have z3 : ∀ k : KW wo, k.w.cell? ⟨bY, oY + j * 2 + 1, none⟩ = some (.int .i64 d.2) := fun k => (hcj.out.keep hbY (hkw.trans k.keeps)).2
        have Q1 := Lib.hid (fun k : KW wo => keepq (KD1.out k.w))
        have Q2 := Lib.hid (fun k : KW wo => keepq (KD2.out k.w))
        have Q3 := Lib.hid (fun k : KW wo => keepq (KP.out k.w))
        have HK := Lib.hid hkw
        have HO := Lib.hid hown
        clear hown hkw KD1 KD2 KP
        go_wp2_with fail
        refine wp_region_kept_tail1 (v := ?_) 20 (wo) (by kernel_rfl) (by kernel_rfl) (Keeps.refl _) (Or.inl ⟨by rfl, ?_⟩) (fun _ _ _ h => h) ?_; rotate_left; · (intro w; go_simp; try with_reducible rfl)
        simp only [Act.put, List.setIfInBounds_toArray, List.set_cons_zero, List.set_cons_succ, List.take_succ_cons, List.take_zero, List.drop_succ_cons, List.drop_zero, Nat.reduceSub]
        repeat (first | go_big_quiet_skip | (go_big_quiet_want; go_big_quiet_op; first | go_big_quiet_on | go_big_quiet_call ((first | (go_at_call 82; first | (with_reducible exact Q1.out _) | (with_reducible exact Q2.out _)) | (go_at_call 78; first | (with_reducible exact Q3.out _))))))
        refine wpQuiet_nil ?_
        rintro w' ⟨k9, rfl⟩
        have hk := k9.keeps
        generalize k9.w = w9 at hk ⊢
        clear k9
        have hkn := Lib.hid (HK.out.trans hk)
        have hon := Lib.hid (own_keep HO.out hk)
        obtain ⟨hi, hz0, hz1, hz2⟩ := HI0.out
        clear z0 z1 z2 z3 HO
        go_wp2_with (at_builtin; refine wpList_append_own _ rfl _ _ 22 rfl W1.heap.size 37 i0 (.agg #[.int .i64 0, .int .i64 0]) 2 16 Tryz.underlying22 hi hz0 hz1 hz2 rfl (by decide) _ _ _ rfl ((hon.out).alloc _) ⟨w9.heap.size, 0, none⟩ 1 1 (ptV (p.1 + x, p.2 + y)) rfl rfl (two_newA w9 _ _ _ (by simp)) (oneCell_ptV _) (by unfold maxLen; omega) (by omega) (by have := (hkn.out).size; simp at this ⊢; omega) ?_; intro v1 w1 hown1 hgrow1 hz9; clear hz9; have hk1 := below_own (hkn.out) rfl (hon.out) hgrow1; clear hgrow1; rw [← rowP_one, ← rowP_append] at hown1)
        go_roundw
        case rel => exact ⟨j + 1, by omega, by go_num, hk1, by rw [hT.out]; exact hown1⟩
        case measure => simp [intOf]; omega
      · obtain rfl : j = 16 := by omega
        rw [List.take_of_length_le (by rw [hpl.out]; exact Nat.le_refl _)] at hown
        obtain ⟨A', c', rfl, hP⟩ := Pts.of_own hown hpl.out hok.out
        have hP := Lib.hid hP
        have hkr := Lib.hid (HB.out.trans (hkw2.out.trans hkw))
        clear hown
        go_wp2_with (go_at_call 77; (with_reducible refine (rorient_any _ 16 _ _ _ hP.out (by omega)).mono ?_); rintro e w10 ⟨vv, rfl, hown, hk10⟩; have hown := Lib.hid hown; have hk10 := Lib.hid hk10)
        go_ret
        exact ⟨_, rfl, own_base hown.out hkr.out.size, hkr.out.trans hk10.out⟩
end
end Go.Proofs.YtdodgnpjlicnoaaGreat
