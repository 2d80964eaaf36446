/- Contract of reference 22's RoundDisc. -/
import Derived.Test.YtgkdcipebefmhaaWc
namespace Go.Proofs.Ytgkdcipebefmhaa
open Go.RowKit
attribute [local go_sem ↓] Go.wp_at_zero Go.wp_at_succ
set_option linter.unusedVariables false
set_option linter.unusedSimpArgs false
theorem waysL_ok : ∀ q ∈ waysL, okP q := by
  intro q hq
  obtain ⟨k, hk, rfl⟩ := List.getElem_of_mem hq
  have h := waysL_bd k
  rw [List.getD_eq_getElem?_getD, List.getElem?_eq_getElem hk] at h
  simp only [Option.getD_some] at h
  unfold okP i64b
  omega
set_option maxRecDepth 100000 in
set_option maxHeartbeats 8000000 in
theorem rdisc_any (p : Pt) (v : Int) (w : World) : Calls Try.prog 23 #[.agg #[.int .i64 p.1, .int .i64 p.2], .int .i64 v] w (OwnP w (discL p v)) := by
  have HS := Lib.hid (show ∀ w', Keeps (w.alloc (.cells #[.int .i64 p.1, .int .i64 p.2] 28)) w' → w'.cell? ⟨w.heap.size, 0, none⟩ = some (.int .i64 p.1) ∧ w'.frozen? ⟨w.heap.size, 0, none⟩ = false ∧ w'.cell? ⟨w.heap.size, 1, none⟩ = some (.int .i64 p.2) ∧ w'.frozen? ⟨w.heap.size, 1, none⟩ = false from fun w' hk => ⟨(hk.cell (p := ⟨w.heap.size, 0, none⟩) (by first | (simp; done) | (simp; omega))).trans (by simp [go_sem]), (hk.frozen (p := ⟨w.heap.size, 0, none⟩) (by first | (simp; done) | (simp; omega))).trans (by simp [go_sem]), (hk.cell (p := ⟨w.heap.size, 1, none⟩) (by first | (simp; done) | (simp; omega))).trans (by simp [go_sem]), (hk.frozen (p := ⟨w.heap.size, 1, none⟩) (by first | (simp; done) | (simp; omega))).trans (by simp [go_sem])⟩)
  have HB := Lib.hid (show Keeps w (w.alloc (.cells #[.int .i64 p.1, .int .i64 p.2] 28)) from (by (repeat (first | (with_reducible exact Keeps.refl _) | (with_reducible assumption) | (with_reducible refine Keeps.drewN ?_ _) | (with_reducible refine Keeps.drew ?_) | (with_reducible refine Keeps.alloc ?_ _) | (with_reducible refine Keeps.setNew ?_ ?_ _))) <;> (dsimp only; omega)))
  have hk0 := Keeps.refl (w.alloc (.cells #[.int .i64 p.1, .int .i64 p.2] 28))
  have KM := Lib.hid (fun w => rmay_any p p v w)
  unfold discL
  cases hm : mayB p p v with
  | false =>
    rw [if_neg (by decide)]
    rw [hm] at KM
    clear hm
    go_enter Try.func23, Try.ntmps23
    go_wp2_with (go_at_call 46; (with_reducible refine (keepk (KM.out _) (by first | assumption | exact Keeps.drew (by assumption) | exact Keeps.drewN (by assumption) _)).mono ?_); rintro e w1 ⟨rfl, hk⟩; have hj := Keeps.trans HB.out hk; have hk := hk; obtain ⟨y0, y1, y2, y3⟩ := HS.out _ hk)
    go_ret
    exact ⟨_, rfl, own_base (World.ownsRow_lit w1 #[] 0 (Nat.le_refl _) (by unfold maxLen; omega) (by simp)) hj.size, hj.alloc _⟩
  | true =>
    rw [if_pos rfl]
    have hok := Lib.hid (discPts_ok p v hm)
    obtain ⟨⟨b0, b1, b2, b3⟩, -, bv⟩ := mayB_bd hm
    rw [hm] at KM
    clear hm
    have KY := Lib.hid (fun w => (rways_any w).mono fun _ _ h => OwnP.ret (n := 16) rfl waysL_ok h)
    have hpl := Lib.hid (discPts_len p v)
    obtain ⟨i0, hi, hz0, hz1, hz2⟩ := info_parts pt_info
    have HI0 := Lib.hid (And.intro hi (And.intro hz0 (And.intro hz1 hz2)))
    clear hi hz0 hz1 hz2
    have hk := hk0
    go_enter Try.func23, Try.ntmps23
    go_wp2_with (first | (go_at_call 46; (with_reducible refine (keepk (KM.out _) (by first | assumption | exact Keeps.drew (by assumption) | exact Keeps.drewN (by assumption) _)).mono ?_); rintro e w1 ⟨rfl, hk⟩; have hj := Keeps.trans HB.out hk; have hk := hk; obtain ⟨y0, y1, y2, y3⟩ := HS.out _ hk) | (go_at_call 52; (with_reducible refine (KY.out _).mono ?_); rintro e W1 ⟨AY, cY, rfl, hPY, hks⟩; have hPY := Lib.hid hPY; have hkw2 := Lib.hid (Keeps.trans (by first | assumption | exact Keeps.drew (by assumption) | exact Keeps.drewN (by assumption) _) hks)))
    generalize (w.alloc (.cells #[.int .i64 p.1, .int .i64 p.2] 28)) = W0 at *
    go_loopw [6, 7] (fun q i wr => ∃ j : Nat, j ≤ 16 ∧ i = .int .i64 j ∧ Keeps W1 wr ∧ wr.ownsRow W1.heap.size 28 2 q j (rowP ((discPts p v).take j))) (fun _ i _ => 16 - (intOf i).toNat)
    case atStart => exact ⟨0, by omega, rfl, (Keeps.refl _).alloc _, World.ownsRow_lit W1 #[] 0 (Nat.le_refl _) (by unfold maxLen; omega) (by simp)⟩
    case round =>
      obtain ⟨j, hj, rfl, hkw, hown⟩ := hrel
      by_cases hlt : j < 16
      · rename World => wo
        have hT := Lib.hid ((takeP_succ (discPts p v) j (by rw [hpl.out]; exact hlt)).trans (by rw [discPts_get p v j hlt]))
        obtain ⟨a, b, ea, eb, ⟨a0, a1⟩, ⟨c0, c1⟩, eD, ⟨d0, d1⟩, d2, d3⟩ := discD_bd v (waysL.getD j pt0) bv (waysL_bd j)
        have hlt2 : (j : Int) < 16 := by omega
        have hdb := waysL_bd j
        obtain ⟨bY, oY, rfl, hbY, hcY⟩ := hPY.out.2.2.2.2 (by omega)
        have hcj := Lib.hid (hcY j hlt)
        clear hcY
        rw [eD] at hT d0 d1 d2 d3
        generalize waysL.getD j pt0 = d at *
        have r1 : IntKind.i64.wrap a = a := IntWalk.i64_in _ (by omega)
        have r2 : IntKind.i64.wrap b = b := IntWalk.i64_in _ (by omega)
        have KD1 := Lib.hid (fun w => rdvr_any a 32768 w (by omega) (by omega) (by omega) (by omega))
        have KD2 := Lib.hid (fun w => rdvr_any b 32768 w (by omega) (by omega) (by omega) (by omega))
        dsimp only at d0 d1 d2 d3
        generalize dvr a 32768 = x at *
        generalize dvr b 32768 = y at *
        have KP := Lib.hid (fun w => rmore_any p.1 p.2 x y w (by omega) (by omega) (by omega) (by omega) (by omega) (by omega) (by omega) (by omega))
        clear eD
        have z0 : ∀ k : KW wo, k.w.cell? ⟨w.heap.size, 0, none⟩ = some (.int .i64 p.1) := fun k => (HS.out _ ((hkw2.out.trans hkw).trans k.keeps)).1
        have z1 : ∀ k : KW wo, k.w.cell? ⟨w.heap.size, 1, none⟩ = some (.int .i64 p.2) := fun k => (HS.out _ ((hkw2.out.trans hkw).trans k.keeps)).2.2.1
        have z2 : ∀ k : KW wo, k.w.cell? ⟨bY, oY + j * 2, none⟩ = some (.int .i64 d.1) := fun k => (hcj.out.keep hbY (hkw.trans k.keeps)).1
        have z3 : ∀ k : KW wo, k.w.cell? ⟨bY, oY + j * 2 + 1, none⟩ = some (.int .i64 d.2) := fun k => (hcj.out.keep hbY (hkw.trans k.keeps)).2
        have Q1 := Lib.hid (fun k : KW wo => keepq (KD1.out k.w))
        have Q2 := Lib.hid (fun k : KW wo => keepq (KD2.out k.w))
        have Q3 := Lib.hid (fun k : KW wo => keepq (KP.out k.w))
        have HK := Lib.hid hkw
        have HO := Lib.hid hown
        clear hown hkw KD1 KD2 KP
        go_wp2_with fail
        refine wp_region_kept_tail1 (v := ?_) 20 (wo) (by kernel_rfl) (by kernel_rfl) (Keeps.refl _) (Or.inl ⟨by rfl, ?_⟩) (fun _ _ _ h => h) ?_; rotate_left; · (intro w; go_simp; try with_reducible rfl)
        simp only [Act.put, List.setIfInBounds_toArray, List.set_cons_zero, List.set_cons_succ, List.take_succ_cons, List.take_zero, List.drop_succ_cons, List.drop_zero, Nat.reduceSub]
        repeat (first | go_big_quiet_skip | (go_big_quiet_want; go_big_quiet_op; first | go_big_quiet_on | go_big_quiet_call ((first | (go_at_call 38; first | (with_reducible exact Q1.out _) | (with_reducible exact Q2.out _)) | (go_at_call 49; first | (with_reducible exact Q3.out _))))))
        refine wpQuiet_nil ?_
        rintro w' ⟨k9, rfl⟩
        have hk := k9.keeps
        generalize k9.w = w9 at hk ⊢
        clear k9
        have hkn := Lib.hid (HK.out.trans hk)
        have hon := Lib.hid (own_keep HO.out hk)
        obtain ⟨hi, hz0, hz1, hz2⟩ := HI0.out
        clear z0 z1 z2 z3 HO
        go_wp2_with (at_builtin; refine wpList_append_own _ rfl _ _ 32 rfl W1.heap.size 28 i0 (.agg #[.int .i64 0, .int .i64 0]) 2 16 Try.underlying32 hi hz0 hz1 hz2 rfl (by decide) _ _ _ rfl ((hon.out).alloc _) ⟨w9.heap.size, 0, none⟩ 1 1 (ptV (p.1 + x, p.2 + y)) rfl rfl (two_newA w9 _ _ _ (by simp)) (oneCell_ptV _) (by unfold maxLen; omega) (by omega) (by have := (hkn.out).size; simp at this ⊢; omega) ?_; intro v1 w1 hown1 hgrow1 hz9; clear hz9; have hk1 := below_own (hkn.out) rfl (hon.out) hgrow1; clear hgrow1; rw [← rowP_one, ← rowP_append] at hown1)
        go_roundw
        case rel => exact ⟨j + 1, by omega, by go_num, hk1, by rw [hT.out]; exact hown1⟩
        case measure => simp [intOf]; omega
      · obtain rfl : j = 16 := by omega
        rw [List.take_of_length_le (by rw [hpl.out]; exact Nat.le_refl _)] at hown
        obtain ⟨A', c', rfl, hP⟩ := Pts.of_own hown hpl.out hok.out
        have hP := Lib.hid hP
        have hkr := Lib.hid (HB.out.trans (hkw2.out.trans hkw))
        clear hown
        go_wp2_with (go_at_call 48; (with_reducible refine (rorient_any _ 16 _ _ _ hP.out (by omega)).mono ?_); rintro e w10 ⟨vv, rfl, hown, hk10⟩; have hown := Lib.hid hown; have hk10 := Lib.hid hk10)
        go_ret
        exact ⟨_, rfl, own_base hown.out hkr.out.size, hkr.out.trans hk10.out⟩
end Go.Proofs.Ytgkdcipebefmhaa
