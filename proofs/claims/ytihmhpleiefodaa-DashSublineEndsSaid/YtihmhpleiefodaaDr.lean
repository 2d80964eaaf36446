/- Contracts of dash.IsOn and of reference 25's IsOn. -/
import Derived.Test.YtihmhpleiefodaaDq
namespace Go.Proofs.Ytihmhpleiefodaa
open Go.RowKit
attribute [local go_sem ↓] Go.wp_at_zero Go.wp_at_succ
set_option linter.unusedVariables false
set_option linter.unusedSimpArgs false
def isOnB (wd jn cp ml ph : Int) (D : List Int) (a : Int) : Bool := stB wd jn cp ml ph D && decide (0 ≤ a) && onI D ph a
theorem stB_ok {wd jn cp ml ph : Int} {D : List Int} (h : stB wd jn cp ml ph D = true) : dashB D = true ∧ 0 ≤ ph ∧ ph ≤ 1048576 := by
  unfold stB at h
  simp only [Bool.and_eq_true, decide_eq_true_eq] at h
  exact ⟨h.1.1.2, h.1.2, h.2⟩
set_option maxRecDepth 100000 in
set_option maxHeartbeats 2000000 in
theorem ison_any (wd jn cp ml ph : Int) (A : Option Addr) (n c : Nat) (D : List Int) (at' : Int) (w : World) (h : Ins w A n c D) (ha2 : at' ≤ 9223372036854775807) :
    Calls Try.prog 14 #[.agg #[.int .i64 wd, .int .i64 jn, .int .i64 cp, .int .i64 ml, .slice A n c, .int .i64 ph], .int .i64 at'] w fun e w' => e = .returned (.bool (isOnB wd jn cp ml ph D at')) ∧ Keeps w w' := by
  have hl := h.1
  have HS := Lib.hid (show ∀ w', Keeps (w.alloc (.cells #[.int .i64 wd, .int .i64 jn, .int .i64 cp, .int .i64 ml, .slice A n c, .int .i64 ph] 27)) w' → w'.cell? ⟨w.heap.size, 0, none⟩ = some (.int .i64 wd) ∧ w'.frozen? ⟨w.heap.size, 0, none⟩ = false ∧ w'.cell? ⟨w.heap.size, 1, none⟩ = some (.int .i64 jn) ∧ w'.frozen? ⟨w.heap.size, 1, none⟩ = false ∧ w'.cell? ⟨w.heap.size, 2, none⟩ = some (.int .i64 cp) ∧ w'.frozen? ⟨w.heap.size, 2, none⟩ = false ∧ w'.cell? ⟨w.heap.size, 3, none⟩ = some (.int .i64 ml) ∧ w'.frozen? ⟨w.heap.size, 3, none⟩ = false ∧ w'.cell? ⟨w.heap.size, 4, none⟩ = some (.slice A n c) ∧ w'.frozen? ⟨w.heap.size, 4, none⟩ = false ∧ w'.cell? ⟨w.heap.size, 5, none⟩ = some (.int .i64 ph) ∧ w'.frozen? ⟨w.heap.size, 5, none⟩ = false from fun w' hk => ⟨(hk.cell (p := ⟨w.heap.size, 0, none⟩) (by first | (simp; done) | (simp; omega))).trans (by simp [go_sem]), (hk.frozen (p := ⟨w.heap.size, 0, none⟩) (by first | (simp; done) | (simp; omega))).trans (by simp [go_sem]), (hk.cell (p := ⟨w.heap.size, 1, none⟩) (by first | (simp; done) | (simp; omega))).trans (by simp [go_sem]), (hk.frozen (p := ⟨w.heap.size, 1, none⟩) (by first | (simp; done) | (simp; omega))).trans (by simp [go_sem]), (hk.cell (p := ⟨w.heap.size, 2, none⟩) (by first | (simp; done) | (simp; omega))).trans (by simp [go_sem]), (hk.frozen (p := ⟨w.heap.size, 2, none⟩) (by first | (simp; done) | (simp; omega))).trans (by simp [go_sem]), (hk.cell (p := ⟨w.heap.size, 3, none⟩) (by first | (simp; done) | (simp; omega))).trans (by simp [go_sem]), (hk.frozen (p := ⟨w.heap.size, 3, none⟩) (by first | (simp; done) | (simp; omega))).trans (by simp [go_sem]), (hk.cell (p := ⟨w.heap.size, 4, none⟩) (by first | (simp; done) | (simp; omega))).trans (by simp [go_sem]), (hk.frozen (p := ⟨w.heap.size, 4, none⟩) (by first | (simp; done) | (simp; omega))).trans (by simp [go_sem]), (hk.cell (p := ⟨w.heap.size, 5, none⟩) (by first | (simp; done) | (simp; omega))).trans (by simp [go_sem]), (hk.frozen (p := ⟨w.heap.size, 5, none⟩) (by first | (simp; done) | (simp; omega))).trans (by simp [go_sem])⟩)
  have HB := Lib.hid (show Keeps w (w.alloc (.cells #[.int .i64 wd, .int .i64 jn, .int .i64 cp, .int .i64 ml, .slice A n c, .int .i64 ph] 27)) from (by (repeat (first | (with_reducible exact Keeps.refl _) | (with_reducible assumption) | (with_reducible refine Keeps.drewN ?_ _) | (with_reducible refine Keeps.drew ?_) | (with_reducible refine Keeps.alloc ?_ _) | (with_reducible refine Keeps.setNew ?_ ?_ _))) <;> (dsimp only; omega)))
  have hk0 := Keeps.refl (w.alloc (.cells #[.int .i64 wd, .int .i64 jn, .int .i64 cp, .int .i64 ml, .slice A n c, .int .i64 ph] 27))
  have KV := Lib.hid (fun w' (hk : Keeps (w.alloc (.cells #[.int .i64 wd, .int .i64 jn, .int .i64 cp, .int .i64 ml, .slice A n c, .int .i64 ph] 27)) w') => keepk (style_any wd jn cp ml ph A n c D w' (h.keep (HB.out.trans hk))) hk)
  have HI := Lib.hid h
  clear h
  cases hs : stB wd jn cp ml ph D with
  | false =>
    have hR := Lib.hid (show isOnB wd jn cp ml ph D at' = false by unfold isOnB; rw [hs]; rfl)
    rw [hs] at KV
    rw [hR.out]
    clear hs
    go_enter Try.func14, Try.ntmps14
    obtain ⟨y0, y1, y2, y3, y4, y5, y6, y7, y8, y9, y10, y11⟩ := HS.out _ hk0
    go_wp2_with (go_at_call 31; refine (KV.out _ hk0).mono ?_; rintro e w1 ⟨rfl, hk⟩)
    go_ret
    exact ⟨rfl, HB.out.trans hk⟩
  | true =>
    rw [hs] at KV
    by_cases ha : at' < 0
    · have hR := Lib.hid (show isOnB wd jn cp ml ph D at' = false by unfold isOnB; rw [decide_eq_false (show ¬ 0 ≤ at' by omega)]; simp)
      rw [hR.out]
      clear hs
      go_enter Try.func14, Try.ntmps14
      obtain ⟨y0, y1, y2, y3, y4, y5, y6, y7, y8, y9, y10, y11⟩ := HS.out _ hk0
      go_wp2_with (go_at_call 31; refine (KV.out _ hk0).mono ?_; rintro e w1 ⟨rfl, hk⟩)
      go_ret
      exact ⟨rfl, HB.out.trans hk⟩
    · have ha0 : 0 ≤ at' := by omega
      have hR : isOnB wd jn cp ml ph D at' = onI D ph at' := by unfold isOnB; rw [hs, decide_eq_true ha0]; rfl
      rw [hR]
      clear hR
      obtain ⟨hdb, h0, h1⟩ := stB_ok hs
      obtain ⟨hok, hev, h16, hpos⟩ := dashB_ok hdb
      clear hdb hev hs
      by_cases hz : n = 0
      · subst hz
        have hR := Lib.hid (show onI D ph at' = true by unfold onI; rw [hl]; rfl)
        rw [hR.out]
        clear hpos hok h16
        go_enter Try.func14, Try.ntmps14
        obtain ⟨y0, y1, y2, y3, y4, y5, y6, y7, y8, y9, y10, y11⟩ := HS.out _ hk0
        go_wp2_with (go_at_call 31; refine (KV.out _ hk0).mono ?_; rintro e w1 ⟨rfl, hk⟩; obtain ⟨z0, z1, z2, z3, z4, z5, z6, z7, z8, z9, z10, z11⟩ := HS.out _ hk)
        go_ret
        exact ⟨rfl, HB.out.trans hk⟩
      · have ht : 0 < totD D := by omega
        have KP := Lib.hid (fun w' (hk : Keeps (w.alloc (.cells #[.int .i64 wd, .int .i64 jn, .int .i64 cp, .int .i64 ml, .slice A n c, .int .i64 ph] 27)) w') => phase_any wd jn cp ml ph A n c D at' w' (HI.out.keep (HB.out.trans hk)) hok (by omega) ht ha0 ha2 h0 h1)
        have hO := Lib.hid (fun i (hi : AtD D (posK D ph at') i) => (InD.of_at hok hi).on hok at' (Int.le_refl _) (by have := hi.2.2; omega))
        have hzi : ((n : Int) == 0) = false := by simp; omega
        clear hpos hok h16 ht
        go_enter Try.func14, Try.ntmps14
        obtain ⟨y0, y1, y2, y3, y4, y5, y6, y7, y8, y9, y10, y11⟩ := HS.out _ hk0
        go_wp2_with (first | (go_at_call 31; refine (KV.out _ hk0).mono ?_; rintro e w1 ⟨rfl, hk⟩; obtain ⟨z0, z1, z2, z3, z4, z5, z6, z7, z8, z9, z10, z11⟩ := HS.out _ hk) | (go_at_call 32; refine (KP.out _ (by first | assumption | exact Keeps.drew (by assumption) | exact Keeps.drewN (by assumption) _)).mono ?_; rintro e w2 ⟨⟨i, hi, rfl⟩, hk2⟩; have hi := Lib.hid hi))
        have hOi := hO.out i hi.out
        rw [hOi]
        go_ret
        exact ⟨ret_bool (by rw [Bool.eq_iff_iff]; simp; omega), (HB.out.trans hk).trans hk2⟩

set_option maxRecDepth 100000 in
set_option maxHeartbeats 2000000 in
theorem rall_any (A : Option Addr) (n c : Nat) (D : List Int) (w : World) (h : Ins w A n c D) (hD : okD D) (hn : n ≤ 16) :
    Calls Try.prog 52 #[.slice A n c] w fun e w' => e = .returned (.tuple #[.int .i64 (totD D), .int .i64 (256 * sumP 0 D D.length)]) ∧ Keeps w w' := by
  have hl := h.1
  have HI := Lib.hid h
  have HD := Lib.hid hD
  clear h hD
  go_enter Try.func52, Try.ntmps52
  go_wp2_with fail
  go_loopw [4, 5, 6] (fun s u i wr => ∃ j : Nat, j ≤ n ∧ i = .int .i64 j ∧ s = .int .i64 (sumK D j) ∧ u = .int .i64 (256 * sumP 0 D j) ∧ Keeps w wr) (fun _ _ i _ => n - (intOf i).toNat)
  case atStart => exact ⟨0, by omega, rfl, rfl, rfl, Keeps.refl _⟩
  case round =>
    obtain ⟨j, hj, rfl, rfl, rfl, hkw⟩ := hrel
    by_cases hlt : j < n
    · obtain ⟨b, o, rfl, hb, hc⟩ := HI.out.at hlt
      have c0 := (hkw.cell (p := ⟨b, o + j, none⟩) hb).trans hc
      have hd := HD.out j
      have hS := sumK_bd HD.out j
      have hU := sumP_bd HD.out 0 j
      have hR := Lib.hid (sumK_succ D j)
      have hV := Lib.hid (sumP_succ 0 D j)
      have hlt2 : (j : Int) < n := by omega
      clear hc
      generalize D.getD j 0 = d at *
      generalize sumK D j = S at *
      generalize sumP 0 D j = U at *
      by_cases he : j % 2 = 0
      · have he2 : (j : Int) % 2 = 0 := by omega
        go_wp2_with fail
        go_roundw
        case rel => exact ⟨j + 1, by omega, by go_num, by rw [hR.out], by rw [hV.out, if_pos he]; exact int_eq (by omega), hkw⟩
        case measure => simp [intOf]; omega
      · have he2 : (j : Int) % 2 = 1 := by omega
        go_wp2_with fail
        go_roundw
        case rel => exact ⟨j + 1, by omega, by go_num, by rw [hR.out], by rw [hV.out, if_neg he]; exact int_eq (by omega), hkw⟩
        case measure => simp [intOf]; omega
    · obtain rfl : j = n := by omega
      go_wp2_with fail
      refine bodyPost_ret (v := .tuple #[.int .i64 (sumK D j), .int .i64 (256 * sumP 0 D j)]) (by simp [results, Try.results52, go_sem, *]) rfl ?_
      exact ⟨by rw [totD, hl], hkw⟩
set_option maxRecDepth 100000 in
set_option maxHeartbeats 2000000 in
theorem rpart_any (wd jn cp ml ph : Int) (A : Option Addr) (n c : Nat) (D : List Int) (at' : Int) (w : World) (h : Ins w A n c D) (hD : okD D) (hn : n ≤ 16) (hp : 0 < totD D) (ha : 0 ≤ at') (ha2 : at' ≤ 9223372036854775807) (h0 : 0 ≤ ph) (h1 : ph ≤ 1048576) :
    Calls Try.prog 33 #[.agg #[.int .i64 wd, .int .i64 jn, .int .i64 cp, .int .i64 ml, .slice A n c, .int .i64 ph], .int .i64 at'] w (PhR w D (posK D ph at')) := by
  have hl := h.1
  have HS := Lib.hid (show ∀ w', Keeps (w.alloc (.cells #[.int .i64 wd, .int .i64 jn, .int .i64 cp, .int .i64 ml, .slice A n c, .int .i64 ph] 27)) w' → w'.cell? ⟨w.heap.size, 0, none⟩ = some (.int .i64 wd) ∧ w'.frozen? ⟨w.heap.size, 0, none⟩ = false ∧ w'.cell? ⟨w.heap.size, 1, none⟩ = some (.int .i64 jn) ∧ w'.frozen? ⟨w.heap.size, 1, none⟩ = false ∧ w'.cell? ⟨w.heap.size, 2, none⟩ = some (.int .i64 cp) ∧ w'.frozen? ⟨w.heap.size, 2, none⟩ = false ∧ w'.cell? ⟨w.heap.size, 3, none⟩ = some (.int .i64 ml) ∧ w'.frozen? ⟨w.heap.size, 3, none⟩ = false ∧ w'.cell? ⟨w.heap.size, 4, none⟩ = some (.slice A n c) ∧ w'.frozen? ⟨w.heap.size, 4, none⟩ = false ∧ w'.cell? ⟨w.heap.size, 5, none⟩ = some (.int .i64 ph) ∧ w'.frozen? ⟨w.heap.size, 5, none⟩ = false from fun w' hk => ⟨(hk.cell (p := ⟨w.heap.size, 0, none⟩) (by first | (simp; done) | (simp; omega))).trans (by simp [go_sem]), (hk.frozen (p := ⟨w.heap.size, 0, none⟩) (by first | (simp; done) | (simp; omega))).trans (by simp [go_sem]), (hk.cell (p := ⟨w.heap.size, 1, none⟩) (by first | (simp; done) | (simp; omega))).trans (by simp [go_sem]), (hk.frozen (p := ⟨w.heap.size, 1, none⟩) (by first | (simp; done) | (simp; omega))).trans (by simp [go_sem]), (hk.cell (p := ⟨w.heap.size, 2, none⟩) (by first | (simp; done) | (simp; omega))).trans (by simp [go_sem]), (hk.frozen (p := ⟨w.heap.size, 2, none⟩) (by first | (simp; done) | (simp; omega))).trans (by simp [go_sem]), (hk.cell (p := ⟨w.heap.size, 3, none⟩) (by first | (simp; done) | (simp; omega))).trans (by simp [go_sem]), (hk.frozen (p := ⟨w.heap.size, 3, none⟩) (by first | (simp; done) | (simp; omega))).trans (by simp [go_sem]), (hk.cell (p := ⟨w.heap.size, 4, none⟩) (by first | (simp; done) | (simp; omega))).trans (by simp [go_sem]), (hk.frozen (p := ⟨w.heap.size, 4, none⟩) (by first | (simp; done) | (simp; omega))).trans (by simp [go_sem]), (hk.cell (p := ⟨w.heap.size, 5, none⟩) (by first | (simp; done) | (simp; omega))).trans (by simp [go_sem]), (hk.frozen (p := ⟨w.heap.size, 5, none⟩) (by first | (simp; done) | (simp; omega))).trans (by simp [go_sem])⟩)
  have HB := Lib.hid (show Keeps w (w.alloc (.cells #[.int .i64 wd, .int .i64 jn, .int .i64 cp, .int .i64 ml, .slice A n c, .int .i64 ph] 27)) from (by (repeat (first | (with_reducible exact Keeps.refl _) | (with_reducible assumption) | (with_reducible refine Keeps.drewN ?_ _) | (with_reducible refine Keeps.drew ?_) | (with_reducible refine Keeps.alloc ?_ _) | (with_reducible refine Keeps.setNew ?_ ?_ _))) <;> (dsimp only; omega)))
  have hk0 := Keeps.refl (w.alloc (.cells #[.int .i64 wd, .int .i64 jn, .int .i64 cp, .int .i64 ml, .slice A n c, .int .i64 ph] 27))
  have HI := Lib.hid h
  have HD := Lib.hid hD
  have hsb := sumK_bd hD D.length
  have hT : totD D = sumK D D.length := rfl
  have hpb := posK_bd D ph at' hp
  have m0 := Int.emod_nonneg at' (show totD D ≠ 0 by omega)
  have m1 := Int.emod_lt_of_pos at' hp
  have m2 := Int.emod_nonneg (256 * ph) (show totD D ≠ 0 by omega)
  have m3 := Int.emod_lt_of_pos (256 * ph) hp
  have hT2 : totD D ≤ 4294967296 := by omega
  have e1 : at'.tmod (totD D) = at' % totD D := Int.tmod_eq_emod_of_nonneg ha
  have e2 : (256 * ph).tmod (totD D) = 256 * ph % totD D := Int.tmod_eq_emod_of_nonneg (by omega)
  have e3 : (at' % totD D + 256 * ph % totD D).tmod (totD D) = posK D ph at' := Int.tmod_eq_emod_of_nonneg (by omega)
  have KA := Lib.hid (fun w' (hk : Keeps (w.alloc (.cells #[.int .i64 wd, .int .i64 jn, .int .i64 cp, .int .i64 ml, .slice A n c, .int .i64 ph] 27)) w') => keepk (rall_any A n c D w' (h.keep (HB.out.trans hk)) hD hn) hk)
  generalize 256 * sumP 0 D D.length = U at *
  replace hT := Lib.hid hT
  replace hl := Lib.hid hl
  clear h hD hsb
  generalize at' % totD D = r1 at *
  generalize 256 * ph % totD D = r2 at *
  generalize totD D = T at *
  have tz : (T == 0) = false := by simp; omega
  generalize posK D ph at' = K at *
  go_enter Try.func33, Try.ntmps33
  obtain ⟨y0, y1, y2, y3, y4, y5, y6, y7, y8, y9, y10, y11⟩ := HS.out _ hk0
  go_wp2_with (go_at_call 52; refine (KA.out _ hk0).mono ?_; rintro e w1 ⟨rfl, hk⟩; obtain ⟨z0, z1, z2, z3, z4, z5, z6, z7, z8, z9, z10, z11⟩ := HS.out _ hk)
  go_quiet (fail)
  have hkq : Keeps (w.alloc (.cells #[.int .i64 wd, .int .i64 jn, .int .i64 cp, .int .i64 ml, .slice A n c, .int .i64 ph] 27)) (w1.drewN nq) := hk.drewN nq
  clear y0 y1 y2 y3 y4 y5 y6 y7 y8 y9 y10 y11 z0 z1 z2 z3 z4 z5 z6 z7 z8 z9 z10 z11 hk
  generalize w1.drewN nq = wq at *
  obtain ⟨y0, y1, y2, y3, y4, y5, y6, y7, y8, y9, y10, y11⟩ := HS.out _ hkq
  go_wp2_with fail
  clear y0 y1 y2 y3 y4 y5 y6 y7 y8 y9 y10 y11
  go_loopw [8, 9] (fun k i wr => ∃ q : Nat, q ≤ n ∧ i = .int .i64 q ∧ k = .int .i64 (K - sumK D q) ∧ sumK D q ≤ K ∧ Keeps (w.alloc (.cells #[.int .i64 wd, .int .i64 jn, .int .i64 cp, .int .i64 ml, .slice A n c, .int .i64 ph] 27)) wr) (fun _ i _ => n - (intOf i).toNat)
  case atStart => exact ⟨0, by omega, rfl, by simp [sumK], by simp [sumK]; omega, hkq⟩
  case round =>
    obtain ⟨q, hq, rfl, rfl, hqK, hkw⟩ := hrel
    obtain ⟨y0, y1, y2, y3, y4, y5, y6, y7, y8, y9, y10, y11⟩ := HS.out _ hkw
    by_cases hlt : q < n
    · obtain ⟨b, o, rfl, hb, hc⟩ := HI.out.at hlt
      have c0 := ((HB.out.trans hkw).cell (p := ⟨b, o + q, none⟩) hb).trans hc
      have hd := HD.out q
      have hS := sumK_bd HD.out q
      have hR := Lib.hid (sumK_succ D q)
      have hlt2 : (q : Int) < n := by omega
      clear hc
      generalize hdd : D.getD q 0 = d at *
      generalize hSS : sumK D q = S at *
      replace hdd := Lib.hid hdd
      replace hSS := Lib.hid hSS
      by_cases hk : K - S < 256 * d
      · go_wp2_with fail
        go_quiet (fail)
        go_wp2_with fail
        refine bodyPost_ret (v := .tuple #[.int .i64 q, .int .i64 (256 * d - (K - S))]) (by simp [results, Try.results33, go_sem, *]) rfl ?_
        refine ⟨⟨q, ⟨by rw [hl.out]; exact hlt, by rw [hSS.out]; exact hqK, by rw [hR.out]; omega⟩, ?_⟩, (HB.out.trans hkw).drewN _⟩
        rw [hR.out]
        exact ret2_ii rfl (by omega)
      · go_wp2_with fail
        go_roundw
        case rel => exact ⟨q + 1, by omega, by go_num, by rw [hR.out]; exact int_eq (by omega), by rw [hR.out]; omega, hkw⟩
        case measure => simp [intOf]; omega
    · obtain rfl : q = n := by omega
      rw [show sumK D q = T by rw [hT.out, hl.out]] at hqK
      omega
set_option maxRecDepth 100000 in
set_option maxHeartbeats 2000000 in
theorem rison_any (wd jn cp ml ph : Int) (A : Option Addr) (n c : Nat) (D : List Int) (at' : Int) (w : World) (h : Ins w A n c D) (ha2 : at' ≤ 9223372036854775807) :
    Calls Try.prog 15 #[.agg #[.int .i64 wd, .int .i64 jn, .int .i64 cp, .int .i64 ml, .slice A n c, .int .i64 ph], .int .i64 at'] w fun e w' => e = .returned (.bool (isOnB wd jn cp ml ph D at')) ∧ Keeps w w' := by
  have hl := h.1
  have HS := Lib.hid (show ∀ w', Keeps (w.alloc (.cells #[.int .i64 wd, .int .i64 jn, .int .i64 cp, .int .i64 ml, .slice A n c, .int .i64 ph] 27)) w' → w'.cell? ⟨w.heap.size, 0, none⟩ = some (.int .i64 wd) ∧ w'.frozen? ⟨w.heap.size, 0, none⟩ = false ∧ w'.cell? ⟨w.heap.size, 1, none⟩ = some (.int .i64 jn) ∧ w'.frozen? ⟨w.heap.size, 1, none⟩ = false ∧ w'.cell? ⟨w.heap.size, 2, none⟩ = some (.int .i64 cp) ∧ w'.frozen? ⟨w.heap.size, 2, none⟩ = false ∧ w'.cell? ⟨w.heap.size, 3, none⟩ = some (.int .i64 ml) ∧ w'.frozen? ⟨w.heap.size, 3, none⟩ = false ∧ w'.cell? ⟨w.heap.size, 4, none⟩ = some (.slice A n c) ∧ w'.frozen? ⟨w.heap.size, 4, none⟩ = false ∧ w'.cell? ⟨w.heap.size, 5, none⟩ = some (.int .i64 ph) ∧ w'.frozen? ⟨w.heap.size, 5, none⟩ = false from fun w' hk => ⟨(hk.cell (p := ⟨w.heap.size, 0, none⟩) (by first | (simp; done) | (simp; omega))).trans (by simp [go_sem]), (hk.frozen (p := ⟨w.heap.size, 0, none⟩) (by first | (simp; done) | (simp; omega))).trans (by simp [go_sem]), (hk.cell (p := ⟨w.heap.size, 1, none⟩) (by first | (simp; done) | (simp; omega))).trans (by simp [go_sem]), (hk.frozen (p := ⟨w.heap.size, 1, none⟩) (by first | (simp; done) | (simp; omega))).trans (by simp [go_sem]), (hk.cell (p := ⟨w.heap.size, 2, none⟩) (by first | (simp; done) | (simp; omega))).trans (by simp [go_sem]), (hk.frozen (p := ⟨w.heap.size, 2, none⟩) (by first | (simp; done) | (simp; omega))).trans (by simp [go_sem]), (hk.cell (p := ⟨w.heap.size, 3, none⟩) (by first | (simp; done) | (simp; omega))).trans (by simp [go_sem]), (hk.frozen (p := ⟨w.heap.size, 3, none⟩) (by first | (simp; done) | (simp; omega))).trans (by simp [go_sem]), (hk.cell (p := ⟨w.heap.size, 4, none⟩) (by first | (simp; done) | (simp; omega))).trans (by simp [go_sem]), (hk.frozen (p := ⟨w.heap.size, 4, none⟩) (by first | (simp; done) | (simp; omega))).trans (by simp [go_sem]), (hk.cell (p := ⟨w.heap.size, 5, none⟩) (by first | (simp; done) | (simp; omega))).trans (by simp [go_sem]), (hk.frozen (p := ⟨w.heap.size, 5, none⟩) (by first | (simp; done) | (simp; omega))).trans (by simp [go_sem])⟩)
  have HB := Lib.hid (show Keeps w (w.alloc (.cells #[.int .i64 wd, .int .i64 jn, .int .i64 cp, .int .i64 ml, .slice A n c, .int .i64 ph] 27)) from (by (repeat (first | (with_reducible exact Keeps.refl _) | (with_reducible assumption) | (with_reducible refine Keeps.drewN ?_ _) | (with_reducible refine Keeps.drew ?_) | (with_reducible refine Keeps.alloc ?_ _) | (with_reducible refine Keeps.setNew ?_ ?_ _))) <;> (dsimp only; omega)))
  have hk0 := Keeps.refl (w.alloc (.cells #[.int .i64 wd, .int .i64 jn, .int .i64 cp, .int .i64 ml, .slice A n c, .int .i64 ph] 27))
  have KV := Lib.hid (fun w' (hk : Keeps (w.alloc (.cells #[.int .i64 wd, .int .i64 jn, .int .i64 cp, .int .i64 ml, .slice A n c, .int .i64 ph] 27)) w') => keepk (rstyle_any wd jn cp ml ph A n c D w' (h.keep (HB.out.trans hk))) hk)
  have HI := Lib.hid h
  clear h
  cases hs : stB wd jn cp ml ph D with
  | false =>
    have hR := Lib.hid (show isOnB wd jn cp ml ph D at' = false by unfold isOnB; rw [hs]; rfl)
    rw [hs] at KV
    rw [hR.out]
    clear hs
    go_enter Try.func15, Try.ntmps15
    obtain ⟨y0, y1, y2, y3, y4, y5, y6, y7, y8, y9, y10, y11⟩ := HS.out _ hk0
    go_wp2_with (go_at_call 18; refine (KV.out _ hk0).mono ?_; rintro e w1 ⟨rfl, hk⟩)
    go_ret
    exact ⟨rfl, HB.out.trans hk⟩
  | true =>
    rw [hs] at KV
    by_cases ha : at' < 0
    · have hR := Lib.hid (show isOnB wd jn cp ml ph D at' = false by unfold isOnB; rw [decide_eq_false (show ¬ 0 ≤ at' by omega)]; simp)
      rw [hR.out]
      clear hs
      go_enter Try.func15, Try.ntmps15
      obtain ⟨y0, y1, y2, y3, y4, y5, y6, y7, y8, y9, y10, y11⟩ := HS.out _ hk0
      go_wp2_with (go_at_call 18; refine (KV.out _ hk0).mono ?_; rintro e w1 ⟨rfl, hk⟩)
      go_ret
      exact ⟨rfl, HB.out.trans hk⟩
    · have ha0 : 0 ≤ at' := by omega
      have hR : isOnB wd jn cp ml ph D at' = onI D ph at' := by unfold isOnB; rw [hs, decide_eq_true ha0]; rfl
      rw [hR]
      clear hR
      obtain ⟨hdb, h0, h1⟩ := stB_ok hs
      obtain ⟨hok, hev, h16, hpos⟩ := dashB_ok hdb
      clear hdb hev hs
      by_cases hz : n = 0
      · subst hz
        have hR := Lib.hid (show onI D ph at' = true by unfold onI; rw [hl]; rfl)
        rw [hR.out]
        clear hpos hok h16
        go_enter Try.func15, Try.ntmps15
        obtain ⟨y0, y1, y2, y3, y4, y5, y6, y7, y8, y9, y10, y11⟩ := HS.out _ hk0
        go_wp2_with (go_at_call 18; refine (KV.out _ hk0).mono ?_; rintro e w1 ⟨rfl, hk⟩; obtain ⟨z0, z1, z2, z3, z4, z5, z6, z7, z8, z9, z10, z11⟩ := HS.out _ hk)
        go_ret
        exact ⟨rfl, HB.out.trans hk⟩
      · have ht : 0 < totD D := by omega
        have KP := Lib.hid (fun w' (hk : Keeps (w.alloc (.cells #[.int .i64 wd, .int .i64 jn, .int .i64 cp, .int .i64 ml, .slice A n c, .int .i64 ph] 27)) w') => rpart_any wd jn cp ml ph A n c D at' w' (HI.out.keep (HB.out.trans hk)) hok (by omega) ht ha0 ha2 h0 h1)
        have hO := Lib.hid (fun i (hi : AtD D (posK D ph at') i) => (InD.of_at hok hi).on hok at' (Int.le_refl _) (by have := hi.2.2; omega))
        have hzi : ((n : Int) == 0) = false := by simp; omega
        clear hpos hok h16 ht
        go_enter Try.func15, Try.ntmps15
        obtain ⟨y0, y1, y2, y3, y4, y5, y6, y7, y8, y9, y10, y11⟩ := HS.out _ hk0
        go_wp2_with (first | (go_at_call 18; refine (KV.out _ hk0).mono ?_; rintro e w1 ⟨rfl, hk⟩; obtain ⟨z0, z1, z2, z3, z4, z5, z6, z7, z8, z9, z10, z11⟩ := HS.out _ hk) | (go_at_call 33; refine (KP.out _ (by first | assumption | exact Keeps.drew (by assumption) | exact Keeps.drewN (by assumption) _)).mono ?_; rintro e w2 ⟨⟨i, hi, rfl⟩, hk2⟩; have hi := Lib.hid hi))
        have hOi := hO.out i hi.out
        rw [hOi]
        go_ret
        exact ⟨ret_bool (by rw [Bool.eq_iff_iff]; simp; omega), (HB.out.trans hk).trans hk2⟩
end Go.Proofs.Ytihmhpleiefodaa
