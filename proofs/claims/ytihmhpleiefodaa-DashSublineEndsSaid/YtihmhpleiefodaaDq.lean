/- Contracts of dash.phaseAt, dash.IsOn and of their like in reference 25. -/
import Derived.Test.YtihmhpleiefodaaDp
namespace Go.Proofs.Ytihmhpleiefodaa
open Go.RowKit
attribute [local go_sem ↓] Go.wp_at_zero Go.wp_at_succ
set_option linter.unusedVariables false
set_option linter.unusedSimpArgs false
theorem Ins.at {w : World} {A : Option Addr} {n c : Nat} {D : List Int} (h : Ins w A n c D) {j : Nat} (hj : j < n) : ∃ b o, A = some ⟨b, o, none⟩ ∧ b < w.heap.size ∧ w.cell? ⟨b, o + j, none⟩ = some (.int .i64 (D.getD j 0)) := by
  obtain ⟨b, o, e, hb, hc⟩ := h.2.2.2.2 (by omega)
  exact ⟨b, o, e, hb, hc j hj⟩
theorem int_eq {a b : Int} (h : a = b) : Value.int .i64 a = .int .i64 b := by rw [h]
theorem ret2_ii {a b c d : Int} (h : a = b) (h2 : c = d) : Ending.returned (.tuple #[.int .i64 a, .int .i64 c]) = .returned (.tuple #[.int .i64 b, .int .i64 d]) := by rw [h, h2]
def PhR (w : World) (D : List Int) (K : Int) (e : Ending) (w' : World) : Prop := (∃ i : Nat, AtD D K i ∧ e = .returned (.tuple #[.int .i64 i, .int .i64 (sumK D (i + 1) - K)])) ∧ Keeps w w'
set_option maxRecDepth 100000 in
set_option maxHeartbeats 2000000 in
theorem phase_any (wd jn cp ml ph : Int) (A : Option Addr) (n c : Nat) (D : List Int) (at' : Int) (w : World) (h : Ins w A n c D) (hD : okD D) (hn : n ≤ 16) (hp : 0 < totD D) (ha : 0 ≤ at') (ha2 : at' ≤ 9223372036854775807) (h0 : 0 ≤ ph) (h1 : ph ≤ 1048576) :
    Calls Try.prog 32 #[.agg #[.int .i64 wd, .int .i64 jn, .int .i64 cp, .int .i64 ml, .slice A n c, .int .i64 ph], .int .i64 at'] w (PhR w D (posK D ph at')) := by
  have hl := h.1
  have HS := Lib.hid (show ∀ w', Keeps (w.alloc (.cells #[.int .i64 wd, .int .i64 jn, .int .i64 cp, .int .i64 ml, .slice A n c, .int .i64 ph] 27)) w' → w'.cell? ⟨w.heap.size, 0, none⟩ = some (.int .i64 wd) ∧ w'.frozen? ⟨w.heap.size, 0, none⟩ = false ∧ w'.cell? ⟨w.heap.size, 1, none⟩ = some (.int .i64 jn) ∧ w'.frozen? ⟨w.heap.size, 1, none⟩ = false ∧ w'.cell? ⟨w.heap.size, 2, none⟩ = some (.int .i64 cp) ∧ w'.frozen? ⟨w.heap.size, 2, none⟩ = false ∧ w'.cell? ⟨w.heap.size, 3, none⟩ = some (.int .i64 ml) ∧ w'.frozen? ⟨w.heap.size, 3, none⟩ = false ∧ w'.cell? ⟨w.heap.size, 4, none⟩ = some (.slice A n c) ∧ w'.frozen? ⟨w.heap.size, 4, none⟩ = false ∧ w'.cell? ⟨w.heap.size, 5, none⟩ = some (.int .i64 ph) ∧ w'.frozen? ⟨w.heap.size, 5, none⟩ = false from fun w' hk => ⟨(hk.cell (p := ⟨w.heap.size, 0, none⟩) (by first | (simp; done) | (simp; omega))).trans (by simp [go_sem]), (hk.frozen (p := ⟨w.heap.size, 0, none⟩) (by first | (simp; done) | (simp; omega))).trans (by simp [go_sem]), (hk.cell (p := ⟨w.heap.size, 1, none⟩) (by first | (simp; done) | (simp; omega))).trans (by simp [go_sem]), (hk.frozen (p := ⟨w.heap.size, 1, none⟩) (by first | (simp; done) | (simp; omega))).trans (by simp [go_sem]), (hk.cell (p := ⟨w.heap.size, 2, none⟩) (by first | (simp; done) | (simp; omega))).trans (by simp [go_sem]), (hk.frozen (p := ⟨w.heap.size, 2, none⟩) (by first | (simp; done) | (simp; omega))).trans (by simp [go_sem]), (hk.cell (p := ⟨w.heap.size, 3, none⟩) (by first | (simp; done) | (simp; omega))).trans (by simp [go_sem]), (hk.frozen (p := ⟨w.heap.size, 3, none⟩) (by first | (simp; done) | (simp; omega))).trans (by simp [go_sem]), (hk.cell (p := ⟨w.heap.size, 4, none⟩) (by first | (simp; done) | (simp; omega))).trans (by simp [go_sem]), (hk.frozen (p := ⟨w.heap.size, 4, none⟩) (by first | (simp; done) | (simp; omega))).trans (by simp [go_sem]), (hk.cell (p := ⟨w.heap.size, 5, none⟩) (by first | (simp; done) | (simp; omega))).trans (by simp [go_sem]), (hk.frozen (p := ⟨w.heap.size, 5, none⟩) (by first | (simp; done) | (simp; omega))).trans (by simp [go_sem])⟩)
  have HB := Lib.hid (show Keeps w (w.alloc (.cells #[.int .i64 wd, .int .i64 jn, .int .i64 cp, .int .i64 ml, .slice A n c, .int .i64 ph] 27)) from (by (repeat (first | (with_reducible exact Keeps.refl _) | (with_reducible assumption) | (with_reducible refine Keeps.drewN ?_ _) | (with_reducible refine Keeps.drew ?_) | (with_reducible refine Keeps.alloc ?_ _) | (with_reducible refine Keeps.setNew ?_ ?_ _))) <;> (dsimp only; omega)))
  have hk0 := Keeps.refl (w.alloc (.cells #[.int .i64 wd, .int .i64 jn, .int .i64 cp, .int .i64 ml, .slice A n c, .int .i64 ph] 27))
  have HI := Lib.hid h
  have HD := Lib.hid hD
  have hsb := sumK_bd hD D.length
  have hT : totD D = sumK D D.length := rfl
  have hpb := posK_bd D ph at' hp
  have m0 := Int.emod_nonneg at' (show totD D ≠ 0 by omega)
  have m1 := Int.emod_lt_of_pos at' hp
  have m2 := Int.emod_nonneg (256 * ph) (show totD D ≠ 0 by omega)
  have m3 := Int.emod_lt_of_pos (256 * ph) hp
  have hT2 : totD D ≤ 4294967296 := by omega
  have e1 : at'.tmod (totD D) = at' % totD D := Int.tmod_eq_emod_of_nonneg ha
  have e2 : (256 * ph).tmod (totD D) = 256 * ph % totD D := Int.tmod_eq_emod_of_nonneg (by omega)
  have e3 : (at' % totD D + 256 * ph % totD D).tmod (totD D) = posK D ph at' := Int.tmod_eq_emod_of_nonneg (by omega)
  replace hT := Lib.hid hT
  replace hl := Lib.hid hl
  clear h hD hsb
  generalize at' % totD D = r1 at *
  generalize 256 * ph % totD D = r2 at *
  generalize totD D = T at *
  have tz : (T == 0) = false := by simp; omega
  generalize posK D ph at' = K at *
  go_enter Try.func32, Try.ntmps32
  go_wp2_with fail
  go_loopw [6, 15] (fun s i wr => ∃ j : Nat, j ≤ n ∧ i = .int .i64 j ∧ s = .int .i64 (sumK D j) ∧ Keeps (w.alloc (.cells #[.int .i64 wd, .int .i64 jn, .int .i64 cp, .int .i64 ml, .slice A n c, .int .i64 ph] 27)) wr) (fun _ i _ => n - (intOf i).toNat)
  case atStart => exact ⟨0, by omega, rfl, rfl, hk0⟩
  case round =>
    obtain ⟨j, hj, rfl, rfl, hkw⟩ := hrel
    obtain ⟨y0, y1, y2, y3, y4, y5, y6, y7, y8, y9, y10, y11⟩ := HS.out _ hkw
    by_cases hlt : j < n
    · obtain ⟨b, o, rfl, hb, hc⟩ := HI.out.at hlt
      have c0 := ((HB.out.trans hkw).cell (p := ⟨b, o + j, none⟩) hb).trans hc
      have hd := HD.out j
      have hS := sumK_bd HD.out j
      have hR := Lib.hid (sumK_succ D j)
      have hlt2 : (j : Int) < n := by omega
      clear hc
      generalize D.getD j 0 = d at *
      generalize sumK D j = S at *
      go_wp2_with fail
      go_roundw
      case rel => exact ⟨j + 1, by omega, by go_num, by rw [hR.out], hkw⟩
      case measure => simp [intOf]; omega
    · obtain rfl : j = n := by omega
      have hSn : sumK D j = T := by rw [hT.out, hl.out]
      rw [hSn]
      go_wp2_with fail
      go_quiet (fail)
      have hkq : Keeps (w.alloc (.cells #[.int .i64 wd, .int .i64 jn, .int .i64 cp, .int .i64 ml, .slice A j c, .int .i64 ph] 27)) (wr.drewN nq) := hkw.drewN nq
      clear y0 y1 y2 y3 y4 y5 y6 y7 y8 y9 y10 y11 hkw
      generalize wr.drewN nq = wq at *
      obtain ⟨y0, y1, y2, y3, y4, y5, y6, y7, y8, y9, y10, y11⟩ := HS.out _ hkq
      go_wp2_with fail
      clear y0 y1 y2 y3 y4 y5 y6 y7 y8 y9 y10 y11
      go_loopw [9, 38] (fun k i wr => ∃ q : Nat, q ≤ j ∧ i = .int .i64 q ∧ k = .int .i64 (K - sumK D q) ∧ sumK D q ≤ K ∧ Keeps (w.alloc (.cells #[.int .i64 wd, .int .i64 jn, .int .i64 cp, .int .i64 ml, .slice A j c, .int .i64 ph] 27)) wr) (fun _ i _ => j - (intOf i).toNat)
      case atStart => exact ⟨0, by omega, rfl, by simp [sumK], by simp [sumK]; omega, hkq⟩
      case round =>
        obtain ⟨q, hq, rfl, rfl, hqK, hkw⟩ := hrel
        obtain ⟨y0, y1, y2, y3, y4, y5, y6, y7, y8, y9, y10, y11⟩ := HS.out _ hkw
        by_cases hlt : q < j
        · obtain ⟨b, o, rfl, hb, hc⟩ := HI.out.at hlt
          have c0 := ((HB.out.trans hkw).cell (p := ⟨b, o + q, none⟩) hb).trans hc
          have hd := HD.out q
          have hS := sumK_bd HD.out q
          have hR := Lib.hid (sumK_succ D q)
          have hlt2 : (q : Int) < j := by omega
          clear hc
          generalize hdd : D.getD q 0 = d at *
          generalize hSS : sumK D q = S at *
          replace hdd := Lib.hid hdd
          replace hSS := Lib.hid hSS
          by_cases hk : K - S < 256 * d
          · go_wp2_with fail
            refine bodyPost_ret (v := .tuple #[.int .i64 q, .int .i64 (256 * d - (K - S))]) (by simp [results, Try.results32, go_sem, *]) rfl ?_
            refine ⟨⟨q, ⟨by rw [hl.out]; exact hlt, by rw [hSS.out]; exact hqK, by rw [hR.out]; omega⟩, ?_⟩, HB.out.trans hkw⟩
            rw [hR.out]
            exact ret2_ii rfl (by omega)
          · go_wp2_with fail
            go_roundw
            case rel => exact ⟨q + 1, by omega, by go_num, by rw [hR.out]; exact int_eq (by omega), by rw [hR.out]; omega, hkw⟩
            case measure => simp [intOf]; omega
        · obtain rfl : q = j := by omega
          rw [hSn] at hqK
          omega
end Go.Proofs.Ytihmhpleiefodaa
