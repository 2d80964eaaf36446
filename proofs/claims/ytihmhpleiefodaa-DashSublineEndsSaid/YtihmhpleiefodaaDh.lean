/- The contract of (measured).point. -/
import Derived.Test.YtihmhpleiefodaaDg
namespace Go.Proofs.Ytihmhpleiefodaa
open Go.RowKit Go.Shelf
attribute [local go_sem ↓] Go.wp_at_zero Go.wp_at_succ
set_option linter.unusedVariables false
set_option linter.unusedSimpArgs false
set_option maxRecDepth 100000 in
set_option maxHeartbeats 2000000 in
theorem point_any (cl : Bool) (M : List Pt) (A1 A2 : Option Addr) (c1 c2 : Nat) (a : Int) (w : World) (hP : Pts w A1 M.length c1 M) (hI : Ins w A2 (segs cl M).length c2 (ats (segs cl M))) (hk : 0 < (segs cl M).length) (hm : M.length ≤ 1000000) (ha : 0 ≤ a) (ha2 : a ≤ 4611686018427387904) :
    Calls Try.prog 56 #[.agg #[.slice A1 M.length c1, .slice A2 (segs cl M).length c2, .int .i64 (lng (segs cl M))], .int .i64 a] w fun e w' => e = .returned (ptA (ptF (segs cl M) a)) ∧ Keeps w w' := by
  have HS := Lib.hid (show ∀ w', Keeps ((w.alloc (.cells #[.slice A1 M.length c1, .slice A2 (segs cl M).length c2, .int .i64 (lng (segs cl M))] 54)).alloc (.cells #[.int .i64 0, .int .i64 0] 50)) w' → w'.cell? ⟨w.heap.size, 0, none⟩ = some (.slice A1 M.length c1) ∧ w'.frozen? ⟨w.heap.size, 0, none⟩ = false ∧ w'.cell? ⟨w.heap.size, 1, none⟩ = some (.slice A2 (segs cl M).length c2) ∧ w'.frozen? ⟨w.heap.size, 1, none⟩ = false ∧ w'.cell? ⟨w.heap.size, 2, none⟩ = some (.int .i64 (lng (segs cl M))) ∧ w'.frozen? ⟨w.heap.size, 2, none⟩ = false ∧ w'.cell? ⟨w.heap.size + 1, 0, none⟩ = some (.int .i64 0) ∧ w'.frozen? ⟨w.heap.size + 1, 0, none⟩ = false ∧ w'.cell? ⟨w.heap.size + 1, 1, none⟩ = some (.int .i64 0) ∧ w'.frozen? ⟨w.heap.size + 1, 1, none⟩ = false from fun w' hk => ⟨(hk.cell (p := ⟨w.heap.size, 0, none⟩) (by first | (simp; done) | (simp; omega))).trans (by simp [go_sem]), (hk.frozen (p := ⟨w.heap.size, 0, none⟩) (by first | (simp; done) | (simp; omega))).trans (by simp [go_sem]), (hk.cell (p := ⟨w.heap.size, 1, none⟩) (by first | (simp; done) | (simp; omega))).trans (by simp [go_sem]), (hk.frozen (p := ⟨w.heap.size, 1, none⟩) (by first | (simp; done) | (simp; omega))).trans (by simp [go_sem]), (hk.cell (p := ⟨w.heap.size, 2, none⟩) (by first | (simp; done) | (simp; omega))).trans (by simp [go_sem]), (hk.frozen (p := ⟨w.heap.size, 2, none⟩) (by first | (simp; done) | (simp; omega))).trans (by simp [go_sem]), (hk.cell (p := ⟨w.heap.size + 1, 0, none⟩) (by first | (simp; done) | (simp; omega))).trans (by simp [go_sem]), (hk.frozen (p := ⟨w.heap.size + 1, 0, none⟩) (by first | (simp; done) | (simp; omega))).trans (by simp [go_sem]), (hk.cell (p := ⟨w.heap.size + 1, 1, none⟩) (by first | (simp; done) | (simp; omega))).trans (by simp [go_sem]), (hk.frozen (p := ⟨w.heap.size + 1, 1, none⟩) (by first | (simp; done) | (simp; omega))).trans (by simp [go_sem])⟩)
  have HB := Lib.hid (show Keeps w ((w.alloc (.cells #[.slice A1 M.length c1, .slice A2 (segs cl M).length c2, .int .i64 (lng (segs cl M))] 54)).alloc (.cells #[.int .i64 0, .int .i64 0] 50)) from (by (repeat (first | (with_reducible exact Keeps.refl _) | (with_reducible assumption) | (with_reducible refine Keeps.drewN ?_ _) | (with_reducible refine Keeps.drew ?_) | (with_reducible refine Keeps.alloc ?_ _) | (with_reducible refine Keeps.setNew ?_ ?_ _))) <;> (dsimp only; omega)))
  have hk0 := Keeps.refl ((w.alloc (.cells #[.slice A1 M.length c1, .slice A2 (segs cl M).length c2, .int .i64 (lng (segs cl M))] 54)).alloc (.cells #[.int .i64 0, .int .i64 0] 50))
  obtain ⟨hm1, hkm⟩ := segs_pos hk
  have HP := Lib.hid hP
  have HI := Lib.hid hI
  have HG := Lib.hid (fun j (h : j < (segs cl M).length) => ats_get (segs cl M) j h)
  have HN := Lib.hid (fun j (h : j < (segs cl M).length) => lng_take_succ (segs cl M) j h)
  have HF := Lib.hid (fun j (h : j < (segs cl M).length) h1 h2 => ptF_at (segs cl M) j a h h1 h2)
  have HT := Lib.hid (List.take_length (l := segs cl M))
  have HQ := Lib.hid (fun j (h : j < (segs cl M).length) => segs_get cl M j h)
  have hlb := lng_bd (segs cl M)
  have HB2 := Lib.hid (fun j => lng_bd ((segs cl M).take j))
  have HMo := Lib.hid (lng_take_mono (segs cl M))
  clear hP hI
  generalize hS : segs cl M = S at *
  clear hS
  generalize hkk : S.length = k at *
  obtain ⟨q, hq1⟩ : ∃ q : Nat, (k : Int) - 1 = q := ⟨k - 1, by omega⟩
  have hwq : IntKind.i64.wrap (q : Int) = q := i64_in _ (by omega)
  generalize hlS : lng S = lS at *
  replace hkk := Lib.hid hkk
  replace hlS := Lib.hid hlS
  go_enter Try.func56, Try.ntmps56
  obtain ⟨y0, y1, y2, y3, y4, y5, y6, y7, y8, y9⟩ := HS.out _ hk0
  go_wp2_with fail
  clear y0 y1 y2 y3 y4 y5 y6 y7 y8 y9
  go_loopw [5] (fun i wr => ∃ j : Nat, i = .int .i64 j ∧ j < k ∧ Hid (∀ p, j < p → p < k → a < lng (S.take p)) ∧ Keeps ((w.alloc (.cells #[.slice A1 M.length c1, .slice A2 k c2, .int .i64 lS] 54)).alloc (.cells #[.int .i64 0, .int .i64 0] 50)) wr) (fun i _ => (intOf i).toNat)
  case atStart => exact ⟨q, rfl, by omega, Lib.hid (fun p h1 h2 => by omega), hk0⟩
  case round =>
    obtain ⟨j, rfl, hj, hR, hkw⟩ := hrel
    obtain ⟨y0, y1, y2, y3, y4, y5, y6, y7, y8, y9⟩ := HS.out _ hkw
    obtain ⟨b2, o2, rfl, hb2, hc2⟩ := HI.out.at hj
    rw [HG.out j hj] at hc2
    have c2' := ((HB.out.trans hkw).cell (p := ⟨b2, o2 + j, none⟩) hb2).trans hc2
    have hji : (j : Int) < k := by omega
    have hlv := HB2.out j
    have hlv2 := HMo.out j (j + 1) (by omega)
    have hlt9 : (S.take j).length ≤ 1000000 := by rw [List.length_take]; have := hkk.out; omega
    by_cases hgo : 0 < j ∧ a < lng (S.take j)
    · obtain ⟨g1, g2⟩ := hgo
      have g1i : (0 : Int) < j := by omega
      obtain ⟨q2, hq3⟩ : ∃ q2 : Nat, (j : Int) - 1 = q2 := ⟨j - 1, by omega⟩
      have hwq2 : IntKind.i64.wrap (q2 : Int) = q2 := i64_in _ (by omega)
      generalize hlj : lng (S.take j) = lv at *
      replace hlj := Lib.hid hlj
      go_wp2_with fail
      go_roundw
      case rel => exact ⟨q2, rfl, by omega, Lib.hid (fun p h1 h2 => by
        by_cases hp : p = j
        · rw [hp, hlj.out]; exact g2
        · exact hR.out p (by omega) h2), hkw⟩
      case measure => simp [intOf]; omega
    · have hsg := HQ.out j hj
      have hp1 : (j + 1) % M.length < M.length := Nat.mod_lt _ (by omega)
      obtain ⟨b, o, rfl, hb, hx⟩ := HP.out.2.2.2.2 (by omega)
      obtain ⟨d0, d1⟩ := hx j (by omega)
      obtain ⟨d2, d3⟩ := hx _ hp1
      have hpm : ((j : Int) + 1).tmod M.length = ((j + 1) % M.length : Nat) := by rw [Int.tmod_eq_emod_of_nonneg (by omega)]; rfl
      have hmz : ((M.length : Int) == 0) = false := (by simp only [beq_eq_false_iff_ne]; omega)
      have hp1i : (((j + 1) % M.length : Nat) : Int) < M.length := Int.ofNat_lt.2 hp1
      have hjm : (j : Int) < M.length := by omega
      have hnx := HN.out j hj
      have hls := lenS_bd (S.getD j sg0)
      have hR2 := Lib.hid (show ptF S a = lerpS (S.getD j sg0) (a - lng (S.take j)) from HF.out j hj (by omega) (fun h => hR.out (j + 1) (by omega) h))
      have hR3 := Lib.hid (show ptA (lerpS (S.getD j sg0) (a - lng (S.take j))) = .agg #[.int .i64 (lerpI (M.getD j pt0).1 (M.getD ((j + 1) % M.length) pt0).1 (a - lng (S.take j)) (lenS (S.getD j sg0))), .int .i64 (lerpI (M.getD j pt0).2 (M.getD ((j + 1) % M.length) pt0).2 (a - lng (S.take j)) (lenS (S.getD j sg0)))] by
        unfold lerpS ptA; rw [hsg]; rfl)
      have hend := Lib.hid (show j + 1 = k → lng (S.take (j + 1)) = lS from fun h => by rw [h, HT.out, hlS.out])
      have hR := Lib.hid (show ptA (ptF S a) = _ from (congrArg ptA hR2.out).trans hR3.out)
      clear hR2 hR3 hsg hx hmz hp1i hjm
      have hmz : ((M.length : Int) == 0) = false := (by simp only [beq_eq_false_iff_ne]; omega)
      have hp1i : (((j + 1) % M.length : Nat) : Int) < M.length := Int.ofNat_lt.2 hp1
      have hjm : (j : Int) < M.length := by omega
      generalize M.getD j pt0 = pa at *
      generalize M.getD ((j + 1) % M.length) pt0 = pb at *
      generalize (j + 1) % M.length = p at *
      generalize lenS (S.getD j sg0) = ls at *
      generalize hlj : lng (S.take j) = lv at *
      generalize hlj1 : lng (S.take (j + 1)) = lv1 at *
      have hdi : lv1 - lv = ls := by omega
      clear hnx
      have z0 := fun k : KW ((w.alloc (.cells #[.slice (some ⟨b, o, none⟩) M.length c1, .slice (some ⟨b2, o2, none⟩) k c2, .int .i64 lS] 54)).alloc (.cells #[.int .i64 0, .int .i64 0] 50)) => (HS.out _ k.keeps).1
      have z1 := fun k : KW ((w.alloc (.cells #[.slice (some ⟨b, o, none⟩) M.length c1, .slice (some ⟨b2, o2, none⟩) k c2, .int .i64 lS] 54)).alloc (.cells #[.int .i64 0, .int .i64 0] 50)) => (HS.out _ k.keeps).2.2.1
      have z2 := fun k : KW ((w.alloc (.cells #[.slice (some ⟨b, o, none⟩) M.length c1, .slice (some ⟨b2, o2, none⟩) k c2, .int .i64 lS] 54)).alloc (.cells #[.int .i64 0, .int .i64 0] 50)) => ((HB.out.trans k.keeps).cell (p := ⟨b2, o2 + j, none⟩) hb2).trans hc2
      have z3 := fun k : KW ((w.alloc (.cells #[.slice (some ⟨b, o, none⟩) M.length c1, .slice (some ⟨b2, o2, none⟩) k c2, .int .i64 lS] 54)).alloc (.cells #[.int .i64 0, .int .i64 0] 50)) => ((HB.out.trans k.keeps).cell (p := ⟨b, o + j * 2, none⟩) hb).trans d0
      have z4 := fun k : KW ((w.alloc (.cells #[.slice (some ⟨b, o, none⟩) M.length c1, .slice (some ⟨b2, o2, none⟩) k c2, .int .i64 lS] 54)).alloc (.cells #[.int .i64 0, .int .i64 0] 50)) => ((HB.out.trans k.keeps).cell (p := ⟨b, o + j * 2 + 1, none⟩) hb).trans d1
      have z5 := fun k : KW ((w.alloc (.cells #[.slice (some ⟨b, o, none⟩) M.length c1, .slice (some ⟨b2, o2, none⟩) k c2, .int .i64 lS] 54)).alloc (.cells #[.int .i64 0, .int .i64 0] 50)) => ((HB.out.trans k.keeps).cell (p := ⟨b, o + p * 2, none⟩) hb).trans d2
      have z6 := fun k : KW ((w.alloc (.cells #[.slice (some ⟨b, o, none⟩) M.length c1, .slice (some ⟨b2, o2, none⟩) k c2, .int .i64 lS] 54)).alloc (.cells #[.int .i64 0, .int .i64 0] 50)) => ((HB.out.trans k.keeps).cell (p := ⟨b, o + p * 2 + 1, none⟩) hb).trans d3
      have HL1 := Lib.hid (fun k : KW ((w.alloc (.cells #[.slice (some ⟨b, o, none⟩) M.length c1, .slice (some ⟨b2, o2, none⟩) k c2, .int .i64 lS] 54)).alloc (.cells #[.int .i64 0, .int .i64 0] 50)) => keepq (lerp_any pa.1 pa.2 pb.1 pb.2 (a - lv) ls k.w))
      clear hc2 d0 d1 d2 d3 hlj
      replace hlj1 := Lib.hid hlj1
      have hwi : IntKind.i64.wrap (a - lv) = a - lv := i64_in _ (by omega)
      have hj1w : IntKind.i64.wrap ((j : Int) + 1) = (j : Int) + 1 := i64_in _ (by omega)
      by_cases hjk : j + 1 < k
      · obtain ⟨_, _, hA, _, hc3⟩ := HI.out.at hjk
        cases hA
        rw [HG.out (j + 1) hjk] at hc3
        rw [hlj1.out] at hc3
        have c3 := ((HB.out.trans hkw).cell (p := ⟨b2, o2 + (j + 1), none⟩) hb2).trans hc3
        have hjki : (j : Int) + 1 < k := by omega
        clear hc3
        by_cases hj0 : 0 < j
        · have hj0i : (0 : Int) < j := by omega
          have hal : ¬ a < lv := fun h => hgo ⟨hj0, h⟩
          go_wp2_with fail
          refine wp_region_kept_tail 30 (((w.alloc (.cells #[.slice (some ⟨b, o, none⟩) M.length c1, .slice (some ⟨b2, o2, none⟩) k c2, .int .i64 lS] 54)).alloc (.cells #[.int .i64 0, .int .i64 0] 50))) (by kernel_rfl) (by kernel_rfl) (hkw) ?_
          simp only [List.take_succ_cons, List.take_zero, List.drop_succ_cons, List.drop_zero]
          repeat (first | go_big_quiet_skip | (go_big_quiet_want; go_big_quiet_op; first | go_big_quiet_on | go_big_quiet_call ((go_at_call 67; first | (with_reducible exact HL1.out _)))))
          refine wpQuiet_nil ?_
          rintro w' ⟨k9, rfl⟩
          have hk := k9.keeps
          generalize k9.w = w9 at hk ⊢
          clear k9
          obtain ⟨y0, y1, y2, y3, y4, y5, y6, y7, y8, y9⟩ := HS.out _ hk
          clear z0 z1 z2 z3 z4 z5 z6 HL1
          go_wp2_with fail
          refine bodyPost_ret (v := .agg #[.int .i64 (lerpI pa.1 pb.1 (a - lv) ls), .int .i64 (lerpI pa.2 pb.2 (a - lv) ls)]) (by simp [results, Try.results56, go_sem, *]) rfl ⟨?_, ((HB.out.trans hk).setNew (by dsimp only; omega) _).setNew (by dsimp only; omega) _⟩
          rw [hR.out]

        · have hj0i : ¬ (0 : Int) < j := by omega
          go_wp2_with fail
          refine wp_region_kept_tail 30 (((w.alloc (.cells #[.slice (some ⟨b, o, none⟩) M.length c1, .slice (some ⟨b2, o2, none⟩) k c2, .int .i64 lS] 54)).alloc (.cells #[.int .i64 0, .int .i64 0] 50))) (by kernel_rfl) (by kernel_rfl) (hkw) ?_
          simp only [List.take_succ_cons, List.take_zero, List.drop_succ_cons, List.drop_zero]
          repeat (first | go_big_quiet_skip | (go_big_quiet_want; go_big_quiet_op; first | go_big_quiet_on | go_big_quiet_call ((go_at_call 67; first | (with_reducible exact HL1.out _)))))
          refine wpQuiet_nil ?_
          rintro w' ⟨k9, rfl⟩
          have hk := k9.keeps
          generalize k9.w = w9 at hk ⊢
          clear k9
          obtain ⟨y0, y1, y2, y3, y4, y5, y6, y7, y8, y9⟩ := HS.out _ hk
          clear z0 z1 z2 z3 z4 z5 z6 HL1
          go_wp2_with fail
          refine bodyPost_ret (v := .agg #[.int .i64 (lerpI pa.1 pb.1 (a - lv) ls), .int .i64 (lerpI pa.2 pb.2 (a - lv) ls)]) (by simp [results, Try.results56, go_sem, *]) rfl ⟨?_, ((HB.out.trans hk).setNew (by dsimp only; omega) _).setNew (by dsimp only; omega) _⟩
          rw [hR.out]

      · have hjki : ¬ ((j : Int) + 1 < k) := by omega
        obtain rfl : lv1 = lS := hend.out (by omega)
        by_cases hj0 : 0 < j
        · have hj0i : (0 : Int) < j := by omega
          have hal : ¬ a < lv := fun h => hgo ⟨hj0, h⟩
          go_wp2_with fail
          refine wp_region_kept_tail 30 (((w.alloc (.cells #[.slice (some ⟨b, o, none⟩) M.length c1, .slice (some ⟨b2, o2, none⟩) k c2, .int .i64 lv1] 54)).alloc (.cells #[.int .i64 0, .int .i64 0] 50))) (by kernel_rfl) (by kernel_rfl) (hkw) ?_
          simp only [List.take_succ_cons, List.take_zero, List.drop_succ_cons, List.drop_zero]
          repeat (first | go_big_quiet_skip | (go_big_quiet_want; go_big_quiet_op; first | go_big_quiet_on | go_big_quiet_call ((go_at_call 67; first | (with_reducible exact HL1.out _)))))
          refine wpQuiet_nil ?_
          rintro w' ⟨k9, rfl⟩
          have hk := k9.keeps
          generalize k9.w = w9 at hk ⊢
          clear k9
          obtain ⟨y0, y1, y2, y3, y4, y5, y6, y7, y8, y9⟩ := HS.out _ hk
          clear z0 z1 z2 z3 z4 z5 z6 HL1
          go_wp2_with fail
          refine bodyPost_ret (v := .agg #[.int .i64 (lerpI pa.1 pb.1 (a - lv) ls), .int .i64 (lerpI pa.2 pb.2 (a - lv) ls)]) (by simp [results, Try.results56, go_sem, *]) rfl ⟨?_, ((HB.out.trans hk).setNew (by dsimp only; omega) _).setNew (by dsimp only; omega) _⟩
          rw [hR.out]

        · have hj0i : ¬ (0 : Int) < j := by omega
          go_wp2_with fail
          refine wp_region_kept_tail 30 (((w.alloc (.cells #[.slice (some ⟨b, o, none⟩) M.length c1, .slice (some ⟨b2, o2, none⟩) k c2, .int .i64 lv1] 54)).alloc (.cells #[.int .i64 0, .int .i64 0] 50))) (by kernel_rfl) (by kernel_rfl) (hkw) ?_
          simp only [List.take_succ_cons, List.take_zero, List.drop_succ_cons, List.drop_zero]
          repeat (first | go_big_quiet_skip | (go_big_quiet_want; go_big_quiet_op; first | go_big_quiet_on | go_big_quiet_call ((go_at_call 67; first | (with_reducible exact HL1.out _)))))
          refine wpQuiet_nil ?_
          rintro w' ⟨k9, rfl⟩
          have hk := k9.keeps
          generalize k9.w = w9 at hk ⊢
          clear k9
          obtain ⟨y0, y1, y2, y3, y4, y5, y6, y7, y8, y9⟩ := HS.out _ hk
          clear z0 z1 z2 z3 z4 z5 z6 HL1
          go_wp2_with fail
          refine bodyPost_ret (v := .agg #[.int .i64 (lerpI pa.1 pb.1 (a - lv) ls), .int .i64 (lerpI pa.2 pb.2 (a - lv) ls)]) (by simp [results, Try.results56, go_sem, *]) rfl ⟨?_, ((HB.out.trans hk).setNew (by dsimp only; omega) _).setNew (by dsimp only; omega) _⟩
          rw [hR.out]

end Go.Proofs.Ytihmhpleiefodaa
