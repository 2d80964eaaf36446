/- DashPeriod of grisaillelaw25 returns true for all its arguments: every stroke style and every distance; no condition. -/
import Derived.Test.YtihmhpleiefodaaE25
import Derived.Test.YtihmhpleiefodaaOp
import Derived.Test.YtihmhpleiefodaaOz
namespace Go.Proofs.Ytihmhpleiefodaa.dashPeriod
open Go.RowKit Go.ChangeShapes Go.WideShapes Go.ChangeAt
set_option linter.unusedVariables false
open Go.Proofs.Ytihmhpleiefodaa
attribute [local go_sem ↓] Go.wp_at_zero Go.wp_at_succ
set_option linter.unusedSimpArgs false
/-- The sum of the first k entries. -/
def sumS (D : List Int) (k : Nat) : Int := sumP 0 D k + sumP 1 D k
theorem sumS_succ (D : List Int) (k : Nat) : sumS D (k + 1) = sumS D k + D.getD k 0 := by
  unfold sumS
  rw [sumP_succ, sumP_succ]
  rcases Nat.mod_two_eq_zero_or_one k with e | e
  · rw [if_pos e, if_neg (by omega)]; omega
  · rw [if_neg (by omega), if_pos e]; omega
theorem tot_sumS (D : List Int) : totD D = 256 * sumS D D.length := sumP_two _
theorem onI_dist (D : List Int) (ph a : Int) : onI D ph (a + 256 * sumS D D.length) = onI D ph a := by
  unfold onI
  rw [posK_eq, posK_eq, ← tot_sumS, show a + totD D + 256 * ph = (a + 256 * ph) + totD D by omega, Int.add_emod_right]
theorem onI_phase (D : List Int) (ph a : Int) : onI D (ph + sumS D D.length) a = onI D ph a := by
  unfold onI
  rw [posK_eq, posK_eq, Int.mul_add, ← tot_sumS, ← Int.add_assoc, Int.add_emod_right]
theorem stB_phase {wd jn cp ml ph ph' : Int} {D : List Int} (h : stB wd jn cp ml ph D = true) (h0 : 0 ≤ ph') (h1 : ph' ≤ 1048576) : stB wd jn cp ml ph' D = true := by
  unfold stB at *
  simp only [Bool.and_eq_true, decide_eq_true_eq] at *
  exact ⟨⟨h.1.1, h0⟩, h1⟩
set_option maxRecDepth 100000 in
set_option maxHeartbeats 2000000 in
theorem walk (wd jn cp ml ph : Int) (A : Option Addr) (n c : Nat) (D : List Int) (at' : Int) (w : World) (h : Ins w A n c D) (hB : i64b wd ∧ i64b jn ∧ i64b cp ∧ i64b ml ∧ i64b ph) (a0 : -9223372036854775808 ≤ at') (a1 : at' ≤ 9223372036854775807) :
    Calls Try.prog 6 #[.agg #[.int .i64 wd, .int .i64 jn, .int .i64 cp, .int .i64 ml, .slice A n c, .int .i64 ph], .int .i64 at'] w fun e w' => e = .returned (.bool true) ∧ Below w.heap.size w w' := by
  have hl := h.1
  have HS := Lib.hid (show ∀ w', Keeps (w.alloc (.cells #[.int .i64 wd, .int .i64 jn, .int .i64 cp, .int .i64 ml, .slice A n c, .int .i64 ph] 27)) w' → w'.cell? ⟨w.heap.size, 0, none⟩ = some (.int .i64 wd) ∧ w'.frozen? ⟨w.heap.size, 0, none⟩ = false ∧ w'.cell? ⟨w.heap.size, 1, none⟩ = some (.int .i64 jn) ∧ w'.frozen? ⟨w.heap.size, 1, none⟩ = false ∧ w'.cell? ⟨w.heap.size, 2, none⟩ = some (.int .i64 cp) ∧ w'.frozen? ⟨w.heap.size, 2, none⟩ = false ∧ w'.cell? ⟨w.heap.size, 3, none⟩ = some (.int .i64 ml) ∧ w'.frozen? ⟨w.heap.size, 3, none⟩ = false ∧ w'.cell? ⟨w.heap.size, 4, none⟩ = some (.slice A n c) ∧ w'.frozen? ⟨w.heap.size, 4, none⟩ = false ∧ w'.cell? ⟨w.heap.size, 5, none⟩ = some (.int .i64 ph) ∧ w'.frozen? ⟨w.heap.size, 5, none⟩ = false from fun w' hk => ⟨(hk.cell (p := ⟨w.heap.size, 0, none⟩) (by first | (simp; done) | (simp; omega))).trans (by simp [go_sem]), (hk.frozen (p := ⟨w.heap.size, 0, none⟩) (by first | (simp; done) | (simp; omega))).trans (by simp [go_sem]), (hk.cell (p := ⟨w.heap.size, 1, none⟩) (by first | (simp; done) | (simp; omega))).trans (by simp [go_sem]), (hk.frozen (p := ⟨w.heap.size, 1, none⟩) (by first | (simp; done) | (simp; omega))).trans (by simp [go_sem]), (hk.cell (p := ⟨w.heap.size, 2, none⟩) (by first | (simp; done) | (simp; omega))).trans (by simp [go_sem]), (hk.frozen (p := ⟨w.heap.size, 2, none⟩) (by first | (simp; done) | (simp; omega))).trans (by simp [go_sem]), (hk.cell (p := ⟨w.heap.size, 3, none⟩) (by first | (simp; done) | (simp; omega))).trans (by simp [go_sem]), (hk.frozen (p := ⟨w.heap.size, 3, none⟩) (by first | (simp; done) | (simp; omega))).trans (by simp [go_sem]), (hk.cell (p := ⟨w.heap.size, 4, none⟩) (by first | (simp; done) | (simp; omega))).trans (by simp [go_sem]), (hk.frozen (p := ⟨w.heap.size, 4, none⟩) (by first | (simp; done) | (simp; omega))).trans (by simp [go_sem]), (hk.cell (p := ⟨w.heap.size, 5, none⟩) (by first | (simp; done) | (simp; omega))).trans (by simp [go_sem]), (hk.frozen (p := ⟨w.heap.size, 5, none⟩) (by first | (simp; done) | (simp; omega))).trans (by simp [go_sem])⟩)
  have HB := Lib.hid (show Keeps w (w.alloc (.cells #[.int .i64 wd, .int .i64 jn, .int .i64 cp, .int .i64 ml, .slice A n c, .int .i64 ph] 27)) from (by (repeat (first | (with_reducible exact Keeps.refl _) | (with_reducible assumption) | (with_reducible refine Keeps.drewN ?_ _) | (with_reducible refine Keeps.drew ?_) | (with_reducible refine Keeps.alloc ?_ _) | (with_reducible refine Keeps.setNew ?_ ?_ _))) <;> (dsimp only; omega)))
  have hk0 := Keeps.refl (w.alloc (.cells #[.int .i64 wd, .int .i64 jn, .int .i64 cp, .int .i64 ml, .slice A n c, .int .i64 ph] 27))
  have KV := Lib.hid (fun w' (hk : Keeps (w.alloc (.cells #[.int .i64 wd, .int .i64 jn, .int .i64 cp, .int .i64 ml, .slice A n c, .int .i64 ph] 27)) w') => keepk (rstyle_any wd jn cp ml ph A n c D w' (h.keep (HB.out.trans hk))) hk)
  have KX := Lib.hid example25_any
  have HI := Lib.hid h
  clear h hB
  by_cases hsh : stB wd jn cp ml ph D = false
  · rw [hsh] at KV
    clear hsh
    go_enter Try.func6, Try.ntmps6
    obtain ⟨y0, y1, y2, y3, y4, y5, y6, y7, y8, y9, y10, y11⟩ := HS.out _ hk0
    go_wp2_with (first | (go_at_call 18; (with_reducible refine (KV.out _ hk0).mono ?_); rintro e w1 ⟨rfl, hk1⟩; obtain ⟨z0, z1, z2, z3, z4, z5, z6, z7, z8, z9, z10, z11⟩ := HS.out _ hk1) | (go_at_call 11; (with_reducible refine (KX.out _).mono ?_); rintro e w2 ⟨rfl, hk2⟩))
    go_ret
    exact ⟨rfl, (HB.out.trans hk1).trans hk2⟩
  · have hs : stB wd jn cp ml ph D = true := by cases hq : stB wd jn cp ml ph D with
      | false => exact absurd hq hsh
      | true => rfl
    rw [hs] at KV
    clear hsh
    by_cases hx1 : at' < 0
    · clear hs
      go_enter Try.func6, Try.ntmps6
      obtain ⟨y0, y1, y2, y3, y4, y5, y6, y7, y8, y9, y10, y11⟩ := HS.out _ hk0
      go_wp2_with (first | (go_at_call 18; (with_reducible refine (KV.out _ hk0).mono ?_); rintro e w1 ⟨rfl, hk1⟩; obtain ⟨z0, z1, z2, z3, z4, z5, z6, z7, z8, z9, z10, z11⟩ := HS.out _ hk1) | (go_at_call 11; (with_reducible refine (KX.out _).mono ?_); rintro e w2 ⟨rfl, hk2⟩))
      go_ret
      exact ⟨rfl, (HB.out.trans hk1).trans hk2⟩
    · by_cases hx2 : 1099511627776 < at'
      · clear hs
        go_enter Try.func6, Try.ntmps6
        obtain ⟨y0, y1, y2, y3, y4, y5, y6, y7, y8, y9, y10, y11⟩ := HS.out _ hk0
        go_wp2_with (first | (go_at_call 18; (with_reducible refine (KV.out _ hk0).mono ?_); rintro e w1 ⟨rfl, hk1⟩; obtain ⟨z0, z1, z2, z3, z4, z5, z6, z7, z8, z9, z10, z11⟩ := HS.out _ hk1) | (go_at_call 11; (with_reducible refine (KX.out _).mono ?_); rintro e w2 ⟨rfl, hk2⟩))
        go_ret
        exact ⟨rfl, (HB.out.trans hk1).trans hk2⟩
      · by_cases hx3 : n = 0
        · subst hx3
          clear hs
          go_enter Try.func6, Try.ntmps6
          obtain ⟨y0, y1, y2, y3, y4, y5, y6, y7, y8, y9, y10, y11⟩ := HS.out _ hk0
          go_wp2_with (first | (go_at_call 18; (with_reducible refine (KV.out _ hk0).mono ?_); rintro e w1 ⟨rfl, hk1⟩; obtain ⟨z0, z1, z2, z3, z4, z5, z6, z7, z8, z9, z10, z11⟩ := HS.out _ hk1) | (go_at_call 11; (with_reducible refine (KX.out _).mono ?_); rintro e w2 ⟨rfl, hk2⟩))
          go_ret
          exact ⟨rfl, (HB.out.trans hk1).trans hk2⟩
        · have hnz : ((n : Int) == 0) = false := by simp only [beq_eq_false_iff_ne]; omega
          obtain ⟨hdb, p0, p1⟩ := stB_ok hs
          obtain ⟨hok, hev, h16, hpos⟩ := dashB_ok hdb
          have HO := Lib.hid hok
          have hs9 := Lib.hid hs
          have hd1 := Lib.hid (onI_dist D ph at')
          have hd2 := Lib.hid (onI_phase D ph at')
          clear hs hok hdb hev hpos
          go_enter Try.func6, Try.ntmps6
          obtain ⟨y0, y1, y2, y3, y4, y5, y6, y7, y8, y9, y10, y11⟩ := HS.out _ hk0
          go_wp2_with (go_at_call 18; (with_reducible refine (KV.out _ hk0).mono ?_); rintro e w1 ⟨rfl, hk1⟩; clear y0 y1 y2 y3 y4 y5 y6 y7 y8 y9 y10 y11; obtain ⟨y0, y1, y2, y3, y4, y5, y6, y7, y8, y9, y10, y11⟩ := HS.out _ hk1)
          clear y0 y1 y2 y3 y4 y5 y6 y7 y8 y9 y10 y11
          go_loopw [5, 6] (fun s i wr => ∃ j : Nat, j ≤ n ∧ i = .int .i64 j ∧ s = .int .i64 (sumS D j) ∧ Keeps (w.alloc (.cells #[.int .i64 wd, .int .i64 jn, .int .i64 cp, .int .i64 ml, .slice A n c, .int .i64 ph] 27)) wr) (fun _ i _ => n - (intOf i).toNat)
          case atStart => exact ⟨0, by omega, rfl, rfl, hk1⟩
          case round =>
            obtain ⟨j, hj, rfl, rfl, hkw⟩ := hrel
            obtain ⟨y0, y1, y2, y3, y4, y5, y6, y7, y8, y9, y10, y11⟩ := HS.out _ hkw
            by_cases hlt : j < n
            · obtain ⟨b, o, rfl, hb, hc⟩ := HI.out.at hlt
              have c0 := ((HB.out.trans hkw).cell (p := ⟨b, o + j, none⟩) hb).trans hc
              have hd := HO.out j
              have hS0 := sumP_bd HO.out 0 j
              have hS1 := sumP_bd HO.out 1 j
              have hSS : sumS D j = sumP 0 D j + sumP 1 D j := rfl
              have hSb : 0 ≤ sumS D j ∧ sumS D j ≤ 100000000 := by omega
              have hR := Lib.hid (sumS_succ D j)
              have hlt2 : (j : Int) < n := by omega
              clear hc hS0 hS1 hSS
              generalize D.getD j 0 = d at *
              generalize sumS D j = s at *
              go_wp2_with fail
              go_roundw
              case rel => exact ⟨j + 1, by omega, by go_num, by rw [hR.out], hkw⟩
              case measure => simp [intOf]; omega
            · obtain rfl : j = n := by omega
              have hS0 := sumP_bd HO.out 0 j
              have hS1 := sumP_bd HO.out 1 j
              have hSS : sumS D j = sumP 0 D j + sumP 1 D j := rfl
              have hSb : 0 ≤ sumS D j ∧ sumS D j ≤ 100000000 := by omega
              rw [hl] at hd1 hd2
              clear hS0 hS1 hSS
              generalize sumS D j = s at *
              have hB1 : w.heap.size < wr.heap.size := by have := hkw.size; simp at this; omega
              go_upto_region 10 with fail
              have b7 := BoxN.new wr 27 #[.int .i64 wd, .int .i64 jn, .int .i64 cp, .int .i64 ml, .slice A j c, .int .i64 (ph + s)]
              have hk9 := hkw.alloc (.cells #[.int .i64 wd, .int .i64 jn, .int .i64 cp, .int .i64 ml, .slice A j c, .int .i64 (ph + s)] 27)
              obtain ⟨W3, hW3⟩ : ∃ W3, wr.alloc (.cells #[.int .i64 wd, .int .i64 jn, .int .i64 cp, .int .i64 ml, .slice A j c, .int .i64 (ph + s)] 27) = W3 := ⟨_, rfl⟩
              rw [hW3] at b7 hk9 ⊢
              clear hW3 hkw hB1 hk1 KV
              generalize wr.heap.size = H at *
              have hb0 : isOnB wd jn cp ml ph D (at' + 256 * s) = isOnB wd jn cp ml ph D at' := by
                unfold isOnB
                rw [hd1.out, decide_eq_true (show 0 ≤ at' by omega), decide_eq_true (show 0 ≤ at' + 256 * s by omega)]
              have K1 := Lib.hid (fun k : KW W3 => keepq (ison_any wd jn cp ml ph A j c D (at' + 256 * s) k.w (HI.out.keep (HB.out.trans (hk9.trans k.keeps))) (by omega)))
              have K2 := Lib.hid (fun k : KW W3 => keepq (ison_any wd jn cp ml ph A j c D at' k.w (HI.out.keep (HB.out.trans (hk9.trans k.keeps))) (by omega)))
              have K9 := Lib.hid (fun k : KW W3 => keepq (example25_any k.w))
              rw [hb0] at K1
              have z0 := fun k : KW W3 => (show k.w.cell? ⟨w.heap.size, 0, none⟩ = some (.int .i64 wd) from (HS.out _ (hk9.trans k.keeps)).1)
              have z1 := fun k : KW W3 => (show k.w.cell? ⟨w.heap.size, 1, none⟩ = some (.int .i64 jn) from (HS.out _ (hk9.trans k.keeps)).2.2.1)
              have z2 := fun k : KW W3 => (show k.w.cell? ⟨w.heap.size, 2, none⟩ = some (.int .i64 cp) from (HS.out _ (hk9.trans k.keeps)).2.2.2.2.1)
              have z3 := fun k : KW W3 => (show k.w.cell? ⟨w.heap.size, 3, none⟩ = some (.int .i64 ml) from (HS.out _ (hk9.trans k.keeps)).2.2.2.2.2.2.1)
              have z4 := fun k : KW W3 => (show k.w.cell? ⟨w.heap.size, 4, none⟩ = some (.slice A j c) from (HS.out _ (hk9.trans k.keeps)).2.2.2.2.2.2.2.2.1)
              have z5 := fun k : KW W3 => (show k.w.cell? ⟨w.heap.size, 5, none⟩ = some (.int .i64 ph) from (HS.out _ (hk9.trans k.keeps)).2.2.2.2.2.2.2.2.2.2.1)
              have z6 := fun k : KW W3 => (show k.w.cell? ⟨H, 0, none⟩ = some (.int .i64 wd) from ((b7.keep k.keeps).cell 0).trans rfl)
              have z7 := fun k : KW W3 => (show k.w.cell? ⟨H, 1, none⟩ = some (.int .i64 jn) from ((b7.keep k.keeps).cell 1).trans rfl)
              have z8 := fun k : KW W3 => (show k.w.cell? ⟨H, 2, none⟩ = some (.int .i64 cp) from ((b7.keep k.keeps).cell 2).trans rfl)
              have z9 := fun k : KW W3 => (show k.w.cell? ⟨H, 3, none⟩ = some (.int .i64 ml) from ((b7.keep k.keeps).cell 3).trans rfl)
              have z10 := fun k : KW W3 => (show k.w.cell? ⟨H, 4, none⟩ = some (.slice A j c) from ((b7.keep k.keeps).cell 4).trans rfl)
              have z11 := fun k : KW W3 => (show k.w.cell? ⟨H, 5, none⟩ = some (.int .i64 (ph + s)) from ((b7.keep k.keeps).cell 5).trans rfl)
              by_cases hph : 1048576 < ph + s
              · clear hd1 hd2 hb0
                generalize isOnB wd jn cp ml ph D at' = b at *
                have q1 : (b == b) = true := beq_self_eq_true _
                refine wp_region_kept (W3) (by kernel_rfl) (by kernel_rfl) (Keeps.refl _) ?_
                repeat (first | go_big_quiet_skip | (go_big_quiet_want; go_big_quiet_op; first | go_big_quiet_on | go_big_quiet_call ((first | (go_at_call 14; first | (with_reducible exact K1.out _) | (with_reducible exact K2.out _)) | (go_at_call 11; first | (with_reducible exact K9.out _))))))
                refine wpQuiet_nil ?_
                rintro w' ⟨k9, rfl⟩
                have hk := k9.keeps
                generalize k9.w = w9 at hk ⊢
                clear k9
                go_wp2_with fail
                go_ret
                exact ⟨rfl, (HB.out.trans hk9).trans hk⟩
              · have hb1 : isOnB wd jn cp ml (ph + s) D at' = isOnB wd jn cp ml ph D at' := by
                  unfold isOnB
                  rw [hd2.out, hs9.out, stB_phase hs9.out (by omega) (by omega)]
                have K3 := Lib.hid (fun k : KW W3 => keepq (ison_any wd jn cp ml (ph + s) A j c D at' k.w (HI.out.keep (HB.out.trans (hk9.trans k.keeps))) (by omega)))
                rw [hb1] at K3
                clear hd1 hd2 hb0 hb1
                generalize isOnB wd jn cp ml ph D at' = b at *
                have q1 : (b == b) = true := beq_self_eq_true _
                refine wp_region_kept (W3) (by kernel_rfl) (by kernel_rfl) (Keeps.refl _) ?_
                repeat (first | go_big_quiet_skip | (go_big_quiet_want; go_big_quiet_op; first | go_big_quiet_on | go_big_quiet_call ((first | (go_at_call 14; first | (with_reducible exact K1.out _) | (with_reducible exact K2.out _) | (with_reducible exact K3.out _)) | (go_at_call 11; first | (with_reducible exact K9.out _))))))
                refine wpQuiet_nil ?_
                rintro w' ⟨k9, rfl⟩
                have hk := k9.keeps
                generalize k9.w = w9 at hk ⊢
                clear k9
                go_wp2_with fail
                go_ret
                exact ⟨rfl, (HB.out.trans hk9).trans hk⟩

set_option maxRecDepth 100000 in
theorem lifted (os : Os) (started : os.Started) (H : Type) (enc : TypeId × Value → H) :
    ReturnsInHanded {} Try.checked os 6 .any (Rows.dashPeriodSpec.pre6 enc Try.prog Try.f6 Rows.dashPeriodRow.domain false) (Rows.dashPeriodSpec.post enc Try.prog Try.f6 false true false false) := by
  refine returnsInHanded_of_change (C := Try.checked) Try.own started (by kernel_rfl) Try.func6
    (ChangeSpec.witness6 (enc := enc) (C := Try.checked) false ⟨#[], #[.agg #[.int .i64 0, .int .i64 0, .int .i64 0, .int .i64 0, .slice none 0 0, .int .i64 0], .int .i64 0], []⟩ 8 (by kernel_rfl) (by kernel_rfl) (by kernel_rfl) (by kernel_rfl)) ?_
  intro W base args ds gs before hval0 hW hcnd _
  have hval : ∀ (j : Nat) t v, Try.f6.params[j]? = some t → args[j]? = some v → Value.okWide Try.prog W .any base t v := hval0
  have hW' := hW
  obtain ⟨p, q, hA0, hV, rfl, hfz, hnd⟩ := hW
  have hA : DataW.TrodAll enc Try.prog W 0 (fun _ => true) true Try.f6.params.toList args.toList ds p := hA0
  have hAll := hA
  rw [Try.params6] at hA hval
  obtain ⟨v0, vs0, d0, ds0, p0, q0, hargs, rfl, rfl, h0, r0⟩ := trodAll_cons hA
  obtain ⟨v1, vs1, d1, ds1, p1, q1, rfl, rfl, rfl, h1, r1⟩ := trodAll_cons r0
  obtain ⟨rfl, rfl, rfl⟩ := trodAll_nil r1
  obtain rfl : args = #[v0, v1] := by cases args; simp_all
  obtain ⟨rfl, rfl⟩ := trodVars_none hV
  obtain ⟨wd0, jn0, cp0, ml0, ph0, A0, n0, c0, D0, rfl, I0, B0⟩ := open_style (hval 0 27 v0 rfl rfl) h0
  obtain ⟨a1, rfl, _, _, w1⟩ := open_int Try.underlying3 (hval 1 3 v1 rfl rfl) h1
  obtain ⟨l1, u1⟩ := bounds_i64 w1
  clear hA0 hval0
  refine (walk wd0 jn0 cp0 ml0 ph0 A0 n0 c0 D0 a1 W I0 B0 l1 u1).mono fun e W' ⟨he, bel⟩ => ?_
  subst he
  exact ⟨_, rfl, _, _, _, [], _, [], hW', trodAll_mk1 (shut_bool Try.underlying4 _), below_trodAll Try.laidOut bel (reads_of (by kernel_rfl)) hAll, rfl, bel.frame _, fun h => by cases h⟩

theorem over : Rows.dashPeriodRow.holds Try.pinned (OpenSpec.ofChange Rows.dashPeriodSpec) :=
  OpenClaim.holds_of_wide 6 Try.f6 rfl rfl rfl rfl rfl rfl rfl ⟨rfl, rfl, rfl, rfl, rfl⟩ rfl rfl rfl rfl rfl (by kernel_rfl) Try.func6 (by kernel_rfl)
    (of_decide_eq_true (by kernel_rfl)) (by unfold Func.isWrapper; first | (rw [if_pos (by decide +kernel)]; kernel_rfl) | (rw [if_neg (by decide +kernel)]; exact ⟨rfl, rfl⟩))
    (fun os started H enc _ => lifted os started H enc)

/-- The statement. -/
theorem proved : Rows.DashPeriodSaid := over
#print axioms proved
end Go.Proofs.Ytihmhpleiefodaa.dashPeriod
