/- Contracts of ValidStyle, of strokegeom and of reference 22. -/
import Derived.Test.YtihmhpleiefodaaQm
import Derived.Deep.DeepCutAuto
namespace Go.Proofs.Ytihmhpleiefodaa
open Go.RowKit
attribute [local go_sem ↓] Go.wp_at_zero Go.wp_at_succ
set_option linter.unusedVariables false
set_option linter.unusedSimpArgs false
/-- The slice '.slice A n c' reads as the integers D. -/
def Ins (w : World) (A : Option Addr) (n c : Nat) (D : List Int) : Prop :=
  D.length = n ∧ n ≤ c ∧ c ≤ maxLen ∧ (∀ d ∈ D, i64b d) ∧ (0 < n → ∃ b o, A = some ⟨b, o, none⟩ ∧ b < w.heap.size ∧ ∀ k, k < n → w.cell? ⟨b, o + k, none⟩ = some (.int .i64 (D.getD k 0)))
theorem Ins.keep {w w' : World} {A : Option Addr} {n c : Nat} {D : List Int} (h : Ins w A n c D) (hk : Keeps w w') : Ins w' A n c D := by
  obtain ⟨h1, h2, h3, h5, h4⟩ := h
  refine ⟨h1, h2, h3, h5, fun hn => ?_⟩
  obtain ⟨b, o, e, hb, hc⟩ := h4 hn
  exact ⟨b, o, e, Nat.lt_of_lt_of_le hb hk.size, fun k hk' => (hk.cell hb).trans (hc k hk')⟩
theorem Ins.max {w : World} {A : Option Addr} {n c : Nat} {D : List Int} (h : Ins w A n c D) : (n : Int) ≤ 9223372036854775807 := by
  have h1 := h.2.1; have h2 := h.2.2.1; unfold maxLen at h2; omega
def dF (n : Nat) (s : Bool) : List Int → Bool
  | [] => s && decide (n % 2 = 0) && decide (n ≤ 16)
  | d :: r => if inB d 0 1048576 = true then dF n (s || decide (0 < d)) r else false
def dashB (D : List Int) : Bool := dF D.length (decide (D.length = 0)) D
def stB (wd jn cp ml ph : Int) (D : List Int) : Bool := wideB wd && inB jn 1 3 && inB cp 3 5 && decide (256 ≤ ml) && decide (ml ≤ 65536) && dashB D && decide (0 ≤ ph) && decide (ph ≤ 1048576)
theorem dF_end (n : Nat) (s : Bool) : dF n s [] = (s && decide (n % 2 = 0) && decide (n ≤ 16)) := rfl
set_option maxRecDepth 100000 in
set_option maxHeartbeats 2000000 in
theorem dashes_any (A : Option Addr) (n c : Nat) (D : List Int) (w : World) (h : Ins w A n c D) :
    Calls Try.prog 51 #[.slice A n c] w fun e w' => e = .returned (.bool (dashB D)) ∧ Keeps w w' := by
  have hl := h.1
  have hmx := h.max
  have HS := Lib.hid h
  have hE := Lib.hid (show dashB D = dF n (decide (n = 0)) D by unfold dashB; rw [h.1])
  clear h
  have t1 : ((n : Int) == 0) = decide (n = 0) := by rw [Bool.eq_iff_iff]; simp; try omega
  have t2 : (n == 0) = decide (n = 0) := by rw [Bool.eq_iff_iff]; simp
  have t3 : decide ((n : Int) = 0) = decide (n = 0) := by rw [Bool.eq_iff_iff]; simp; try omega
  generalize hs0 : decide (n = 0) = s0 at *
  clear hs0
  go_enter Try.func51, Try.ntmps51
  go_wp2_with fail
  go_loopw [3, 11] (fun q i wr => ∃ (j : Nat) (s : Bool), j ≤ n ∧ i = .int .i64 j ∧ q = .bool s ∧ Keeps w wr ∧ Hid (dashB D = dF n s (D.drop j))) (fun _ i _ => n - (intOf i).toNat)
  case atStart => exact ⟨0, s0, by omega, rfl, rfl, Keeps.refl _, hE⟩
  case round =>
    obtain ⟨j, s, hj, rfl, rfl, hkw, hR⟩ := hrel
    by_cases hlt : j < n
    · obtain ⟨b, o, rfl, hb, hc⟩ := HS.out.2.2.2.2 (by omega)
      have c0 := (hkw.cell (p := ⟨b, o + j, none⟩) hb).trans (hc j hlt)
      have hD := Lib.hid (drop_getDQ D j 0 (by omega))
      rw [hD.out] at hR
      have hlt2 : (j : Int) < n := by omega
      clear hc
      generalize D.getD j 0 = d at *
      have KI := Lib.hid (fun w => within_any d 0 1048576 w)
      have hR1 := Lib.hid (show dashB D = if inB d 0 1048576 = true then dF n (s || decide (0 < d)) (D.drop (j + 1)) else false from hR.out)
      cases hv : inB d 0 1048576 with
      | false =>
        rw [hv, if_neg (by decide)] at hR1
        rw [hv] at KI
        have hv2 := (inB_no _ _ _).1 hv
        rcases hv2 with hv2 | hv2
        all_goals
          clear hv
          go_wp2_with fail
          all_goals
            go_ret
            exact ⟨ret_bool hR1.out.symm, hkw⟩
      | true =>
        rw [hv, if_pos rfl] at hR1
        rw [hv] at KI
        obtain ⟨v1, v2⟩ := (inB_iff _ _ _).1 hv
        clear hv
        cases s with
        | true =>
          rw [Bool.true_or] at hR1
          go_wp2_with fail
          go_roundw
          case rel => exact ⟨j + 1, true, by omega, by go_num, rfl, hkw, hR1⟩
          case measure => simp [intOf]; omega
        | false =>
          rw [Bool.false_or] at hR1
          go_wp2_with fail
          go_roundw
          case rel => exact ⟨j + 1, decide (0 < d), by omega, by go_num, rfl, hkw, hR1⟩
          case measure => simp [intOf]; omega
    · obtain rfl : j = n := by omega
      have hf := Lib.hid (show dashB D = (s && decide (j % 2 = 0) && decide (j ≤ 16)) by rw [hR.out, List.drop_of_length_le (by omega), dF_end])
      cases s with
      | false =>
        go_wp2_with fail
        go_ret
        exact ⟨ret_bool (by rw [hf.out]; rfl), hkw⟩
      | true =>
        have e2 : ((j : Int) % 2 = 0) ↔ j % 2 = 0 := by omega
        by_cases h2 : j % 2 = 0
        · have u1 : (j : Int) % 2 = 0 := by omega
          by_cases h16 : j ≤ 16
          · have u2 : (j : Int) ≤ 16 := by omega
            go_wp2_with fail
            all_goals
              go_ret
              exact ⟨ret_bool (by rw [hf.out]; simp; omega), hkw⟩
          · have u2 : ¬ (j : Int) ≤ 16 := by omega
            go_wp2_with fail
            all_goals
              go_ret
              exact ⟨ret_bool (by rw [hf.out]; simp; omega), hkw⟩
        · have u1 : (j : Int) % 2 = 1 := by omega
          go_wp2_with fail
          all_goals
            go_ret
            exact ⟨ret_bool (by rw [hf.out]; simp; omega), hkw⟩
set_option maxRecDepth 100000 in
set_option maxHeartbeats 2000000 in
theorem rdashes_any (A : Option Addr) (n c : Nat) (D : List Int) (w : World) (h : Ins w A n c D) :
    Calls Try.prog 38 #[.slice A n c] w fun e w' => e = .returned (.bool (dashB D)) ∧ Keeps w w' := by
  have hl := h.1
  have hmx := h.max
  have HS := Lib.hid h
  have hE := Lib.hid (show dashB D = dF n (decide (n = 0)) D by unfold dashB; rw [h.1])
  clear h
  have t1 : ((n : Int) == 0) = decide (n = 0) := by rw [Bool.eq_iff_iff]; simp; try omega
  have t2 : (n == 0) = decide (n = 0) := by rw [Bool.eq_iff_iff]; simp
  have t3 : decide ((n : Int) = 0) = decide (n = 0) := by rw [Bool.eq_iff_iff]; simp; try omega
  generalize hs0 : decide (n = 0) = s0 at *
  clear hs0
  go_enter Try.func38, Try.ntmps38
  go_wp2_with fail
  go_loopw [3, 4] (fun q i wr => ∃ (j : Nat) (s : Bool), j ≤ n ∧ i = .int .i64 j ∧ q = .bool s ∧ Keeps w wr ∧ Hid (dashB D = dF n s (D.drop j))) (fun _ i _ => n - (intOf i).toNat)
  case atStart => exact ⟨0, s0, by omega, rfl, rfl, Keeps.refl _, hE⟩
  case round =>
    obtain ⟨j, s, hj, rfl, rfl, hkw, hR⟩ := hrel
    by_cases hlt : j < n
    · obtain ⟨b, o, rfl, hb, hc⟩ := HS.out.2.2.2.2 (by omega)
      have c0 := (hkw.cell (p := ⟨b, o + j, none⟩) hb).trans (hc j hlt)
      have hD := Lib.hid (drop_getDQ D j 0 (by omega))
      rw [hD.out] at hR
      have hlt2 : (j : Int) < n := by omega
      clear hc
      generalize D.getD j 0 = d at *
      have KI := Lib.hid (fun w => within_any d 0 1048576 w)
      have hR1 := Lib.hid (show dashB D = if inB d 0 1048576 = true then dF n (s || decide (0 < d)) (D.drop (j + 1)) else false from hR.out)
      cases hv : inB d 0 1048576 with
      | false =>
        rw [hv, if_neg (by decide)] at hR1
        rw [hv] at KI
        have hv2 := (inB_no _ _ _).1 hv
        rcases hv2 with hv2 | hv2
        all_goals
          clear hv
          go_wp2_with (go_at_call 37; (with_reducible refine (KI.out _).mono ?_); rintro e w1 ⟨rfl, rfl⟩)
          all_goals
            go_ret
            exact ⟨ret_bool hR1.out.symm, hkw⟩
      | true =>
        rw [hv, if_pos rfl] at hR1
        rw [hv] at KI
        obtain ⟨v1, v2⟩ := (inB_iff _ _ _).1 hv
        clear hv
        cases s with
        | true =>
          rw [Bool.true_or] at hR1
          go_wp2_with (go_at_call 37; (with_reducible refine (KI.out _).mono ?_); rintro e w1 ⟨rfl, rfl⟩)
          go_roundw
          case rel => exact ⟨j + 1, true, by omega, by go_num, rfl, hkw, hR1⟩
          case measure => simp [intOf]; omega
        | false =>
          rw [Bool.false_or] at hR1
          go_wp2_with (go_at_call 37; (with_reducible refine (KI.out _).mono ?_); rintro e w1 ⟨rfl, rfl⟩)
          go_roundw
          case rel => exact ⟨j + 1, decide (0 < d), by omega, by go_num, rfl, hkw, hR1⟩
          case measure => simp [intOf]; omega
    · obtain rfl : j = n := by omega
      have hf := Lib.hid (show dashB D = (s && decide (j % 2 = 0) && decide (j ≤ 16)) by rw [hR.out, List.drop_of_length_le (by omega), dF_end])
      cases s with
      | false =>
        go_wp2_with fail
        go_ret
        exact ⟨ret_bool (by rw [hf.out]; rfl), hkw⟩
      | true =>
        have e2 : ((j : Int) % 2 = 0) ↔ j % 2 = 0 := by omega
        by_cases h2 : j % 2 = 0
        · have u1 : (j : Int) % 2 = 0 := by omega
          by_cases h16 : j ≤ 16
          · have u2 : (j : Int) ≤ 16 := by omega
            go_wp2_with fail
            all_goals
              go_ret
              exact ⟨ret_bool (by rw [hf.out]; simp; omega), hkw⟩
          · have u2 : ¬ (j : Int) ≤ 16 := by omega
            go_wp2_with fail
            all_goals
              go_ret
              exact ⟨ret_bool (by rw [hf.out]; simp; omega), hkw⟩
        · have u1 : (j : Int) % 2 = 1 := by omega
          go_wp2_with fail
          all_goals
            go_ret
            exact ⟨ret_bool (by rw [hf.out]; simp; omega), hkw⟩
set_option maxRecDepth 100000 in
set_option maxHeartbeats 4000000 in
theorem style_any (wd jn cp ml ph : Int) (A : Option Addr) (n c : Nat) (D : List Int) (w : World) (h : Ins w A n c D) :
    Calls Try.prog 31 #[.agg #[.int .i64 wd, .int .i64 jn, .int .i64 cp, .int .i64 ml, .slice A n c, .int .i64 ph]] w fun e w' => e = .returned (.bool (stB wd jn cp ml ph D)) ∧ Keeps w w' := by
  have HS := Lib.hid (show ∀ w', Keeps (w.alloc (.cells #[.int .i64 wd, .int .i64 jn, .int .i64 cp, .int .i64 ml, .slice A n c, .int .i64 ph] 27)) w' → w'.cell? ⟨w.heap.size, 0, none⟩ = some (.int .i64 wd) ∧ w'.frozen? ⟨w.heap.size, 0, none⟩ = false ∧ w'.cell? ⟨w.heap.size, 1, none⟩ = some (.int .i64 jn) ∧ w'.frozen? ⟨w.heap.size, 1, none⟩ = false ∧ w'.cell? ⟨w.heap.size, 2, none⟩ = some (.int .i64 cp) ∧ w'.frozen? ⟨w.heap.size, 2, none⟩ = false ∧ w'.cell? ⟨w.heap.size, 3, none⟩ = some (.int .i64 ml) ∧ w'.frozen? ⟨w.heap.size, 3, none⟩ = false ∧ w'.cell? ⟨w.heap.size, 4, none⟩ = some (.slice A n c) ∧ w'.frozen? ⟨w.heap.size, 4, none⟩ = false ∧ w'.cell? ⟨w.heap.size, 5, none⟩ = some (.int .i64 ph) ∧ w'.frozen? ⟨w.heap.size, 5, none⟩ = false from fun w' hk => ⟨(hk.cell (p := ⟨w.heap.size, 0, none⟩) (by first | (simp; done) | (simp; omega))).trans (by simp [go_sem]), (hk.frozen (p := ⟨w.heap.size, 0, none⟩) (by first | (simp; done) | (simp; omega))).trans (by simp [go_sem]), (hk.cell (p := ⟨w.heap.size, 1, none⟩) (by first | (simp; done) | (simp; omega))).trans (by simp [go_sem]), (hk.frozen (p := ⟨w.heap.size, 1, none⟩) (by first | (simp; done) | (simp; omega))).trans (by simp [go_sem]), (hk.cell (p := ⟨w.heap.size, 2, none⟩) (by first | (simp; done) | (simp; omega))).trans (by simp [go_sem]), (hk.frozen (p := ⟨w.heap.size, 2, none⟩) (by first | (simp; done) | (simp; omega))).trans (by simp [go_sem]), (hk.cell (p := ⟨w.heap.size, 3, none⟩) (by first | (simp; done) | (simp; omega))).trans (by simp [go_sem]), (hk.frozen (p := ⟨w.heap.size, 3, none⟩) (by first | (simp; done) | (simp; omega))).trans (by simp [go_sem]), (hk.cell (p := ⟨w.heap.size, 4, none⟩) (by first | (simp; done) | (simp; omega))).trans (by simp [go_sem]), (hk.frozen (p := ⟨w.heap.size, 4, none⟩) (by first | (simp; done) | (simp; omega))).trans (by simp [go_sem]), (hk.cell (p := ⟨w.heap.size, 5, none⟩) (by first | (simp; done) | (simp; omega))).trans (by simp [go_sem]), (hk.frozen (p := ⟨w.heap.size, 5, none⟩) (by first | (simp; done) | (simp; omega))).trans (by simp [go_sem])⟩)
  have HB := Lib.hid (show Keeps w (w.alloc (.cells #[.int .i64 wd, .int .i64 jn, .int .i64 cp, .int .i64 ml, .slice A n c, .int .i64 ph] 27)) from (by (repeat (first | (with_reducible exact Keeps.refl _) | (with_reducible assumption) | (with_reducible refine Keeps.drewN ?_ _) | (with_reducible refine Keeps.drew ?_) | (with_reducible refine Keeps.alloc ?_ _) | (with_reducible refine Keeps.setNew ?_ ?_ _))) <;> (dsimp only; omega)))
  have hk0 := Keeps.refl (w.alloc (.cells #[.int .i64 wd, .int .i64 jn, .int .i64 cp, .int .i64 ml, .slice A n c, .int .i64 ph] 27))
  have KD := Lib.hid (fun w' (hk : Keeps (w.alloc (.cells #[.int .i64 wd, .int .i64 jn, .int .i64 cp, .int .i64 ml, .slice A n c, .int .i64 ph] 27)) w') => keepk (dashes_any A n c D w' (h.keep (HB.out.trans hk))) hk)
  have KW := Lib.hid (fun w => wide_any wd w)
  unfold stB
  clear h
  generalize dashB D = d at *
  generalize wideB wd = u at *
  go_enter Try.func31, Try.ntmps31
  go_upto_region 1 with fail
  go_cut [3] (fun x wx => x = .bool (inB jn 1 3) ∧ wx = (w.alloc (.cells #[.int .i64 wd, .int .i64 jn, .int .i64 cp, .int .i64 ml, .slice A n c, .int .i64 ph] 27)))
  case first =>
    cases h1 : (jn == 1) with
    | true =>
      go_wp2_with fail
      go_meet
      refine ⟨congrArg Value.bool (((inB_iff _ _ _).2 (by simp at h1; omega)).symm), rfl⟩
    | false =>
      cases h2 : (jn == 2) with
      | true =>
        go_wp2_with fail
        go_meet
        refine ⟨congrArg Value.bool (((inB_iff _ _ _).2 (by simp at h2; omega)).symm), rfl⟩
      | false =>
        cases h3 : (jn == 3) with
        | true =>
          go_wp2_with fail
          go_meet
          refine ⟨congrArg Value.bool (((inB_iff _ _ _).2 (by simp at h3; omega)).symm), rfl⟩
        | false =>
          go_wp2_with fail
          go_meet
          refine ⟨congrArg Value.bool (((inB_no _ _ _).2 (by simp at h1 h2 h3; omega)).symm), rfl⟩
  obtain ⟨rfl, rfl⟩ := hcut
  generalize hbj : inB jn 1 3 = bj at *
  have Hbj := Lib.hid hbj
  clear hbj
  go_upto_region 2 with fail
  go_cut [4] (fun x wx => x = .bool (inB cp 3 5) ∧ wx = (w.alloc (.cells #[.int .i64 wd, .int .i64 jn, .int .i64 cp, .int .i64 ml, .slice A n c, .int .i64 ph] 27)))
  case first =>
    cases h3 : (cp == 3) with
    | true =>
      go_wp2_with fail
      go_meet
      refine ⟨congrArg Value.bool (((inB_iff _ _ _).2 (by simp at h3; omega)).symm), rfl⟩
    | false =>
      cases h4 : (cp == 4) with
      | true =>
        go_wp2_with fail
        go_meet
        refine ⟨congrArg Value.bool (((inB_iff _ _ _).2 (by simp at h4; omega)).symm), rfl⟩
      | false =>
        cases h5 : (cp == 5) with
        | true =>
          go_wp2_with fail
          go_meet
          refine ⟨congrArg Value.bool (((inB_iff _ _ _).2 (by simp at h5; omega)).symm), rfl⟩
        | false =>
          go_wp2_with fail
          go_meet
          refine ⟨congrArg Value.bool (((inB_no _ _ _).2 (by simp at h3 h4 h5; omega)).symm), rfl⟩
  obtain ⟨rfl, rfl⟩ := hcut
  generalize hbc : inB cp 3 5 = bc at *
  have Hbc := Lib.hid hbc
  clear hbc
  cases u with
  | false =>
    go_wp2_with (first | (go_at_call 50; (with_reducible refine (KW.out _).mono ?_); rintro e w1 ⟨rfl, rfl⟩) | (go_at_call 51; (with_reducible refine (KD.out _ (by first | assumption | exact Keeps.drew (by assumption) | exact Keeps.drewN (by assumption) _)).mono ?_); rintro e w1 ⟨rfl, hk⟩; have hj := Keeps.trans HB.out hk; have hk := hk; obtain ⟨y0, y1, y2, y3, y4, y5, y6, y7, y8, y9, y10, y11⟩ := HS.out _ hk))
    all_goals
      go_ret
      exact ⟨ret_bool (by rw [Hbj.out, Hbc.out]; simp [*]), (by (repeat (first | (with_reducible exact Keeps.refl _) | (with_reducible assumption) | (with_reducible refine Keeps.drewN ?_ _) | (with_reducible refine Keeps.drew ?_) | (with_reducible refine Keeps.alloc ?_ _) | (with_reducible refine Keeps.setNew ?_ ?_ _))) <;> (dsimp only; omega))⟩
  | true =>
    cases bj with
    | false =>
      go_wp2_with (first | (go_at_call 50; (with_reducible refine (KW.out _).mono ?_); rintro e w1 ⟨rfl, rfl⟩) | (go_at_call 51; (with_reducible refine (KD.out _ (by first | assumption | exact Keeps.drew (by assumption) | exact Keeps.drewN (by assumption) _)).mono ?_); rintro e w1 ⟨rfl, hk⟩; have hj := Keeps.trans HB.out hk; have hk := hk; obtain ⟨y0, y1, y2, y3, y4, y5, y6, y7, y8, y9, y10, y11⟩ := HS.out _ hk))
      all_goals
        go_ret
        exact ⟨ret_bool (by rw [Hbj.out, Hbc.out]; simp [*]), (by (repeat (first | (with_reducible exact Keeps.refl _) | (with_reducible assumption) | (with_reducible refine Keeps.drewN ?_ _) | (with_reducible refine Keeps.drew ?_) | (with_reducible refine Keeps.alloc ?_ _) | (with_reducible refine Keeps.setNew ?_ ?_ _))) <;> (dsimp only; omega))⟩
    | true =>
      cases bc with
      | false =>
        go_wp2_with (first | (go_at_call 50; (with_reducible refine (KW.out _).mono ?_); rintro e w1 ⟨rfl, rfl⟩) | (go_at_call 51; (with_reducible refine (KD.out _ (by first | assumption | exact Keeps.drew (by assumption) | exact Keeps.drewN (by assumption) _)).mono ?_); rintro e w1 ⟨rfl, hk⟩; have hj := Keeps.trans HB.out hk; have hk := hk; obtain ⟨y0, y1, y2, y3, y4, y5, y6, y7, y8, y9, y10, y11⟩ := HS.out _ hk))
        all_goals
          go_ret
          exact ⟨ret_bool (by rw [Hbj.out, Hbc.out]; simp [*]), (by (repeat (first | (with_reducible exact Keeps.refl _) | (with_reducible assumption) | (with_reducible refine Keeps.drewN ?_ _) | (with_reducible refine Keeps.drew ?_) | (with_reducible refine Keeps.alloc ?_ _) | (with_reducible refine Keeps.setNew ?_ ?_ _))) <;> (dsimp only; omega))⟩
      | true =>
        by_cases q1 : 256 ≤ ml
        case neg =>
          have q1' : decide (256 ≤ ml) = false := decide_eq_false q1
          go_wp2_with (first | (go_at_call 50; (with_reducible refine (KW.out _).mono ?_); rintro e w1 ⟨rfl, rfl⟩) | (go_at_call 51; (with_reducible refine (KD.out _ (by first | assumption | exact Keeps.drew (by assumption) | exact Keeps.drewN (by assumption) _)).mono ?_); rintro e w1 ⟨rfl, hk⟩; have hj := Keeps.trans HB.out hk; have hk := hk; obtain ⟨y0, y1, y2, y3, y4, y5, y6, y7, y8, y9, y10, y11⟩ := HS.out _ hk))
          all_goals
            go_ret
            exact ⟨ret_bool (by rw [Hbj.out, Hbc.out]; simp [*]), (by (repeat (first | (with_reducible exact Keeps.refl _) | (with_reducible assumption) | (with_reducible refine Keeps.drewN ?_ _) | (with_reducible refine Keeps.drew ?_) | (with_reducible refine Keeps.alloc ?_ _) | (with_reducible refine Keeps.setNew ?_ ?_ _))) <;> (dsimp only; omega))⟩
        have q1' : decide (256 ≤ ml) = true := decide_eq_true q1
        by_cases q2 : ml ≤ 65536
        case neg =>
          have q2' : decide (ml ≤ 65536) = false := decide_eq_false q2
          go_wp2_with (first | (go_at_call 50; (with_reducible refine (KW.out _).mono ?_); rintro e w1 ⟨rfl, rfl⟩) | (go_at_call 51; (with_reducible refine (KD.out _ (by first | assumption | exact Keeps.drew (by assumption) | exact Keeps.drewN (by assumption) _)).mono ?_); rintro e w1 ⟨rfl, hk⟩; have hj := Keeps.trans HB.out hk; have hk := hk; obtain ⟨y0, y1, y2, y3, y4, y5, y6, y7, y8, y9, y10, y11⟩ := HS.out _ hk))
          all_goals
            go_ret
            exact ⟨ret_bool (by rw [Hbj.out, Hbc.out]; simp [*]), (by (repeat (first | (with_reducible exact Keeps.refl _) | (with_reducible assumption) | (with_reducible refine Keeps.drewN ?_ _) | (with_reducible refine Keeps.drew ?_) | (with_reducible refine Keeps.alloc ?_ _) | (with_reducible refine Keeps.setNew ?_ ?_ _))) <;> (dsimp only; omega))⟩
        have q2' : decide (ml ≤ 65536) = true := decide_eq_true q2
        cases d with
        | false =>
          go_wp2_with (first | (go_at_call 50; (with_reducible refine (KW.out _).mono ?_); rintro e w1 ⟨rfl, rfl⟩) | (go_at_call 51; (with_reducible refine (KD.out _ (by first | assumption | exact Keeps.drew (by assumption) | exact Keeps.drewN (by assumption) _)).mono ?_); rintro e w1 ⟨rfl, hk⟩; have hj := Keeps.trans HB.out hk; have hk := hk; obtain ⟨y0, y1, y2, y3, y4, y5, y6, y7, y8, y9, y10, y11⟩ := HS.out _ hk))
          all_goals
            go_ret
            exact ⟨ret_bool (by rw [Hbj.out, Hbc.out]; simp [*]), (by (repeat (first | (with_reducible exact Keeps.refl _) | (with_reducible assumption) | (with_reducible refine Keeps.drewN ?_ _) | (with_reducible refine Keeps.drew ?_) | (with_reducible refine Keeps.alloc ?_ _) | (with_reducible refine Keeps.setNew ?_ ?_ _))) <;> (dsimp only; omega))⟩
        | true =>
          by_cases q3 : 0 ≤ ph
          case neg =>
            have q3' : decide (0 ≤ ph) = false := decide_eq_false q3
            go_wp2_with (first | (go_at_call 50; (with_reducible refine (KW.out _).mono ?_); rintro e w1 ⟨rfl, rfl⟩) | (go_at_call 51; (with_reducible refine (KD.out _ (by first | assumption | exact Keeps.drew (by assumption) | exact Keeps.drewN (by assumption) _)).mono ?_); rintro e w1 ⟨rfl, hk⟩; have hj := Keeps.trans HB.out hk; have hk := hk; obtain ⟨y0, y1, y2, y3, y4, y5, y6, y7, y8, y9, y10, y11⟩ := HS.out _ hk))
            all_goals
              go_ret
              exact ⟨ret_bool (by rw [Hbj.out, Hbc.out]; simp [*]), (by (repeat (first | (with_reducible exact Keeps.refl _) | (with_reducible assumption) | (with_reducible refine Keeps.drewN ?_ _) | (with_reducible refine Keeps.drew ?_) | (with_reducible refine Keeps.alloc ?_ _) | (with_reducible refine Keeps.setNew ?_ ?_ _))) <;> (dsimp only; omega))⟩
          have q3' : decide (0 ≤ ph) = true := decide_eq_true q3
          by_cases q4 : ph ≤ 1048576
          case neg =>
            have q4' : decide (ph ≤ 1048576) = false := decide_eq_false q4
            go_wp2_with (first | (go_at_call 50; (with_reducible refine (KW.out _).mono ?_); rintro e w1 ⟨rfl, rfl⟩) | (go_at_call 51; (with_reducible refine (KD.out _ (by first | assumption | exact Keeps.drew (by assumption) | exact Keeps.drewN (by assumption) _)).mono ?_); rintro e w1 ⟨rfl, hk⟩; have hj := Keeps.trans HB.out hk; have hk := hk; obtain ⟨y0, y1, y2, y3, y4, y5, y6, y7, y8, y9, y10, y11⟩ := HS.out _ hk))
            all_goals
              go_ret
              exact ⟨ret_bool (by rw [Hbj.out, Hbc.out]; simp [*]), (by (repeat (first | (with_reducible exact Keeps.refl _) | (with_reducible assumption) | (with_reducible refine Keeps.drewN ?_ _) | (with_reducible refine Keeps.drew ?_) | (with_reducible refine Keeps.alloc ?_ _) | (with_reducible refine Keeps.setNew ?_ ?_ _))) <;> (dsimp only; omega))⟩
          have q4' : decide (ph ≤ 1048576) = true := decide_eq_true q4
          go_wp2_with (first | (go_at_call 50; (with_reducible refine (KW.out _).mono ?_); rintro e w1 ⟨rfl, rfl⟩) | (go_at_call 51; (with_reducible refine (KD.out _ (by first | assumption | exact Keeps.drew (by assumption) | exact Keeps.drewN (by assumption) _)).mono ?_); rintro e w1 ⟨rfl, hk⟩; have hj := Keeps.trans HB.out hk; have hk := hk; obtain ⟨y0, y1, y2, y3, y4, y5, y6, y7, y8, y9, y10, y11⟩ := HS.out _ hk))
          all_goals
            go_ret
            exact ⟨ret_bool (by rw [Hbj.out, Hbc.out]; simp [*]), (by (repeat (first | (with_reducible exact Keeps.refl _) | (with_reducible assumption) | (with_reducible refine Keeps.drewN ?_ _) | (with_reducible refine Keeps.drew ?_) | (with_reducible refine Keeps.alloc ?_ _) | (with_reducible refine Keeps.setNew ?_ ?_ _))) <;> (dsimp only; omega))⟩
set_option maxRecDepth 100000 in
set_option maxHeartbeats 4000000 in
theorem rstyle_any (wd jn cp ml ph : Int) (A : Option Addr) (n c : Nat) (D : List Int) (w : World) (h : Ins w A n c D) :
    Calls Try.prog 18 #[.agg #[.int .i64 wd, .int .i64 jn, .int .i64 cp, .int .i64 ml, .slice A n c, .int .i64 ph]] w fun e w' => e = .returned (.bool (stB wd jn cp ml ph D)) ∧ Keeps w w' := by
  have HS := Lib.hid (show ∀ w', Keeps (w.alloc (.cells #[.int .i64 wd, .int .i64 jn, .int .i64 cp, .int .i64 ml, .slice A n c, .int .i64 ph] 27)) w' → w'.cell? ⟨w.heap.size, 0, none⟩ = some (.int .i64 wd) ∧ w'.frozen? ⟨w.heap.size, 0, none⟩ = false ∧ w'.cell? ⟨w.heap.size, 1, none⟩ = some (.int .i64 jn) ∧ w'.frozen? ⟨w.heap.size, 1, none⟩ = false ∧ w'.cell? ⟨w.heap.size, 2, none⟩ = some (.int .i64 cp) ∧ w'.frozen? ⟨w.heap.size, 2, none⟩ = false ∧ w'.cell? ⟨w.heap.size, 3, none⟩ = some (.int .i64 ml) ∧ w'.frozen? ⟨w.heap.size, 3, none⟩ = false ∧ w'.cell? ⟨w.heap.size, 4, none⟩ = some (.slice A n c) ∧ w'.frozen? ⟨w.heap.size, 4, none⟩ = false ∧ w'.cell? ⟨w.heap.size, 5, none⟩ = some (.int .i64 ph) ∧ w'.frozen? ⟨w.heap.size, 5, none⟩ = false from fun w' hk => ⟨(hk.cell (p := ⟨w.heap.size, 0, none⟩) (by first | (simp; done) | (simp; omega))).trans (by simp [go_sem]), (hk.frozen (p := ⟨w.heap.size, 0, none⟩) (by first | (simp; done) | (simp; omega))).trans (by simp [go_sem]), (hk.cell (p := ⟨w.heap.size, 1, none⟩) (by first | (simp; done) | (simp; omega))).trans (by simp [go_sem]), (hk.frozen (p := ⟨w.heap.size, 1, none⟩) (by first | (simp; done) | (simp; omega))).trans (by simp [go_sem]), (hk.cell (p := ⟨w.heap.size, 2, none⟩) (by first | (simp; done) | (simp; omega))).trans (by simp [go_sem]), (hk.frozen (p := ⟨w.heap.size, 2, none⟩) (by first | (simp; done) | (simp; omega))).trans (by simp [go_sem]), (hk.cell (p := ⟨w.heap.size, 3, none⟩) (by first | (simp; done) | (simp; omega))).trans (by simp [go_sem]), (hk.frozen (p := ⟨w.heap.size, 3, none⟩) (by first | (simp; done) | (simp; omega))).trans (by simp [go_sem]), (hk.cell (p := ⟨w.heap.size, 4, none⟩) (by first | (simp; done) | (simp; omega))).trans (by simp [go_sem]), (hk.frozen (p := ⟨w.heap.size, 4, none⟩) (by first | (simp; done) | (simp; omega))).trans (by simp [go_sem]), (hk.cell (p := ⟨w.heap.size, 5, none⟩) (by first | (simp; done) | (simp; omega))).trans (by simp [go_sem]), (hk.frozen (p := ⟨w.heap.size, 5, none⟩) (by first | (simp; done) | (simp; omega))).trans (by simp [go_sem])⟩)
  have HB := Lib.hid (show Keeps w (w.alloc (.cells #[.int .i64 wd, .int .i64 jn, .int .i64 cp, .int .i64 ml, .slice A n c, .int .i64 ph] 27)) from (by (repeat (first | (with_reducible exact Keeps.refl _) | (with_reducible assumption) | (with_reducible refine Keeps.drewN ?_ _) | (with_reducible refine Keeps.drew ?_) | (with_reducible refine Keeps.alloc ?_ _) | (with_reducible refine Keeps.setNew ?_ ?_ _))) <;> (dsimp only; omega)))
  have hk0 := Keeps.refl (w.alloc (.cells #[.int .i64 wd, .int .i64 jn, .int .i64 cp, .int .i64 ml, .slice A n c, .int .i64 ph] 27))
  have KD := Lib.hid (fun w' (hk : Keeps (w.alloc (.cells #[.int .i64 wd, .int .i64 jn, .int .i64 cp, .int .i64 ml, .slice A n c, .int .i64 ph] 27)) w') => keepk (rdashes_any A n c D w' (h.keep (HB.out.trans hk))) hk)
  have KW := Lib.hid (fun w => rwidth_any wd w)
  have KJ := Lib.hid (fun w => within_any jn 1 3 w)
  have KC := Lib.hid (fun w => within_any cp 3 5 w)
  have KM := Lib.hid (fun w => within_any ml 256 65536 w)
  have KP := Lib.hid (fun w => within_any ph 0 1048576 w)
  unfold stB
  clear h
  generalize dashB D = d at *
  generalize wideB wd = u at *
  rw [show (u && inB jn 1 3 && inB cp 3 5 && decide (256 ≤ ml) && decide (ml ≤ 65536) && d && decide (0 ≤ ph) && decide (ph ≤ 1048576)) = (u && inB jn 1 3 && inB cp 3 5 && inB ml 256 65536 && d && inB ph 0 1048576) by unfold inB; simp only [Bool.and_assoc]]
  generalize inB jn 1 3 = bj at *
  generalize inB cp 3 5 = bc at *
  generalize inB ml 256 65536 = bm at *
  generalize inB ph 0 1048576 = bp at *
  cases u with
  | false =>
    go_enter Try.func18, Try.ntmps18
    go_wp2_with (first | (go_at_call 36; (with_reducible refine (KW.out _).mono ?_); rintro e w1 ⟨rfl, rfl⟩) | (go_at_call 37; (first | (with_reducible refine (KJ.out _).mono ?_) | (with_reducible refine (KC.out _).mono ?_) | (with_reducible refine (KM.out _).mono ?_) | (with_reducible refine (KP.out _).mono ?_)); rintro e w1 ⟨rfl, rfl⟩) | (go_at_call 38; (with_reducible refine (KD.out _ (by first | assumption | exact Keeps.drew (by assumption) | exact Keeps.drewN (by assumption) _)).mono ?_); rintro e w1 ⟨rfl, hk⟩; have hj := Keeps.trans HB.out hk; have hk := hk; obtain ⟨y0, y1, y2, y3, y4, y5, y6, y7, y8, y9, y10, y11⟩ := HS.out _ hk))
    all_goals
      go_ret
      exact ⟨ret_bool (by simp), (by (repeat (first | (with_reducible exact Keeps.refl _) | (with_reducible assumption) | (with_reducible refine Keeps.drewN ?_ _) | (with_reducible refine Keeps.drew ?_) | (with_reducible refine Keeps.alloc ?_ _) | (with_reducible refine Keeps.setNew ?_ ?_ _))) <;> (dsimp only; omega))⟩
  | true =>
    cases bj with
    | false =>
      go_enter Try.func18, Try.ntmps18
      go_wp2_with (first | (go_at_call 36; (with_reducible refine (KW.out _).mono ?_); rintro e w1 ⟨rfl, rfl⟩) | (go_at_call 37; (first | (with_reducible refine (KJ.out _).mono ?_) | (with_reducible refine (KC.out _).mono ?_) | (with_reducible refine (KM.out _).mono ?_) | (with_reducible refine (KP.out _).mono ?_)); rintro e w1 ⟨rfl, rfl⟩) | (go_at_call 38; (with_reducible refine (KD.out _ (by first | assumption | exact Keeps.drew (by assumption) | exact Keeps.drewN (by assumption) _)).mono ?_); rintro e w1 ⟨rfl, hk⟩; have hj := Keeps.trans HB.out hk; have hk := hk; obtain ⟨y0, y1, y2, y3, y4, y5, y6, y7, y8, y9, y10, y11⟩ := HS.out _ hk))
      all_goals
        go_ret
        exact ⟨ret_bool (by simp), (by (repeat (first | (with_reducible exact Keeps.refl _) | (with_reducible assumption) | (with_reducible refine Keeps.drewN ?_ _) | (with_reducible refine Keeps.drew ?_) | (with_reducible refine Keeps.alloc ?_ _) | (with_reducible refine Keeps.setNew ?_ ?_ _))) <;> (dsimp only; omega))⟩
    | true =>
      cases bc with
      | false =>
        go_enter Try.func18, Try.ntmps18
        go_wp2_with (first | (go_at_call 36; (with_reducible refine (KW.out _).mono ?_); rintro e w1 ⟨rfl, rfl⟩) | (go_at_call 37; (first | (with_reducible refine (KJ.out _).mono ?_) | (with_reducible refine (KC.out _).mono ?_) | (with_reducible refine (KM.out _).mono ?_) | (with_reducible refine (KP.out _).mono ?_)); rintro e w1 ⟨rfl, rfl⟩) | (go_at_call 38; (with_reducible refine (KD.out _ (by first | assumption | exact Keeps.drew (by assumption) | exact Keeps.drewN (by assumption) _)).mono ?_); rintro e w1 ⟨rfl, hk⟩; have hj := Keeps.trans HB.out hk; have hk := hk; obtain ⟨y0, y1, y2, y3, y4, y5, y6, y7, y8, y9, y10, y11⟩ := HS.out _ hk))
        all_goals
          go_ret
          exact ⟨ret_bool (by simp), (by (repeat (first | (with_reducible exact Keeps.refl _) | (with_reducible assumption) | (with_reducible refine Keeps.drewN ?_ _) | (with_reducible refine Keeps.drew ?_) | (with_reducible refine Keeps.alloc ?_ _) | (with_reducible refine Keeps.setNew ?_ ?_ _))) <;> (dsimp only; omega))⟩
      | true =>
        cases bm with
        | false =>
          go_enter Try.func18, Try.ntmps18
          go_wp2_with (first | (go_at_call 36; (with_reducible refine (KW.out _).mono ?_); rintro e w1 ⟨rfl, rfl⟩) | (go_at_call 37; (first | (with_reducible refine (KJ.out _).mono ?_) | (with_reducible refine (KC.out _).mono ?_) | (with_reducible refine (KM.out _).mono ?_) | (with_reducible refine (KP.out _).mono ?_)); rintro e w1 ⟨rfl, rfl⟩) | (go_at_call 38; (with_reducible refine (KD.out _ (by first | assumption | exact Keeps.drew (by assumption) | exact Keeps.drewN (by assumption) _)).mono ?_); rintro e w1 ⟨rfl, hk⟩; have hj := Keeps.trans HB.out hk; have hk := hk; obtain ⟨y0, y1, y2, y3, y4, y5, y6, y7, y8, y9, y10, y11⟩ := HS.out _ hk))
          all_goals
            go_ret
            exact ⟨ret_bool (by simp), (by (repeat (first | (with_reducible exact Keeps.refl _) | (with_reducible assumption) | (with_reducible refine Keeps.drewN ?_ _) | (with_reducible refine Keeps.drew ?_) | (with_reducible refine Keeps.alloc ?_ _) | (with_reducible refine Keeps.setNew ?_ ?_ _))) <;> (dsimp only; omega))⟩
        | true =>
          cases d with
          | false =>
            go_enter Try.func18, Try.ntmps18
            go_wp2_with (first | (go_at_call 36; (with_reducible refine (KW.out _).mono ?_); rintro e w1 ⟨rfl, rfl⟩) | (go_at_call 37; (first | (with_reducible refine (KJ.out _).mono ?_) | (with_reducible refine (KC.out _).mono ?_) | (with_reducible refine (KM.out _).mono ?_) | (with_reducible refine (KP.out _).mono ?_)); rintro e w1 ⟨rfl, rfl⟩) | (go_at_call 38; (with_reducible refine (KD.out _ (by first | assumption | exact Keeps.drew (by assumption) | exact Keeps.drewN (by assumption) _)).mono ?_); rintro e w1 ⟨rfl, hk⟩; have hj := Keeps.trans HB.out hk; have hk := hk; obtain ⟨y0, y1, y2, y3, y4, y5, y6, y7, y8, y9, y10, y11⟩ := HS.out _ hk))
            all_goals
              go_ret
              exact ⟨ret_bool (by simp), (by (repeat (first | (with_reducible exact Keeps.refl _) | (with_reducible assumption) | (with_reducible refine Keeps.drewN ?_ _) | (with_reducible refine Keeps.drew ?_) | (with_reducible refine Keeps.alloc ?_ _) | (with_reducible refine Keeps.setNew ?_ ?_ _))) <;> (dsimp only; omega))⟩
          | true =>
            cases bp with
            | false =>
              go_enter Try.func18, Try.ntmps18
              go_wp2_with (first | (go_at_call 36; (with_reducible refine (KW.out _).mono ?_); rintro e w1 ⟨rfl, rfl⟩) | (go_at_call 37; (first | (with_reducible refine (KJ.out _).mono ?_) | (with_reducible refine (KC.out _).mono ?_) | (with_reducible refine (KM.out _).mono ?_) | (with_reducible refine (KP.out _).mono ?_)); rintro e w1 ⟨rfl, rfl⟩) | (go_at_call 38; (with_reducible refine (KD.out _ (by first | assumption | exact Keeps.drew (by assumption) | exact Keeps.drewN (by assumption) _)).mono ?_); rintro e w1 ⟨rfl, hk⟩; have hj := Keeps.trans HB.out hk; have hk := hk; obtain ⟨y0, y1, y2, y3, y4, y5, y6, y7, y8, y9, y10, y11⟩ := HS.out _ hk))
              all_goals
                go_ret
                exact ⟨ret_bool (by simp), (by (repeat (first | (with_reducible exact Keeps.refl _) | (with_reducible assumption) | (with_reducible refine Keeps.drewN ?_ _) | (with_reducible refine Keeps.drew ?_) | (with_reducible refine Keeps.alloc ?_ _) | (with_reducible refine Keeps.setNew ?_ ?_ _))) <;> (dsimp only; omega))⟩
            | true =>
              go_enter Try.func18, Try.ntmps18
              go_wp2_with (first | (go_at_call 36; (with_reducible refine (KW.out _).mono ?_); rintro e w1 ⟨rfl, rfl⟩) | (go_at_call 37; (first | (with_reducible refine (KJ.out _).mono ?_) | (with_reducible refine (KC.out _).mono ?_) | (with_reducible refine (KM.out _).mono ?_) | (with_reducible refine (KP.out _).mono ?_)); rintro e w1 ⟨rfl, rfl⟩) | (go_at_call 38; (with_reducible refine (KD.out _ (by first | assumption | exact Keeps.drew (by assumption) | exact Keeps.drewN (by assumption) _)).mono ?_); rintro e w1 ⟨rfl, hk⟩; have hj := Keeps.trans HB.out hk; have hk := hk; obtain ⟨y0, y1, y2, y3, y4, y5, y6, y7, y8, y9, y10, y11⟩ := HS.out _ hk))
              all_goals
                go_ret
                exact ⟨ret_bool (by simp), (by (repeat (first | (with_reducible exact Keeps.refl _) | (with_reducible assumption) | (with_reducible refine Keeps.drewN ?_ _) | (with_reducible refine Keeps.drew ?_) | (with_reducible refine Keeps.alloc ?_ _) | (with_reducible refine Keeps.setNew ?_ ?_ _))) <;> (dsimp only; omega))⟩
end Go.Proofs.Ytihmhpleiefodaa
