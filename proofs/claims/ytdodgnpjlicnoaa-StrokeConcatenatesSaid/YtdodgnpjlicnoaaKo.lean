/- Helpers of the laws of chapter 24: small, SamePoints, Count. -/
import Derived.Test.YtdodgnpjlicnoaaE24
namespace Go.Proofs.Ytdodgnpjlicnoaa
section
open Go.RowKit
attribute [local go_sem ↓] Go.wp_at_zero Go.wp_at_succ
set_option linter.unusedVariables false
set_option linter.unusedSimpArgs false
theorem poly_ok {cl : Bool} {L : List Pt} {wd jn cp ml ph : Int} {D : List Int} (h : polyE cl L wd jn cp ml ph D = 0) :
    vRows 0 (polyL cl L wd jn cp ml ph D) = true ∧ (∀ r ∈ polyL cl L wd jn cp ml ph D, 3 ≤ r.length ∧ 1 ≤ area r) := by
  have e : polyL cl L wd jn cp ml ph D = ringsL cl (dedC cl L) wd jn cp ml ph D := by unfold polyL; rw [if_pos h]
  rw [e]
  unfold polyE at h
  split at h
  · omega
  split at h
  · omega
  split at h
  · omega
  split at h
  · omega
  rename_i hv
  split at h
  · omega
  rename_i hc
  refine ⟨vRows_cnt _ 0 (by simpa using hv) (by omega), fun r hr => ?_⟩
  have h1 := ringsL_area _ _ _ _ _ _ _ _ r hr
  exact ⟨area_three r h1, by omega⟩
theorem poly_err {cl : Bool} {L : List Pt} {wd jn cp ml ph : Int} {D : List Int} (h : polyE cl L wd jn cp ml ph D ≠ 0) : polyL cl L wd jn cp ml ph D = [] := by
  unfold polyL; rw [if_neg h]
set_option maxHeartbeats 400000 in
theorem small_any (cl : Bool) (A : Option Addr) (n c : Nat) (w : World) : Calls Try.prog 30 #[.agg #[.slice A n c, .bool cl]] w fun e w' => e = .returned (.bool (decide (n ≤ 300))) ∧ Keeps w w' := by
  by_cases h : n ≤ 300
  · have hi : (n : Int) ≤ 300 := by omega
    rw [decide_eq_true h]
    go_enter Try.func30, Try.ntmps30
    go_wp2_with fail
    go_ret
    exact ⟨by first | rfl | simp, (Keeps.refl _).alloc _⟩
  · have hi : ¬ (n : Int) ≤ 300 := by omega
    rw [decide_eq_false h]
    go_enter Try.func30, Try.ntmps30
    go_wp2_with fail
    go_ret
    exact ⟨by first | rfl | simp, (Keeps.refl _).alloc _⟩
set_option maxRecDepth 100000 in
set_option maxHeartbeats 1000000 in
theorem samepts_any (A B : Option Addr) (n c c2 : Nat) (L : List Pt) (w : World) (h : Pts w A n c L) (h2 : Pts w B n c2 L) :
    Calls Try.prog 29 #[.slice A n c, .slice B n c2] w fun e w' => e = .returned (.bool true) ∧ Keeps w w' := by
  have hmx := h.2.2.1
  have hmx : (n : Int) ≤ 9223372036854775807 := by have := h.2.1; unfold maxLen at hmx; omega
  have g5 := ptNeq
  have HA := Lib.hid h
  have HB := Lib.hid h2
  have q0 : ((n : Int) != n) = false := by simp
  clear h h2
  go_enter Try.func29, Try.ntmps29
  go_wp2_with fail
  go_loopw [5] (fun i wr => ∃ j : Nat, j ≤ n ∧ i = .int .i64 j ∧ Keeps w wr) (fun i _ => n - (intOf i).toNat)
  case atStart => exact ⟨0, by omega, rfl, Keeps.refl _⟩
  case round =>
    obtain ⟨j, hj, rfl, hkw⟩ := hrel
    by_cases hlt : j < n
    · obtain ⟨b1, o1, rfl, hb1, hc1⟩ := HA.out.2.2.2.2 (by omega)
      obtain ⟨b2, o2, rfl, hb2, hc2⟩ := HB.out.2.2.2.2 (by omega)
      obtain ⟨c0, c1⟩ := (hc1 j hlt).keep hb1 hkw
      obtain ⟨d0, d1⟩ := (hc2 j hlt).keep hb2 hkw
      have hlt2 : (j : Int) < n := by omega
      clear hc1 hc2
      generalize L.getD j pt0 = p at *
      have t1 : (p.1 == p.1) = true := beq_self_eq_true _
      have t2 : (p.2 == p.2) = true := beq_self_eq_true _
      go_wp2_with fail
      go_quiet (fail)
      go_wp2_with fail
      go_roundw
      case rel => exact ⟨j + 1, by omega, by go_num, hkw.drewN _⟩
      case measure => simp [intOf]; omega
    · obtain rfl : j = n := by omega
      go_wp2_with fail
      go_ret
      exact ⟨rfl, hkw⟩
set_option maxRecDepth 100000 in
set_option maxHeartbeats 1000000 in
theorem count_any (A : Option Addr) (n c : Nat) (LL : List (List Pt)) (w : World) (h : Rws w A n c LL) (hn : n ≤ 1000000) (hM : ∀ r ∈ LL, r.length ≤ 1000000) :
    Calls Try.prog 37 #[.slice A n c] w fun e w' => e = .returned (.int .i64 (cnt LL)) ∧ Keeps w w' := by
  have hl := h.1
  have hni : (n : Int) ≤ 1000000 := by omega
  have HS := Lib.hid h
  have hC := Lib.hid (fun k => (cnt_le 1000000 (LL.take k) (fun r hr => hM r (List.mem_of_mem_take hr))))
  have hM := Lib.hid hM
  clear h
  go_enter Try.func37, Try.ntmps37
  go_wp2_with fail
  go_loopw [3, 4] (fun a i wr => ∃ (j x : Nat), j ≤ n ∧ i = .int .i64 j ∧ a = .int .i64 x ∧ Keeps w wr ∧ Hid (x = cnt (LL.take j))) (fun _ i _ => n - (intOf i).toNat)
  case atStart => exact ⟨0, 0, by omega, rfl, rfl, Keeps.refl _, Lib.hid rfl⟩
  case round =>
    obtain ⟨j, x, hj, rfl, rfl, hkw, hR⟩ := hrel
    have hxb : x ≤ 1000000000000 := by
      have h1 := hC.out j
      have h2 := hR.out
      rw [List.length_take] at h1
      have h3 : min j LL.length * 1000000 ≤ 1000000 * 1000000 := Nat.mul_le_mul_right _ (by omega)
      omega
    have hxi : (x : Int) ≤ 1000000000000 := by omega
    by_cases hlt : j < n
    · obtain ⟨b, o, rfl, hb, hc⟩ := HS.out.2.2.2 (by omega)
      obtain ⟨Ak, nk, ck, c0, hP, hnk⟩ := hc j hlt
      have c0 := (hkw.cell hb).trans c0
      have hnl := hP.1
      have hnM : nk ≤ 1000000 := by
        rw [← hnl]; refine hM.out _ ?_
        rw [List.getD_eq_getElem?_getD, List.getElem?_eq_getElem (by omega)]; exact List.getElem_mem _
      have hni : (nk : Int) ≤ 1000000 := by omega
      have hT := Lib.hid (show x + nk = cnt (LL.take (j + 1)) by rw [cnt_take LL j (by omega), hR.out, hnl])
      clear hP hc hnl
      have hlt2 : (j : Int) < n := by omega
      go_wp2_with fail
      go_roundw
      case rel => exact ⟨j + 1, x + nk, by omega, by go_num, by go_num, hkw, hT⟩
      case measure => simp [intOf]; omega
    · obtain rfl : j = n := by omega
      have hf := Lib.hid (show x = cnt LL by have := hR.out; rw [List.take_of_length_le (by omega)] at this; exact this)
      go_wp2_with fail
      go_ret
      exact ⟨ret_i64 (show (x : Int) = cnt LL by rw [hf.out]), hkw⟩
end
end Go.Proofs.Ytdodgnpjlicnoaa
