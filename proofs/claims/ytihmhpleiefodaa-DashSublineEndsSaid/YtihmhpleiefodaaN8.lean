/- Contracts of reference 01: up, by less than a digit. -/
import Derived.Test.YtihmhpleiefodaaChecked
import Derived.Test.YtihmhpleiefodaaSl
import Derived.Deep.QuietTactic
import Derived.BigQuiet
namespace Go.Proofs.Ytihmhpleiefodaa
section
section
open Go.RowKit
set_option linter.unusedVariables false
set_option linter.unusedSimpArgs false

set_option maxRecDepth 100000 in
set_option maxHeartbeats 400000 in
theorem digit_any (D : List Nat) (A : Option Addr) (n c : Nat) (i : Int) (w : World) (h : Dg w A n c D) (hi : -1 ≤ i) (hi2 : i ≤ 9223372036854775807) :
    Calls Try.prog 92 #[.slice A n c, .int .i64 i] w fun e w' => e = .returned (.int .u64 (if 0 ≤ i then (D.getD i.toNat 0 : Int) else 0)) ∧ w = w' := by
  have hn := h.max
  by_cases h0 : i < 0
  · rw [if_neg (by omega)]
    have t0 : decide (i < 0) = true := decide_eq_true h0
    go_enter Try.func92, Try.ntmps92
    go_wp2
    go_ret
    exact ⟨rfl, rfl⟩
  · rw [if_pos (by omega)]
    obtain ⟨k, rfl⟩ := Int.eq_ofNat_of_zero_le (show 0 ≤ i by omega)
    have t0 : decide ((k : Int) < 0) = false := decide_eq_false h0
    rw [Int.toNat_natCast]
    by_cases hk : k < n
    · obtain ⟨b, o, rfl, hb, hc⟩ := h.at_ hk
      have hd := isD.getD h.2 k
      generalize D.getD k 0 = d at *
      have t1 : decide ((n : Int) ≤ k) = false := decide_eq_false (by omega)
      clear h
      go_enter Try.func92, Try.ntmps92
      go_wp2
      go_ret
      exact ⟨rfl, rfl⟩
    · have e : D.getD k 0 = 0 := by
        rw [List.getD_eq_getElem?_getD, List.getElem?_eq_none (by rw [h.len]; omega)]; rfl
      rw [e]
      have t1 : decide ((n : Int) ≤ k) = true := decide_eq_true (by omega)
      clear e
      go_enter Try.func92, Try.ntmps92
      go_wp2
      go_ret
      exact ⟨rfl, rfl⟩
theorem digit_nat (D : List Nat) (A : Option Addr) (n c k : Nat) (w w0 : World) (h : Dg w0 A n c D) (hk : Keeps w0 w) (hi : (k : Int) ≤ 9223372036854775807) :
    Calls Try.prog 92 #[.slice A n c, .int .i64 (k : Int)] w fun e w' => e = .returned (.int .u64 ((D.getD k 0 : Nat) : Int)) ∧ w = w' := by
  have := digit_any D A n c k w (h.keep hk) (by omega) hi
  rwa [if_pos (by omega), Int.toNat_natCast] at this
end

section
open Go.RowKit
set_option linter.unusedVariables false
set_option linter.unusedSimpArgs false
theorem u32_info : (Try.prog.info? 108).map (fun i => (i.zero, i.size, i.bytes)) = some (some (.int .u32 0), 1, 4) := by kernel_rfl
set_option maxRecDepth 100000 in
set_option maxHeartbeats 1000000 in
theorem normalize_any (D : List Nat) (A : Option Addr) (n c : Nat) (w : World) (h : Dg w A n c D) (hsm : n ≤ 100000) :
    Calls Try.prog 88 #[.slice A n c] w (RetDg w (dig (nv D))) := by
  have hl := Lib.hid h.len
  have HD := Lib.hid h
  obtain ⟨i0, hi, hz0, hz1, hz2⟩ := info_parts u32_info
  clear h
  go_enter Try.func88, Try.ntmps88
  go_wp2
  go_loop [3] (fun t => ∃ k : Nat, k ≤ n ∧ t = .int .i64 k ∧ Hid (∀ j, k ≤ j → D.getD j 0 = 0)) (fun t => (intOf t).toNat)
  case atStart => exact ⟨n, Nat.le_refl _, rfl, fun j hj => by rw [List.getD_eq_getElem?_getD, List.getElem?_eq_none (by rw [hl.out]; exact hj)]; rfl⟩
  case round =>
    obtain ⟨k, hk, rfl, hz⟩ := hrel
    by_cases hgo : k ≠ 0 ∧ D.getD (k - 1) 0 = 0
    · obtain ⟨hk0, hd⟩ := hgo
      obtain ⟨b, o, rfl, hb, hc⟩ := HD.out.at_ (k := k - 1) (by omega)
      have hd' := Lib.hid hd
      rw [hd] at hc
      clear hd
      have t1 : decide ((0 : Int) < k) = true := decide_eq_true (by omega)
      go_wp2
      go_round
      case rel => exact ⟨k - 1, by omega, by go_num, fun j hj => by
        rcases Nat.lt_or_ge j k with h | h
        · rw [show j = k - 1 by omega]; exact hd'.out
        · exact hz j h⟩
      case measure => simp [intOf]; omega
    · have hT := Lib.hid (take_dig (n := k) HD.out.2 (by rw [hl.out]; exact hk) hz (fun h0 hd => hgo ⟨h0, hd⟩))
      clear hz
      by_cases hk0 : 0 < k
      · obtain ⟨b, o, rfl, hb', hc⟩ := HD.out.at_ (k := k - 1) (by omega)
        obtain ⟨d, hd, hd0⟩ : ∃ d, D.getD (k - 1) 0 = d ∧ ((d : Int) == 0) = false := ⟨_, rfl, by simpa using fun e => hgo ⟨by omega, e⟩⟩
        rw [hd] at hc
        clear hd hgo
        go_wp2
        clear hc hd0
        go_loopw [4, 5] (fun v i wr => ∃ j : Nat, j ≤ k ∧ i = .int .i64 j ∧ wr.ownsRow w.heap.size 108 1 v j (d32 (D.take j)) ∧ Keeps w wr) (fun _ i _ => k - (intOf i).toNat)
        case atStart => exact ⟨0, by omega, rfl, World.ownsRow_lit w #[] 0 (Nat.le_refl _) (by unfold maxLen; omega) (by simp), by exact (Keeps.refl _).alloc _⟩
        case round =>
          obtain ⟨j, hj, rfl, hown, hkw⟩ := hrel
          by_cases hlt : j < k
          · obtain ⟨hb, hc0⟩ := HD.out.cellAt (k := j) (by omega)
            have hc := (hkw.cell (p := ⟨b, o + j, none⟩) hb).trans hc0
            have hT1 := Lib.hid (take_snoc' hl.out (show j < n by omega))
            generalize D.getD j 0 = d at *
            clear hc0
            go_wp2_with (at_builtin; refine wpList_append_own _ rfl _ _ 95 rfl w.heap.size 108 i0 (.int .u32 0) 1 4 Try.underlying95 hi hz0 hz1 hz2 rfl (by decide) _ _ _ rfl (hown.alloc _) ⟨wr.heap.size, 0, none⟩ 1 1 [.int .u32 (d : Int)] rfl rfl (one_new _ _ _) (by intro u hu; simp at hu; subst hu; rfl) (by unfold maxLen; omega) (by omega) (by have := hkw.size; simp; omega) ?_; intro v1 w1 hown1 hgrow1 _; have hk1 := below_own hkw rfl hown hgrow1; clear hgrow1; rw [d32_snoc, ← hT1.out] at hown1)
            go_roundw
            case rel => exact ⟨j + 1, by omega, by go_num, by assumption, by assumption⟩
            case measure => simp [intOf]; omega
          · obtain rfl : j = k := by omega
            rw [hT.out] at hown
            obtain ⟨A', c', rfl, hD'⟩ := Dg.of_own hown (isD_dig _)
            have hfr : Fr w A' := own_fresh hown
            have hl2 : (dig (nv D)).length = j := hD'.len
            have hret : RetDg w (dig (nv D)) (.returned (.slice A' j c')) wr := ⟨A', c', by rw [hl2], by rw [hl2]; exact hD', hkw, hfr⟩
            clear hl2 hown hT hl HD
            go_wp2
            go_ret
            exact hret
      · clear hgo
        go_wp2
        clear hk0
        go_loopw [4, 5] (fun v i wr => ∃ j : Nat, j ≤ k ∧ i = .int .i64 j ∧ wr.ownsRow w.heap.size 108 1 v j (d32 (D.take j)) ∧ Keeps w wr) (fun _ i _ => k - (intOf i).toNat)
        case atStart => exact ⟨0, by omega, rfl, World.ownsRow_lit w #[] 0 (Nat.le_refl _) (by unfold maxLen; omega) (by simp), by exact (Keeps.refl _).alloc _⟩
        case round =>
          obtain ⟨j, hj, rfl, hown, hkw⟩ := hrel
          by_cases hlt : j < k
          · obtain ⟨b, o, rfl, hb, hc0⟩ := HD.out.at_ (k := j) (by omega)
            have hc := (hkw.cell (p := ⟨b, o + j, none⟩) hb).trans hc0
            have hT1 := Lib.hid (take_snoc' hl.out (show j < n by omega))
            generalize D.getD j 0 = d at *
            clear hc0
            go_wp2_with (at_builtin; refine wpList_append_own _ rfl _ _ 95 rfl w.heap.size 108 i0 (.int .u32 0) 1 4 Try.underlying95 hi hz0 hz1 hz2 rfl (by decide) _ _ _ rfl (hown.alloc _) ⟨wr.heap.size, 0, none⟩ 1 1 [.int .u32 (d : Int)] rfl rfl (one_new _ _ _) (by intro u hu; simp at hu; subst hu; rfl) (by unfold maxLen; omega) (by omega) (by have := hkw.size; simp; omega) ?_; intro v1 w1 hown1 hgrow1 _; have hk1 := below_own hkw rfl hown hgrow1; clear hgrow1; rw [d32_snoc, ← hT1.out] at hown1)
            go_roundw
            case rel => exact ⟨j + 1, by omega, by go_num, by assumption, by assumption⟩
            case measure => simp [intOf]; omega
          · obtain rfl : j = k := by omega
            rw [hT.out] at hown
            obtain ⟨A', c', rfl, hD'⟩ := Dg.of_own hown (isD_dig _)
            have hfr : Fr w A' := own_fresh hown
            have hl2 : (dig (nv D)).length = j := hD'.len
            have hret : RetDg w (dig (nv D)) (.returned (.slice A' j c')) wr := ⟨A', c', by rw [hl2], by rw [hl2]; exact hD', hkw, hfr⟩
            clear hl2 hown hT hl HD
            go_wp2
            go_ret
            exact hret
end

section
open Go.RowKit
set_option linter.unusedVariables false
set_option linter.unusedSimpArgs false
theorem RetDg.of_norm {w w1 w' : World} {L : List Nat} {x : Nat} {e : Ending} (h : RetDg w1 (dig (nv L)) e w') (hx : nv L = x) (hk : Keeps w w1) : RetDg w (dig x) e w' := by
  subst hx; exact h.mono hk

set_option maxRecDepth 100000 in
set_option maxHeartbeats 1000000 in
theorem add1_any (D E : List Nat) (A B : Option Addr) (n c m c2 : Nat) (w : World) (h : Dg w A n c D) (h2 : Dg w B m c2 E) (hsm : n ≤ 1000) (hsm2 : m ≤ 1000) :
    Calls Try.prog 81 #[.slice A n c, .slice B m c2] w (RetDg w (dig (nv D + nv E))) := by
  have hl := Lib.hid h.len
  have hl2 := Lib.hid h2.len
  have HD := Lib.hid h
  have HE := Lib.hid h2
  obtain ⟨i0, hi, hz0, hz1, hz2⟩ := info_parts u32_info
  clear h h2
  by_cases hnm : n < m
  all_goals
    go_enter Try.func81, Try.ntmps81
    go_wp2
    go_loopw [5, 6, 7] (fun v cy i wr => ∃ (j x : Nat) (L : List Nat), j ≤ max n m ∧ i = .int .i64 j ∧ cy = .int .u64 x ∧ Hid (AddR D E j L x) ∧ wr.ownsRow w.heap.size 108 1 v j (d32 L) ∧ Keeps w wr) (fun _ _ i _ => max n m - (intOf i).toNat)
    case atStart => exact ⟨0, 0, [], by omega, rfl, rfl, AddR.zero _ _, World.ownsRow_lit w #[] 0 (Nat.le_refl _) (by unfold maxLen; omega) (by simp), by exact (Keeps.refl _).alloc _⟩
    case round =>
      obtain ⟨j, x, L, hj, rfl, rfl, hR, hown, hkw⟩ := hrel
      by_cases hlt : j < max n m
      · have R1 := Lib.hid (hR.out.step HD.out.2 HE.out.2)
        have bx := hR.out.2.2.1
        have b1 := isD.getD HD.out.2 j
        have b2 := isD.getD HE.out.2 j
        have G1 := Lib.hid (fun w' hk => digit_nat D A n c j w' w HD.out hk (by omega))
        have G2 := Lib.hid (fun w' hk => digit_nat E B m c2 j w' w HE.out hk (by omega))
        generalize D.getD j 0 = p at *
        generalize E.getD j 0 = q at *
        go_wp2_with (first | (go_at_call 92; (with_reducible refine (G1.out _ (by assumption)).mono ?_); rintro e w1 ⟨rfl, rfl⟩) | (go_at_call 92; (with_reducible refine (G2.out _ (by assumption)).mono ?_); rintro e w1 ⟨rfl, rfl⟩) | (at_builtin; refine wpList_append_own _ rfl _ _ 95 rfl w.heap.size 108 i0 (.int .u32 0) 1 4 Try.underlying95 hi hz0 hz1 hz2 rfl (by decide) _ _ _ rfl (hown.alloc _) ⟨wr.heap.size, 0, none⟩ 1 1 [.int .u32 (((p : Int) + q + x) % 4294967296)] rfl rfl (one_new _ _ _) (by intro u hu; simp at hu; subst hu; rfl) (by unfold maxLen; omega) (by omega) (by have := hkw.size; simp; omega) ?_; intro v1 w1 hown1 hgrow1 _; have hk1 := below_own hkw rfl hown hgrow1; clear hgrow1; (rw [show ((((p : Int) + q + x) % 4294967296) : Int) = (((p + q + x) % 4294967296 : Nat) : Int) by omega, d32_snoc] at hown1); skip))
        go_roundw
        case rel => exact ⟨j + 1, (p + q + x) / 4294967296, L ++ [(p + q + x) % 4294967296], by omega, by go_num, by go_num, R1.out, by assumption, by assumption⟩
        case measure => simp [intOf]; omega
      · obtain rfl : j = max n m := by omega
        have R1 := hR.out
        rw [← hl.out, ← hl2.out] at R1
        have R2 := Lib.hid R1.done
        have bx := R1.2.2.1
        clear R1 hR
        go_wp2_with (first | (at_builtin; refine wpList_append_own _ rfl _ _ 95 rfl w.heap.size 108 i0 (.int .u32 0) 1 4 Try.underlying95 hi hz0 hz1 hz2 rfl (by decide) _ _ _ rfl (hown.alloc _) ⟨wr.heap.size, 0, none⟩ 1 1 [.int .u32 ((x : Int))] rfl rfl (one_new _ _ _) (by intro u hu; simp at hu; subst hu; rfl) (by unfold maxLen; omega) (by omega) (by have := hkw.size; simp; omega) ?_; intro v1 w1 hown1 hgrow1 _; have hk1 := below_own hkw rfl hown hgrow1; clear hgrow1; (rw [show (((x : Int)) : Int) = ((x : Nat) : Int) by omega, d32_snoc] at hown1); (obtain ⟨A1, c1, ev1, hD1⟩ := Dg.of_own hown1 (R2.out.1)); subst ev1) | (go_at_call 88; (with_reducible refine (normalize_any _ _ _ _ _ hD1 (by omega)).mono ?_); intro e w2 hret; have hret2 := hret; obtain ⟨A2, c2, rfl, hD2, hk2, hF2⟩ := hret))
        go_ret
        exact RetDg.of_norm (by assumption) R2.out.2 (by assumption)
end

section
open Go.RowKit
set_option linter.unusedVariables false
set_option linter.unusedSimpArgs false

theorem mul_nat (p d : Nat) (h : p < 4294967296) (h2 : d < 4294967296) : ∃ m : Nat, p * d = m ∧ (p : Int) * (d : Int) = (m : Int) ∧ m ≤ 18446744065119617025 :=
  ⟨_, rfl, by simp, by have := Nat.mul_le_mul (show p ≤ 4294967295 by omega) (show d ≤ 4294967295 by omega); omega⟩
set_option maxRecDepth 100000 in
set_option maxHeartbeats 1000000 in
theorem times_any (D : List Nat) (A : Option Addr) (n c d : Nat) (w : World) (h : Dg w A n c D) (hsm : n ≤ 1000) (hd : d < 4294967296) :
    Calls Try.prog 95 #[.slice A n c, .int .u64 (d : Int)] w (RetDg w (dig (nv D * d))) := by
  have hl := Lib.hid h.len
  have HD := Lib.hid h
  obtain ⟨i0, hi, hz0, hz1, hz2⟩ := info_parts u32_info
  clear h
  go_enter Try.func95, Try.ntmps95
  go_wp2
  go_loopw [5, 6, 7] (fun v cy i wr => ∃ (j x : Nat) (L : List Nat), j ≤ n ∧ i = .int .i64 j ∧ cy = .int .u64 x ∧ Hid (TimesR D d j L x) ∧ wr.ownsRow w.heap.size 108 1 v j (d32 L) ∧ Keeps w wr) (fun _ _ i _ => n - (intOf i).toNat)
  case atStart => exact ⟨0, 0, [], by omega, rfl, rfl, TimesR.zero _ _, World.ownsRow_lit w #[] 0 (Nat.le_refl _) (by unfold maxLen; omega) (by simp), by exact (Keeps.refl _).alloc _⟩
  case round =>
    obtain ⟨j, x, L, hj, rfl, rfl, hR, hown, hkw⟩ := hrel
    by_cases hlt : j < n
    · have R1 := Lib.hid (hR.out.step HD.out.2 hd)
      have bx := hR.out.2.2.1
      have b1 := isD.getD HD.out.2 j
      obtain ⟨b, o, rfl, hb, hc0⟩ := HD.out.at_ (k := j) hlt
      have hc := (hkw.cell (p := ⟨b, o + j, none⟩) hb).trans hc0
      clear hc0
      generalize D.getD j 0 = p at *
      obtain ⟨m, em, em2, bm⟩ := mul_nat p d b1 hd
      rw [em] at R1
      clear em
      go_wp2_with (at_builtin; refine wpList_append_own _ rfl _ _ 95 rfl w.heap.size 108 i0 (.int .u32 0) 1 4 Try.underlying95 hi hz0 hz1 hz2 rfl (by decide) _ _ _ rfl (hown.alloc _) ⟨wr.heap.size, 0, none⟩ 1 1 [.int .u32 (((m : Int) + x) % 4294967296)] rfl rfl (one_new _ _ _) (by intro u hu; simp at hu; subst hu; rfl) (by unfold maxLen; omega) (by omega) (by have := hkw.size; simp; omega) ?_; intro v1 w1 hown1 hgrow1 _; have hk1 := below_own hkw rfl hown hgrow1; clear hgrow1; (rw [show ((((m : Int) + x) % 4294967296) : Int) = (((m + x) % 4294967296 : Nat) : Int) by omega, d32_snoc] at hown1); skip)
      go_roundw
      case rel => exact ⟨j + 1, (m + x) / 4294967296, L ++ [(m + x) % 4294967296], by omega, by go_num, by go_num, R1.out, by assumption, by assumption⟩
      case measure => simp [intOf]; omega
    · obtain rfl : j = n := by omega
      have R1 := hR.out
      rw [← hl.out] at R1
      have R2 := Lib.hid R1.done
      have bx := R1.2.2.1
      clear R1 hR
      go_wp2_with (first | (at_builtin; refine wpList_append_own _ rfl _ _ 95 rfl w.heap.size 108 i0 (.int .u32 0) 1 4 Try.underlying95 hi hz0 hz1 hz2 rfl (by decide) _ _ _ rfl (hown.alloc _) ⟨wr.heap.size, 0, none⟩ 1 1 [.int .u32 ((x : Int))] rfl rfl (one_new _ _ _) (by intro u hu; simp at hu; subst hu; rfl) (by unfold maxLen; omega) (by omega) (by have := hkw.size; simp; omega) ?_; intro v1 w1 hown1 hgrow1 _; have hk1 := below_own hkw rfl hown hgrow1; clear hgrow1; (rw [show (((x : Int)) : Int) = ((x : Nat) : Int) by omega, d32_snoc] at hown1); (obtain ⟨A1, c1, ev1, hD1⟩ := Dg.of_own hown1 (R2.out.1)); subst ev1) | (go_at_call 88; (with_reducible refine (normalize_any _ _ _ _ _ hD1 (by omega)).mono ?_); intro e w2 hret; have hret2 := hret; obtain ⟨A2, c2, rfl, hD2, hk2, hF2⟩ := hret))
      go_ret
      exact RetDg.of_norm (by assumption) R2.out.2 (by assumption)
end
end

section
section
open Go.RowKit
set_option linter.unusedVariables false
set_option linter.unusedSimpArgs false

def cmpN (a b : Nat) : Int := if a < b then -1 else if b < a then 1 else 0
theorem cmpN_lt {a b : Nat} (h : a < b) : cmpN a b = -1 := by unfold cmpN; rw [if_pos h]
theorem cmpN_gt {a b : Nat} (h : b < a) : cmpN a b = 1 := by unfold cmpN; rw [if_neg (by omega), if_pos h]
theorem cmpN_eq {a b : Nat} (h : a = b) : cmpN a b = 0 := by unfold cmpN; rw [if_neg (by omega), if_neg (by omega)]
set_option maxRecDepth 100000 in
set_option maxHeartbeats 1000000 in
theorem cmp1_any (D E : List Nat) (A B : Option Addr) (n c m c2 : Nat) (w : World) (h : Dg w A n c D) (h2 : Dg w B m c2 E) (hsm : n ≤ 1000) (hsm2 : m ≤ 1000) :
    Calls Try.prog 96 #[.slice A n c, .slice B m c2] w fun e w' => e = .returned (.int .i64 (cmpN (nv D) (nv E))) ∧ w = w' := by
  have hl := Lib.hid h.len
  have hl2 := Lib.hid h2.len
  have HD := Lib.hid h
  have HE := Lib.hid h2
  clear h h2
  by_cases hnm : n < m
  all_goals
    go_enter Try.func96, Try.ntmps96
    go_wp2
    go_loop [5] (fun t => ∃ i : Int, -1 ≤ i ∧ i < max n m ∧ t = .int .i64 i ∧ Hid (∀ j : Nat, i < j → D.getD j 0 = E.getD j 0)) (fun t => (intOf t + 1).toNat)
    case atStart => exact ⟨_, by omega, by omega, rfl, fun j hj => by
      rw [List.getD_eq_getElem?_getD, List.getD_eq_getElem?_getD, List.getElem?_eq_none (by rw [hl.out]; omega), List.getElem?_eq_none (by rw [hl2.out]; omega)]⟩
    case round =>
      obtain ⟨i, hi0, hi1, rfl, hz⟩ := hrel
      by_cases hlt : 0 ≤ i
      · obtain ⟨k, rfl⟩ := Int.eq_ofNat_of_zero_le hlt
        have G1 := Lib.hid (fun w' hk => digit_nat D A n c k w' w HD.out hk (by omega))
        have G2 := Lib.hid (fun w' hk => digit_nat E B m c2 k w' w HE.out hk (by omega))
        have hK := Keeps.refl w
        have hlt' : Hid (D.getD k 0 < E.getD k 0 → nv D < nv E) := nv_cmp_lt HD.out.2 k (fun j hj => hz j (by omega))
        have hgt' : Hid (E.getD k 0 < D.getD k 0 → nv E < nv D) := nv_cmp_lt HE.out.2 k (fun j hj => (hz j (by omega)).symm)
        have hz' : Hid (D.getD k 0 = E.getD k 0 → ∀ j : Nat, (k : Int) - 1 < j → D.getD j 0 = E.getD j 0) := fun he j hj => by
          rcases Nat.lt_or_ge k j with h | h
          · exact hz j (by omega)
          · rw [show j = k by omega]; exact he
        clear hz
        generalize D.getD k 0 = p at *
        generalize E.getD k 0 = q at *
        by_cases h1 : p < q
        · have R := Lib.hid (cmpN_lt (hlt'.out h1))
          go_wp2_with (first | (go_at_call 92; (with_reducible refine (G1.out _ (by assumption)).mono ?_); rintro e w1 ⟨rfl, rfl⟩) | (go_at_call 92; (with_reducible refine (G2.out _ (by assumption)).mono ?_); rintro e w1 ⟨rfl, rfl⟩))
          go_ret
          exact ⟨by rw [R.out]; rfl, rfl⟩
        · by_cases h2 : q < p
          · have R := Lib.hid (cmpN_gt (hgt'.out h2))
            go_wp2_with (first | (go_at_call 92; (with_reducible refine (G1.out _ (by assumption)).mono ?_); rintro e w1 ⟨rfl, rfl⟩) | (go_at_call 92; (with_reducible refine (G2.out _ (by assumption)).mono ?_); rintro e w1 ⟨rfl, rfl⟩))
            go_ret
            exact ⟨by rw [R.out]; rfl, rfl⟩
          · go_wp2_with (first | (go_at_call 92; (with_reducible refine (G1.out _ (by assumption)).mono ?_); rintro e w1 ⟨rfl, rfl⟩) | (go_at_call 92; (with_reducible refine (G2.out _ (by assumption)).mono ?_); rintro e w1 ⟨rfl, rfl⟩))
            go_round
            case rel => exact ⟨_, by omega, by omega, rfl, hz'.out (by omega)⟩
            case measure => first | (simp [intOf]; done) | (simp [intOf]; omega)
      · have R := Lib.hid (cmpN_eq (nv_ext fun j => hz j (by omega)))
        go_wp2
        go_ret
        exact ⟨by rw [R.out]; rfl, rfl⟩
end

section
open Go.RowKit
set_option linter.unusedVariables false
set_option linter.unusedSimpArgs false

theorem cmpN_ge0 {a b : Nat} (h : b ≤ a) : 0 ≤ cmpN a b := by unfold cmpN; rw [if_neg (by omega)]; split <;> omega
/-- Two results: a []uint32 in new memory, and true. -/
def RetDgT (w0 : World) (D : List Nat) (e : Ending) (w' : World) : Prop := ∃ A c, e = .returned (.tuple #[.slice A D.length c, .bool true]) ∧ Dg w' A D.length c D ∧ Keeps w0 w' ∧ Fr w0 A
theorem RetDgT.of {w w1 w2 : World} {L : List Nat} {x : Nat} {A : Option Addr} {c : Nat} (h : Dg w2 A (dig (nv L)).length c (dig (nv L))) (hx : nv L = x) (hk : Keeps w w1) (hk2 : Keeps w1 w2) (hf : Fr w1 A) :
    RetDgT w (dig x) (.returned (.tuple #[.slice A (dig (nv L)).length c, .bool true])) w2 := by
  subst hx; exact ⟨A, c, rfl, h, hk.trans hk2, hf.back hk⟩
set_option maxRecDepth 100000 in
set_option maxHeartbeats 1000000 in
theorem sub1_lt (D E : List Nat) (A B : Option Addr) (n c m c2 : Nat) (w : World) (h : Dg w A n c D) (h2 : Dg w B m c2 E) (hsm : n ≤ 1000) (hsm2 : m ≤ 1000) (hlt : nv D < nv E) :
    Calls Try.prog 97 #[.slice A n c, .slice B m c2] w fun e w' => e = .returned (.tuple #[.slice none 0 0, .bool false]) ∧ w = w' := by
  have G0 := Lib.hid (fun w' (hk : Keeps w w') => cmp1_any D E A B n c m c2 w' (h.keep hk) (h2.keep hk) hsm hsm2)
  rw [cmpN_lt hlt] at G0
  have hK := Keeps.refl w
  go_enter Try.func97, Try.ntmps97
  go_wp2_with (go_at_call 96; (with_reducible refine (G0.out _ (by assumption)).mono ?_); rintro e w1 ⟨rfl, rfl⟩)
  go_ret2
  exact ⟨rfl, rfl⟩
set_option maxRecDepth 100000 in
set_option maxHeartbeats 1000000 in
theorem sub1_ge (D E : List Nat) (A B : Option Addr) (n c m c2 : Nat) (w : World) (h : Dg w A n c D) (h2 : Dg w B m c2 E) (hsm : n ≤ 1000) (hsm2 : m ≤ 1000) (hle : nv E ≤ nv D) :
    Calls Try.prog 97 #[.slice A n c, .slice B m c2] w (RetDgT w (dig (nv D - nv E))) := by
  have G0 := Lib.hid (fun w' (hk : Keeps w w') => cmp1_any D E A B n c m c2 w' (h.keep hk) (h2.keep hk) hsm hsm2)
  have hr0 := cmpN_ge0 hle
  generalize cmpN (nv D) (nv E) = r at *
  have hl := Lib.hid h.len
  have hl2 := Lib.hid h2.len
  have HD := Lib.hid h
  have HE := Lib.hid h2
  have hle := Lib.hid hle
  obtain ⟨i0, hi, hz0, hz1, hz2⟩ := info_parts u32_info
  have hK := Keeps.refl w
  clear h h2
  go_enter Try.func97, Try.ntmps97
  go_wp2_with (go_at_call 96; (with_reducible refine (G0.out _ (by assumption)).mono ?_); rintro e w1 ⟨rfl, rfl⟩)
  go_loopw [6, 7, 8] (fun v cy i wr => ∃ (j x : Nat) (L : List Nat), j ≤ n ∧ i = .int .i64 j ∧ cy = .int .u64 x ∧ Hid (SubR D E j L x) ∧ wr.ownsRow w.heap.size 108 1 v j (d32 L) ∧ Keeps w wr) (fun _ _ i _ => n - (intOf i).toNat)
  case atStart => exact ⟨0, 0, [], by omega, rfl, rfl, SubR.zero _ _, World.ownsRow_lit w #[] 0 (Nat.le_refl _) (by unfold maxLen; omega) (by simp), by exact (Keeps.refl _).alloc _⟩
  case round =>
    obtain ⟨j, x, L, hj, rfl, rfl, hR, hown, hkw⟩ := hrel
    by_cases hlt : j < n
    · have R1 := Lib.hid (hR.out.step HD.out.2 HE.out.2)
      have bx := hR.out.2.2.1
      have b1 := isD.getD HD.out.2 j
      have b2 := isD.getD HE.out.2 j
      have G1 := Lib.hid (fun w' hk => digit_nat D A n c j w' w HD.out hk (by omega))
      have G2 := Lib.hid (fun w' hk => digit_nat E B m c2 j w' w HE.out hk (by omega))
      generalize D.getD j 0 = p at *
      generalize E.getD j 0 = q at *
      go_wp2_with (first | (go_at_call 92; (with_reducible refine (G1.out _ (by assumption)).mono ?_); rintro e w1 ⟨rfl, rfl⟩) | (go_at_call 92; (with_reducible refine (G2.out _ (by assumption)).mono ?_); rintro e w1 ⟨rfl, rfl⟩) | (at_builtin; refine wpList_append_own _ rfl _ _ 95 rfl w.heap.size 108 i0 (.int .u32 0) 1 4 Try.underlying95 hi hz0 hz1 hz2 rfl (by decide) _ _ _ rfl (hown.alloc _) ⟨wr.heap.size, 0, none⟩ 1 1 [.int .u32 ((4294967296 + (p : Int) - q - x) % 4294967296)] rfl rfl (one_new _ _ _) (by intro u hu; simp at hu; subst hu; rfl) (by unfold maxLen; omega) (by omega) (by have := hkw.size; simp; omega) ?_; intro v1 w1 hown1 hgrow1 _; have hk1 := below_own hkw rfl hown hgrow1; clear hgrow1; (rw [show (((4294967296 + (p : Int) - q - x) % 4294967296) : Int) = (((4294967296 + p - q - x) % 4294967296 : Nat) : Int) by omega, d32_snoc] at hown1); skip))
      go_roundw
      case rel => exact ⟨j + 1, 1 - (4294967296 + p - q - x) / 4294967296, L ++ [(4294967296 + p - q - x) % 4294967296], by omega, by go_num, by go_num, R1.out, by assumption, by assumption⟩
      case measure => simp [intOf]; omega
    · obtain rfl : j = n := by omega
      have R1 := hR.out
      rw [← hl.out] at R1
      have R2 := Lib.hid (R1.done HD.out.2 hle.out)
      obtain ⟨A1, c1, ev1, hD1⟩ := Dg.of_own hown hR.out.2.1
      subst ev1
      clear R1 hR
      go_wp2_with (go_at_call 88; (with_reducible refine (normalize_any _ _ _ _ _ hD1 (by omega)).mono ?_); intro e w2 hret; have hret2 := hret; obtain ⟨A2, c2, rfl, hD2, hk2, hF2⟩ := hret)
      go_ret2
      exact RetDgT.of (by assumption) R2.out (by assumption) (by assumption) (by assumption)
end

section
open Go.RowKit
set_option linter.unusedVariables false
set_option linter.unusedSimpArgs false

theorem made_d32 (N : Nat) : (madeCells (Value.int .u32 0).cells (N * 1)).toList = d32 (List.replicate N 0) := by
  rw [Nat.mul_one]
  show (madeCells #[Value.int .u32 0] N).toList = _
  rw [toList_madeCells_one]; simp [d32]
theorem u64_in (n : Int) (h : 0 ≤ n ∧ n < 18446744073709551616) : IntKind.u64.wrap n = n := by rw [IntKind.wrap_u64]; omega
theorem i64_in (n : Int) (h : -9223372036854775808 ≤ n ∧ n < 9223372036854775808) : IntKind.i64.wrap n = n := by rw [IntKind.wrap_i64]; omega
theorem Dg.of_own' {w : World} {base c n : Nat} {e : TypeId} {A : Option Addr} {D : List Nat} (h : w.ownsRow base e 1 (.slice A n c) n (d32 D)) (hD : isD D) : Dg w A n c D := by
  obtain ⟨A', c', e', hs⟩ := Dg.of_own h hD
  injection e' with e1 e2 e3
  subst e1 e3
  exact hs
theorem own_store {w : World} {B N g : Nat} {e : TypeId} {L : List Nat} (h : w.ownsRow B e 1 (.slice (some ⟨g, 0, none⟩) N N) N (d32 L)) (nq i y : Nat) {yi : Int} (hy : yi = (y : Int)) :
    ((w.drewN nq).setCell ⟨g, i, none⟩ (.int .u32 yi)).ownsRow B e 1 (.slice (some ⟨g, 0, none⟩) N N) N (d32 (L.set i y)) := by
  subst hy
  rw [← d32_set]
  exact (World.ownsRow.stored (w := w.drewN nq) h i _).1
theorem own_store0 {w : World} {B N g : Nat} {e : TypeId} {L : List Nat} (h : w.ownsRow B e 1 (.slice (some ⟨g, 0, none⟩) N N) N (d32 L)) (i y : Nat) {yi : Int} (hy : yi = (y : Int)) :
    (w.setCell ⟨g, i, none⟩ (.int .u32 yi)).ownsRow B e 1 (.slice (some ⟨g, 0, none⟩) N N) N (d32 (L.set i y)) := own_store h 0 i y hy
set_option maxRecDepth 100000 in
set_option maxHeartbeats 2000000 in
theorem mul1_any (D E : List Nat) (A B : Option Addr) (n c m c2 : Nat) (w : World) (h : Dg w A n c D) (h2 : Dg w B m c2 E) (hsm : n ≤ 1000) (hsm2 : m ≤ 1000) :
    Calls Try.prog 83 #[.slice A n c, .slice B m c2] w (RetDg w (dig (nv D * nv E))) := by
  have hl := Lib.hid h.len
  have hl2 := Lib.hid h2.len
  have HD := Lib.hid h
  have HE := Lib.hid h2
  obtain ⟨i0, hi, hz0, hz1, hz2⟩ := info_parts u32_info
  have hK := Keeps.refl w
  obtain ⟨N, hN0⟩ : ∃ N, N = n + m + 1 := ⟨_, rfl⟩
  have hN := Lib.hid hN0
  have hN1 : (N : Int) ≤ 2001 := by omega
  have hN2 : (n : Int) + m + 1 = N := by omega
  clear h h2 hN0
  go_enter Try.func83, Try.ntmps83
  go_wp2_with ((with_reducible refine wpList_make_full _ rfl _ _ 95 rfl w.heap.size 108 i0 (.int .u32 0) 1 Try.underlying95 hi hz0 hz1 .i64 .i64 _ _ N rfl rfl (by omega) (by omega) (by rw [hz2]; omega) (by unfold maxLen; omega) (Nat.le_refl _) ?_); intro w1 hown1 hgrow1; have hk1 : Keeps w w1 := Below.grown (Below.refl _ _) hgrow1 (Nat.le_refl _) (fun k hk => by cases hk); rw [made_d32] at hown1; clear hgrow1)
  clear hN2
  go_loopw [6] (fun i wr => ∃ (j : Nat) (L : List Nat), j ≤ n ∧ i = .int .i64 j ∧ Hid (MulR D E j L) ∧ wr.ownsRow w.heap.size 108 1 (.slice (some ⟨w.heap.size, 0, none⟩) N N) N (d32 L) ∧ Keeps w wr) (fun i _ => n - (intOf i).toNat)
  case atStart => exact ⟨0, List.replicate N 0, by omega, rfl, by have := MulR.zero D E; rw [hl.out, hl2.out, ← hN.out] at this; exact this, by assumption, by assumption⟩
  case round =>
    obtain ⟨j, L, hj, rfl, hR, hown, hkw⟩ := hrel
    by_cases hlt : j < n
    · go_wp2
      go_loopw [7, 8] (fun cy k wr => ∃ (t x : Nat) (L : List Nat), t ≤ m ∧ k = .int .i64 t ∧ cy = .int .u64 x ∧ Hid (MulI D E j t L x) ∧ wr.ownsRow w.heap.size 108 1 (.slice (some ⟨w.heap.size, 0, none⟩) N N) N (d32 L) ∧ Keeps w wr) (fun _ k _ => m - (intOf k).toNat)
      case atStart => exact ⟨0, 0, L, by omega, rfl, rfl, MulI.zero hR.out, hown, hkw⟩
      case round =>
        clear hown hkw hR
        obtain ⟨t, x, L, ht, rfl, rfl, hR, hown, hkw⟩ := hrel
        by_cases htm : t < m
        · have R1 := Lib.hid (hR.out.step HD.out.2 HE.out.2 (by rw [hl.out]; exact hlt) (by rw [hl2.out]; exact htm))
          have bx := hR.out.2.2.2.1
          have hLl : Hid (L.length = N) := hR.out.1.trans (by rw [hl.out, hl2.out, hN.out])
          have b1 := isD.getD HD.out.2 j
          have b2 := isD.getD HE.out.2 t
          have b3 := isD.getD hR.out.2.1 (j + t)
          obtain ⟨b, o, rfl, hb, hc0⟩ := HD.out.at_ (k := j) hlt
          have hcA := (hkw.cell (p := ⟨b, o + j, none⟩) hb).trans hc0
          obtain ⟨b', o', rfl, hb', hc1⟩ := HE.out.at_ (k := t) htm
          have hcB := (hkw.cell (p := ⟨b', o' + t, none⟩) hb').trans hc1
          have hjN : j + t < N := by have := hN.out; omega
          have hcO : wr.cell? ⟨w.heap.size, j + t, none⟩ = some (.int .u32 ((L.getD (j + t) 0 : Nat) : Int)) := (hown.cellAt (j + t) (by omega)).trans (d32_get (by rw [hLl.out]; omega))
          have hfO : wr.frozen? ⟨w.heap.size, j + t, none⟩ = false := hown.frozenAt _
          have hown' := Lib.hid hown
          have hkw' := Lib.hid hkw
          clear hc0 hc1 hR hown hkw
          generalize D.getD j 0 = p at *
          generalize E.getD t 0 = q at *
          generalize L.getD (j + t) 0 = r at *
          obtain ⟨M, em, em2, bm⟩ := mul_nat p q b1 b2
          rw [em] at R1
          clear em
          have f1 := i64_in ((j : Int) + t) (by omega)
          have f2 : 0 ≤ (j : Int) + t := by omega
          have f3 : ((j : Int) + t).toNat = j + t := by omega
          have f4 := u64_in (M : Int) (by omega)
          have f5 := u64_in ((M : Int) + r) (by omega)
          have f6 := u64_in ((M : Int) + r + x) (by omega)
          have f7 : (j : Int) + t < N := by omega
          have f8 : (j : Int) < n := by omega
          have f9 : (t : Int) < m := by omega
          go_wp2_with fail
          go_quiet (fail)
          go_wp2
          go_roundw
          case rel => exact ⟨t + 1, (M + r + x) / 4294967296, L.set (j + t) ((M + r + x) % 4294967296), by omega, by go_num, by go_num, R1.out, own_store hown'.out nq _ _ (by omega), Keeps.setNew (hkw'.out.drewN _) (Nat.le_refl _) _⟩
          case measure => simp [intOf]; omega
        · obtain rfl : t = m := by omega
          have R0 := hR.out
          rw [← hl2.out] at R0
          have R1 := Lib.hid (MulR.step (by rw [hl.out]; exact hlt) R0)
          rw [hl2.out] at R1
          have bx := hR.out.2.2.2.1
          have hLl : Hid (L.length = N) := hR.out.1.trans (by rw [hl.out, hl2.out, hN.out])
          have hjN : j + t < N := by have := hN.out; omega
          have hcO : wr.cell? ⟨w.heap.size, j + t, none⟩ = some (.int .u32 ((L.getD (j + t) 0 : Nat) : Int)) := (hown.cellAt (j + t) (by omega)).trans (d32_get (by rw [hLl.out]; omega))
          have hfO : wr.frozen? ⟨w.heap.size, j + t, none⟩ = false := hown.frozenAt _
          have hown' := Lib.hid hown
          have hkw' := Lib.hid hkw
          clear hR hown hkw R0
          generalize L.getD (j + t) 0 = r at *
          go_wp2
          go_roundw
          case rel => exact ⟨j + 1, L.set (j + t) x, by omega, by go_num, R1.out, own_store0 hown'.out _ _ (by omega), Keeps.setNew hkw'.out (Nat.le_refl _) _⟩
          case measure => simp [intOf]; omega
    · obtain rfl : j = n := by omega
      have R0 := hR.out
      rw [← hl.out] at R0
      have R1 := Lib.hid R0.done
      have hD1 := Dg.of_own' hown hR.out.2.1
      clear hR R0
      go_wp2_with (go_at_call 88; (with_reducible refine (normalize_any _ _ _ _ _ hD1 (by omega)).mono ?_); intro e w2 hret; have hret2 := hret; obtain ⟨A2, c2, rfl, hD2, hk2, hF2⟩ := hret)
      go_ret
      exact RetDg.of_norm (by assumption) R1.out (by assumption)
end

section
open Go.RowKit
set_option linter.unusedVariables false
set_option linter.unusedSimpArgs false

theorem shl_nat (p s : Nat) (h : p < 4294967296) (h2 : s < 32) : ∃ m : Nat, p * 2 ^ s = m ∧ (p : Int) * 2 ^ s = (m : Int) ∧ m ≤ 9223372034707292160 ∧ 2 ^ s ≤ 2147483648 := by
  have hb : (2 : Nat) ^ s ≤ 2 ^ 31 := Nat.pow_le_pow_right (by omega) (by omega)
  refine ⟨_, rfl, by simp, ?_, hb⟩
  have := Nat.mul_le_mul (show p ≤ 4294967295 by omega) (show 2 ^ s ≤ 2147483648 from hb)
  omega
set_option maxRecDepth 100000 in
set_option maxHeartbeats 2000000 in
theorem up_any (D : List Nat) (A : Option Addr) (n c s : Nat) (w : World) (h : Dg w A n c D) (hsm : n ≤ 1000) (hs : s < 32) :
    Calls Try.prog 94 #[.slice A n c, .int .i64 (s : Int)] w (RetDg w (dig (nv D * 2 ^ s))) := by
  have hl := Lib.hid h.len
  have HD := Lib.hid h
  obtain ⟨i0, hi, hz0, hz1, hz2⟩ := info_parts u32_info
  have f1 : (s : Int) / 32 = 0 := by omega
  have f2 : (s : Int) % 32 = s := by omega
  have hK := Keeps.refl w
  clear h
  go_enter Try.func94, Try.ntmps94
  go_wp2_with ((with_reducible refine wpList_make_full _ rfl _ _ 95 rfl w.heap.size 108 i0 (.int .u32 0) 1 Try.underlying95 hi hz0 hz1 .i64 .i64 _ _ 0 rfl rfl (by omega) (by omega) (by rw [hz2]; omega) (by unfold maxLen; omega) (Nat.le_refl _) ?_); intro w1 hown1 hgrow1; have hk1 : Keeps w w1 := Below.grown (Below.refl _ _) hgrow1 (Nat.le_refl _) (fun k hk => by cases hk); rw [made_d32] at hown1; clear hgrow1)
  clear f1
  go_loopw [5, 6, 7] (fun v cy i wr => ∃ (j x : Nat) (L : List Nat), j ≤ n ∧ i = .int .i64 j ∧ cy = .int .u64 x ∧ Hid (UpR D 0 s j L x) ∧ wr.ownsRow w.heap.size 108 1 v j (d32 L) ∧ Keeps w wr) (fun _ _ i _ => n - (intOf i).toNat)
  case atStart => exact ⟨0, 0, [], by omega, rfl, rfl, UpR.zero _ _ _, by assumption, by assumption⟩
  case round =>
    obtain ⟨j, x, L, hj, rfl, rfl, hR, hown, hkw⟩ := hrel
    by_cases hlt : j < n
    · have R1 := Lib.hid (hR.out.step HD.out.2)
      have bx := hR.out.2.2.1
      have b1 := isD.getD HD.out.2 j
      obtain ⟨b, o, rfl, hb, hc0⟩ := HD.out.at_ (k := j) hlt
      have hc := (hkw.cell (p := ⟨b, o + j, none⟩) hb).trans hc0
      clear hc0
      generalize D.getD j 0 = p at *
      obtain ⟨m, em, em2, bm, b2⟩ := shl_nat p s b1 hs
      rw [em] at R1
      clear em
      have bx' : x < 2147483648 := by omega
      clear bx b2
      go_wp2_with (at_builtin; refine wpList_append_own _ rfl _ _ 95 rfl w.heap.size 108 i0 (.int .u32 0) 1 4 Try.underlying95 hi hz0 hz1 hz2 rfl (by decide) _ _ _ rfl (hown.alloc _) ⟨wr.heap.size, 0, none⟩ 1 1 [.int .u32 (((m : Int) + x) % 4294967296)] rfl rfl (one_new _ _ _) (by intro u hu; simp at hu; subst hu; rfl) (by unfold maxLen; omega) (by omega) (by have := hkw.size; simp; omega) ?_; intro v1 w1 hown1 hgrow1 _; have hk1 := below_own hkw rfl hown hgrow1; clear hgrow1; (rw [show ((((m : Int) + x) % 4294967296) : Int) = (((m + x) % 4294967296 : Nat) : Int) by omega, d32_snoc] at hown1); skip)
      go_roundw
      case rel => exact ⟨j + 1, (m + x) / 4294967296, L ++ [(m + x) % 4294967296], by omega, by go_num, by go_num, R1.out, by assumption, by assumption⟩
      case measure => simp [intOf]; omega
    · obtain rfl : j = n := by omega
      have R1 := hR.out
      rw [← hl.out] at R1
      have R2 := Lib.hid (R1.done hs)
      have bx := R1.2.2.1
      have hb : (2 : Nat) ^ s ≤ 2 ^ 31 := Nat.pow_le_pow_right (by omega) (by omega)
      have bx' : x < 2147483648 := by omega
      clear R1 hR bx hb
      go_wp2_with (first | (at_builtin; refine wpList_append_own _ rfl _ _ 95 rfl w.heap.size 108 i0 (.int .u32 0) 1 4 Try.underlying95 hi hz0 hz1 hz2 rfl (by decide) _ _ _ rfl (hown.alloc _) ⟨wr.heap.size, 0, none⟩ 1 1 [.int .u32 ((x : Int))] rfl rfl (one_new _ _ _) (by intro u hu; simp at hu; subst hu; rfl) (by unfold maxLen; omega) (by omega) (by have := hkw.size; simp; omega) ?_; intro v1 w1 hown1 hgrow1 _; have hk1 := below_own hkw rfl hown hgrow1; clear hgrow1; (rw [show (((x : Int)) : Int) = ((x : Nat) : Int) by omega, d32_snoc] at hown1); (obtain ⟨A1, c1, ev1, hD1⟩ := Dg.of_own hown1 (R2.out.1)); subst ev1) | (go_at_call 88; (with_reducible refine (normalize_any _ _ _ _ _ hD1 (by omega)).mono ?_); intro e w2 hret; have hret2 := hret; obtain ⟨A2, c2, rfl, hD2, hk2, hF2⟩ := hret))
      go_ret
      exact RetDg.of_norm (by assumption) (by have := R2.out.2; rwa [Nat.mul_zero, Nat.zero_add] at this) (by assumption)
end
end
end Go.Proofs.Ytihmhpleiefodaa
