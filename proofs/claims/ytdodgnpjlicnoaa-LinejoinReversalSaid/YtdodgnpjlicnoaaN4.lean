/- Contracts of reference 01: Times. -/
import Derived.Test.YtdodgnpjlicnoaaChecked
import Derived.Test.YtdodgnpjlicnoaaSl
import Derived.Test.YtdodgnpjlicnoaaBs
namespace Go.Proofs.Ytdodgnpjlicnoaa
section
open Go.RowKit
set_option linter.unusedVariables false
set_option linter.unusedSimpArgs false

set_option maxRecDepth 100000 in
set_option maxHeartbeats 400000 in
theorem digit_any (D : List Nat) (A : Option Addr) (n c : Nat) (i : Int) (w : World) (h : Dg w A n c D) (hi : -1 ≤ i) (hi2 : i ≤ 9223372036854775807) :
    Calls Try.prog 127 #[.slice A n c, .int .i64 i] w fun e w' => e = .returned (.int .u64 (if 0 ≤ i then (D.getD i.toNat 0 : Int) else 0)) ∧ w = w' := by
  have hn := h.max
  by_cases h0 : i < 0
  · rw [if_neg (by omega)]
    have t0 : decide (i < 0) = true := decide_eq_true h0
    go_enter Try.func127, Try.ntmps127
    go_wp2
    go_ret
    exact ⟨rfl, rfl⟩
  · rw [if_pos (by omega)]
    obtain ⟨k, rfl⟩ := Int.eq_ofNat_of_zero_le (show 0 ≤ i by omega)
    have t0 : decide ((k : Int) < 0) = false := decide_eq_false h0
    rw [Int.toNat_natCast]
    by_cases hk : k < n
    · obtain ⟨b, o, rfl, hb, hc⟩ := h.at_ hk
      have hd := isD.getD h.2 k
      generalize D.getD k 0 = d at *
      have t1 : decide ((n : Int) ≤ k) = false := decide_eq_false (by omega)
      clear h
      go_enter Try.func127, Try.ntmps127
      go_wp2
      go_ret
      exact ⟨rfl, rfl⟩
    · have e : D.getD k 0 = 0 := by
        rw [List.getD_eq_getElem?_getD, List.getElem?_eq_none (by rw [h.len]; omega)]; rfl
      rw [e]
      have t1 : decide ((n : Int) ≤ k) = true := decide_eq_true (by omega)
      clear e
      go_enter Try.func127, Try.ntmps127
      go_wp2
      go_ret
      exact ⟨rfl, rfl⟩
theorem digit_nat (D : List Nat) (A : Option Addr) (n c k : Nat) (w w0 : World) (h : Dg w0 A n c D) (hk : Keeps w0 w) (hi : (k : Int) ≤ 9223372036854775807) :
    Calls Try.prog 127 #[.slice A n c, .int .i64 (k : Int)] w fun e w' => e = .returned (.int .u64 ((D.getD k 0 : Nat) : Int)) ∧ w = w' := by
  have := digit_any D A n c k w (h.keep hk) (by omega) hi
  rwa [if_pos (by omega), Int.toNat_natCast] at this
end

section
open Go.RowKit
set_option linter.unusedVariables false
set_option linter.unusedSimpArgs false
theorem u32_info : (Try.prog.info? 95).map (fun i => (i.zero, i.size, i.bytes)) = some (some (.int .u32 0), 1, 4) := by kernel_rfl
set_option maxRecDepth 100000 in
set_option maxHeartbeats 1000000 in
theorem normalize_any (D : List Nat) (A : Option Addr) (n c : Nat) (w : World) (h : Dg w A n c D) (hsm : n ≤ 100000) :
    Calls Try.prog 113 #[.slice A n c] w (RetDg w (dig (nv D))) := by
  have hl := Lib.hid h.len
  have HD := Lib.hid h
  obtain ⟨i0, hi, hz0, hz1, hz2⟩ := info_parts u32_info
  clear h
  go_enter Try.func113, Try.ntmps113
  go_wp2
  go_loop [3] (fun t => ∃ k : Nat, k ≤ n ∧ t = .int .i64 k ∧ Hid (∀ j, k ≤ j → D.getD j 0 = 0)) (fun t => (intOf t).toNat)
  case atStart => exact ⟨n, Nat.le_refl _, rfl, fun j hj => by rw [List.getD_eq_getElem?_getD, List.getElem?_eq_none (by rw [hl.out]; exact hj)]; rfl⟩
  case round =>
    obtain ⟨k, hk, rfl, hz⟩ := hrel
    by_cases hgo : k ≠ 0 ∧ D.getD (k - 1) 0 = 0
    · obtain ⟨hk0, hd⟩ := hgo
      obtain ⟨b, o, rfl, hb, hc⟩ := HD.out.at_ (k := k - 1) (by omega)
      have hd' := Lib.hid hd
      rw [hd] at hc
      clear hd
      have t1 : decide ((0 : Int) < k) = true := decide_eq_true (by omega)
      go_wp2
      go_round
      case rel => exact ⟨k - 1, by omega, by go_num, fun j hj => by
        rcases Nat.lt_or_ge j k with h | h
        · rw [show j = k - 1 by omega]; exact hd'.out
        · exact hz j h⟩
      case measure => simp [intOf]; omega
    · have hT := Lib.hid (take_dig (n := k) HD.out.2 (by rw [hl.out]; exact hk) hz (fun h0 hd => hgo ⟨h0, hd⟩))
      clear hz
      by_cases hk0 : 0 < k
      · obtain ⟨b, o, rfl, hb', hc⟩ := HD.out.at_ (k := k - 1) (by omega)
        obtain ⟨d, hd, hd0⟩ : ∃ d, D.getD (k - 1) 0 = d ∧ ((d : Int) == 0) = false := ⟨_, rfl, by simpa using fun e => hgo ⟨by omega, e⟩⟩
        rw [hd] at hc
        clear hd hgo
        go_wp2
        clear hc hd0
        go_loopw [4, 5] (fun v i wr => ∃ j : Nat, j ≤ k ∧ i = .int .i64 j ∧ wr.ownsRow w.heap.size 95 1 v j (d32 (D.take j)) ∧ Keeps w wr) (fun _ i _ => k - (intOf i).toNat)
        case atStart => exact ⟨0, by omega, rfl, World.ownsRow_lit w #[] 0 (Nat.le_refl _) (by unfold maxLen; omega) (by simp), by exact (Keeps.refl _).alloc _⟩
        case round =>
          obtain ⟨j, hj, rfl, hown, hkw⟩ := hrel
          by_cases hlt : j < k
          · obtain ⟨hb, hc0⟩ := HD.out.cellAt (k := j) (by omega)
            have hc := (hkw.cell (p := ⟨b, o + j, none⟩) hb).trans hc0
            have hT1 := Lib.hid (take_snoc' hl.out (show j < n by omega))
            generalize D.getD j 0 = d at *
            clear hc0
            go_wp2_with (at_builtin; refine wpList_append_own _ rfl _ _ 72 rfl w.heap.size 95 i0 (.int .u32 0) 1 4 Try.underlying72 hi hz0 hz1 hz2 rfl (by decide) _ _ _ rfl (hown.alloc _) ⟨wr.heap.size, 0, none⟩ 1 1 [.int .u32 (d : Int)] rfl rfl (one_new _ _ _) (by intro u hu; simp at hu; subst hu; rfl) (by unfold maxLen; omega) (by omega) (by have := hkw.size; simp; omega) ?_; intro v1 w1 hown1 hgrow1 _; have hk1 := below_own hkw rfl hown hgrow1; clear hgrow1; rw [d32_snoc, ← hT1.out] at hown1)
            go_roundw
            case rel => exact ⟨j + 1, by omega, by go_num, by assumption, by assumption⟩
            case measure => simp [intOf]; omega
          · obtain rfl : j = k := by omega
            rw [hT.out] at hown
            obtain ⟨A', c', rfl, hD'⟩ := Dg.of_own hown (isD_dig _)
            have hfr : Fr w A' := own_fresh hown
            have hl2 : (dig (nv D)).length = j := hD'.len
            have hret : RetDg w (dig (nv D)) (.returned (.slice A' j c')) wr := ⟨A', c', by rw [hl2], by rw [hl2]; exact hD', hkw, hfr⟩
            clear hl2 hown hT hl HD
            go_wp2
            go_ret
            exact hret
      · clear hgo
        go_wp2
        clear hk0
        go_loopw [4, 5] (fun v i wr => ∃ j : Nat, j ≤ k ∧ i = .int .i64 j ∧ wr.ownsRow w.heap.size 95 1 v j (d32 (D.take j)) ∧ Keeps w wr) (fun _ i _ => k - (intOf i).toNat)
        case atStart => exact ⟨0, by omega, rfl, World.ownsRow_lit w #[] 0 (Nat.le_refl _) (by unfold maxLen; omega) (by simp), by exact (Keeps.refl _).alloc _⟩
        case round =>
          obtain ⟨j, hj, rfl, hown, hkw⟩ := hrel
          by_cases hlt : j < k
          · obtain ⟨b, o, rfl, hb, hc0⟩ := HD.out.at_ (k := j) (by omega)
            have hc := (hkw.cell (p := ⟨b, o + j, none⟩) hb).trans hc0
            have hT1 := Lib.hid (take_snoc' hl.out (show j < n by omega))
            generalize D.getD j 0 = d at *
            clear hc0
            go_wp2_with (at_builtin; refine wpList_append_own _ rfl _ _ 72 rfl w.heap.size 95 i0 (.int .u32 0) 1 4 Try.underlying72 hi hz0 hz1 hz2 rfl (by decide) _ _ _ rfl (hown.alloc _) ⟨wr.heap.size, 0, none⟩ 1 1 [.int .u32 (d : Int)] rfl rfl (one_new _ _ _) (by intro u hu; simp at hu; subst hu; rfl) (by unfold maxLen; omega) (by omega) (by have := hkw.size; simp; omega) ?_; intro v1 w1 hown1 hgrow1 _; have hk1 := below_own hkw rfl hown hgrow1; clear hgrow1; rw [d32_snoc, ← hT1.out] at hown1)
            go_roundw
            case rel => exact ⟨j + 1, by omega, by go_num, by assumption, by assumption⟩
            case measure => simp [intOf]; omega
          · obtain rfl : j = k := by omega
            rw [hT.out] at hown
            obtain ⟨A', c', rfl, hD'⟩ := Dg.of_own hown (isD_dig _)
            have hfr : Fr w A' := own_fresh hown
            have hl2 : (dig (nv D)).length = j := hD'.len
            have hret : RetDg w (dig (nv D)) (.returned (.slice A' j c')) wr := ⟨A', c', by rw [hl2], by rw [hl2]; exact hD', hkw, hfr⟩
            clear hl2 hown hT hl HD
            go_wp2
            go_ret
            exact hret
end

section
open Go.RowKit
set_option linter.unusedVariables false
set_option linter.unusedSimpArgs false
theorem RetDg.of_norm {w w1 w' : World} {L : List Nat} {x : Nat} {e : Ending} (h : RetDg w1 (dig (nv L)) e w') (hx : nv L = x) (hk : Keeps w w1) : RetDg w (dig x) e w' := by
  subst hx; exact h.mono hk

set_option maxRecDepth 100000 in
set_option maxHeartbeats 1000000 in
theorem add1_any (D E : List Nat) (A B : Option Addr) (n c m c2 : Nat) (w : World) (h : Dg w A n c D) (h2 : Dg w B m c2 E) (hsm : n ≤ 1000) (hsm2 : m ≤ 1000) :
    Calls Try.prog 115 #[.slice A n c, .slice B m c2] w (RetDg w (dig (nv D + nv E))) := by
  have hl := Lib.hid h.len
  have hl2 := Lib.hid h2.len
  have HD := Lib.hid h
  have HE := Lib.hid h2
  obtain ⟨i0, hi, hz0, hz1, hz2⟩ := info_parts u32_info
  clear h h2
  by_cases hnm : n < m
  all_goals
    go_enter Try.func115, Try.ntmps115
    go_wp2
    go_loopw [5, 6, 7] (fun v cy i wr => ∃ (j x : Nat) (L : List Nat), j ≤ max n m ∧ i = .int .i64 j ∧ cy = .int .u64 x ∧ Hid (AddR D E j L x) ∧ wr.ownsRow w.heap.size 95 1 v j (d32 L) ∧ Keeps w wr) (fun _ _ i _ => max n m - (intOf i).toNat)
    case atStart => exact ⟨0, 0, [], by omega, rfl, rfl, AddR.zero _ _, World.ownsRow_lit w #[] 0 (Nat.le_refl _) (by unfold maxLen; omega) (by simp), by exact (Keeps.refl _).alloc _⟩
    case round =>
      obtain ⟨j, x, L, hj, rfl, rfl, hR, hown, hkw⟩ := hrel
      by_cases hlt : j < max n m
      · have R1 := Lib.hid (hR.out.step HD.out.2 HE.out.2)
        have bx := hR.out.2.2.1
        have b1 := isD.getD HD.out.2 j
        have b2 := isD.getD HE.out.2 j
        have G1 := Lib.hid (fun w' hk => digit_nat D A n c j w' w HD.out hk (by omega))
        have G2 := Lib.hid (fun w' hk => digit_nat E B m c2 j w' w HE.out hk (by omega))
        generalize D.getD j 0 = p at *
        generalize E.getD j 0 = q at *
        go_wp2_with (first | (go_at_call 127; (with_reducible refine (G1.out _ (by assumption)).mono ?_); rintro e w1 ⟨rfl, rfl⟩) | (go_at_call 127; (with_reducible refine (G2.out _ (by assumption)).mono ?_); rintro e w1 ⟨rfl, rfl⟩) | (at_builtin; refine wpList_append_own _ rfl _ _ 72 rfl w.heap.size 95 i0 (.int .u32 0) 1 4 Try.underlying72 hi hz0 hz1 hz2 rfl (by decide) _ _ _ rfl (hown.alloc _) ⟨wr.heap.size, 0, none⟩ 1 1 [.int .u32 (((p : Int) + q + x) % 4294967296)] rfl rfl (one_new _ _ _) (by intro u hu; simp at hu; subst hu; rfl) (by unfold maxLen; omega) (by omega) (by have := hkw.size; simp; omega) ?_; intro v1 w1 hown1 hgrow1 _; have hk1 := below_own hkw rfl hown hgrow1; clear hgrow1; (rw [show ((((p : Int) + q + x) % 4294967296) : Int) = (((p + q + x) % 4294967296 : Nat) : Int) by omega, d32_snoc] at hown1); skip))
        go_roundw
        case rel => exact ⟨j + 1, (p + q + x) / 4294967296, L ++ [(p + q + x) % 4294967296], by omega, by go_num, by go_num, R1.out, by assumption, by assumption⟩
        case measure => simp [intOf]; omega
      · obtain rfl : j = max n m := by omega
        have R1 := hR.out
        rw [← hl.out, ← hl2.out] at R1
        have R2 := Lib.hid R1.done
        have bx := R1.2.2.1
        clear R1 hR
        go_wp2_with (first | (at_builtin; refine wpList_append_own _ rfl _ _ 72 rfl w.heap.size 95 i0 (.int .u32 0) 1 4 Try.underlying72 hi hz0 hz1 hz2 rfl (by decide) _ _ _ rfl (hown.alloc _) ⟨wr.heap.size, 0, none⟩ 1 1 [.int .u32 ((x : Int))] rfl rfl (one_new _ _ _) (by intro u hu; simp at hu; subst hu; rfl) (by unfold maxLen; omega) (by omega) (by have := hkw.size; simp; omega) ?_; intro v1 w1 hown1 hgrow1 _; have hk1 := below_own hkw rfl hown hgrow1; clear hgrow1; (rw [show (((x : Int)) : Int) = ((x : Nat) : Int) by omega, d32_snoc] at hown1); (obtain ⟨A1, c1, ev1, hD1⟩ := Dg.of_own hown1 (R2.out.1)); subst ev1) | (go_at_call 113; (with_reducible refine (normalize_any _ _ _ _ _ hD1 (by omega)).mono ?_); intro e w2 hret; have hret2 := hret; obtain ⟨A2, c2, rfl, hD2, hk2, hF2⟩ := hret))
        go_ret
        exact RetDg.of_norm (by assumption) R2.out.2 (by assumption)
end

section
open Go.RowKit
set_option linter.unusedVariables false
set_option linter.unusedSimpArgs false

theorem mul_nat (p d : Nat) (h : p < 4294967296) (h2 : d < 4294967296) : ∃ m : Nat, p * d = m ∧ (p : Int) * (d : Int) = (m : Int) ∧ m ≤ 18446744065119617025 :=
  ⟨_, rfl, by simp, by have := Nat.mul_le_mul (show p ≤ 4294967295 by omega) (show d ≤ 4294967295 by omega); omega⟩
set_option maxRecDepth 100000 in
set_option maxHeartbeats 1000000 in
theorem times_any (D : List Nat) (A : Option Addr) (n c d : Nat) (w : World) (h : Dg w A n c D) (hsm : n ≤ 1000) (hd : d < 4294967296) :
    Calls Try.prog 131 #[.slice A n c, .int .u64 (d : Int)] w (RetDg w (dig (nv D * d))) := by
  have hl := Lib.hid h.len
  have HD := Lib.hid h
  obtain ⟨i0, hi, hz0, hz1, hz2⟩ := info_parts u32_info
  clear h
  go_enter Try.func131, Try.ntmps131
  go_wp2
  go_loopw [5, 6, 7] (fun v cy i wr => ∃ (j x : Nat) (L : List Nat), j ≤ n ∧ i = .int .i64 j ∧ cy = .int .u64 x ∧ Hid (TimesR D d j L x) ∧ wr.ownsRow w.heap.size 95 1 v j (d32 L) ∧ Keeps w wr) (fun _ _ i _ => n - (intOf i).toNat)
  case atStart => exact ⟨0, 0, [], by omega, rfl, rfl, TimesR.zero _ _, World.ownsRow_lit w #[] 0 (Nat.le_refl _) (by unfold maxLen; omega) (by simp), by exact (Keeps.refl _).alloc _⟩
  case round =>
    obtain ⟨j, x, L, hj, rfl, rfl, hR, hown, hkw⟩ := hrel
    by_cases hlt : j < n
    · have R1 := Lib.hid (hR.out.step HD.out.2 hd)
      have bx := hR.out.2.2.1
      have b1 := isD.getD HD.out.2 j
      obtain ⟨b, o, rfl, hb, hc0⟩ := HD.out.at_ (k := j) hlt
      have hc := (hkw.cell (p := ⟨b, o + j, none⟩) hb).trans hc0
      clear hc0
      generalize D.getD j 0 = p at *
      obtain ⟨m, em, em2, bm⟩ := mul_nat p d b1 hd
      rw [em] at R1
      clear em
      go_wp2_with (at_builtin; refine wpList_append_own _ rfl _ _ 72 rfl w.heap.size 95 i0 (.int .u32 0) 1 4 Try.underlying72 hi hz0 hz1 hz2 rfl (by decide) _ _ _ rfl (hown.alloc _) ⟨wr.heap.size, 0, none⟩ 1 1 [.int .u32 (((m : Int) + x) % 4294967296)] rfl rfl (one_new _ _ _) (by intro u hu; simp at hu; subst hu; rfl) (by unfold maxLen; omega) (by omega) (by have := hkw.size; simp; omega) ?_; intro v1 w1 hown1 hgrow1 _; have hk1 := below_own hkw rfl hown hgrow1; clear hgrow1; (rw [show ((((m : Int) + x) % 4294967296) : Int) = (((m + x) % 4294967296 : Nat) : Int) by omega, d32_snoc] at hown1); skip)
      go_roundw
      case rel => exact ⟨j + 1, (m + x) / 4294967296, L ++ [(m + x) % 4294967296], by omega, by go_num, by go_num, R1.out, by assumption, by assumption⟩
      case measure => simp [intOf]; omega
    · obtain rfl : j = n := by omega
      have R1 := hR.out
      rw [← hl.out] at R1
      have R2 := Lib.hid R1.done
      have bx := R1.2.2.1
      clear R1 hR
      go_wp2_with (first | (at_builtin; refine wpList_append_own _ rfl _ _ 72 rfl w.heap.size 95 i0 (.int .u32 0) 1 4 Try.underlying72 hi hz0 hz1 hz2 rfl (by decide) _ _ _ rfl (hown.alloc _) ⟨wr.heap.size, 0, none⟩ 1 1 [.int .u32 ((x : Int))] rfl rfl (one_new _ _ _) (by intro u hu; simp at hu; subst hu; rfl) (by unfold maxLen; omega) (by omega) (by have := hkw.size; simp; omega) ?_; intro v1 w1 hown1 hgrow1 _; have hk1 := below_own hkw rfl hown hgrow1; clear hgrow1; (rw [show (((x : Int)) : Int) = ((x : Nat) : Int) by omega, d32_snoc] at hown1); (obtain ⟨A1, c1, ev1, hD1⟩ := Dg.of_own hown1 (R2.out.1)); subst ev1) | (go_at_call 113; (with_reducible refine (normalize_any _ _ _ _ _ hD1 (by omega)).mono ?_); intro e w2 hret; have hret2 := hret; obtain ⟨A2, c2, rfl, hD2, hk2, hF2⟩ := hret))
      go_ret
      exact RetDg.of_norm (by assumption) R2.out.2 (by assumption)
end
end Go.Proofs.Ytdodgnpjlicnoaa
