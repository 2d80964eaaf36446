/- Contracts of reference 01: Shift, by less than a digit. -/
import Derived.Test.YtjfimlcljbdglaaN8
namespace Go.Proofs.Ytjfimlcljbdglaa
open Go.RowKit
set_option linter.unusedVariables false
set_option linter.unusedSimpArgs false

set_option maxRecDepth 100000 in
set_option maxHeartbeats 2000000 in
theorem shiftl_any (D : List Nat) (A : Option Addr) (n c s : Nat) (w : World) (h : Dg w A n c D) (hsm : n ≤ 1000) (hs : s < 32) :
    Calls Try.prog 87 #[.slice A n c, .int .i64 (s : Int)] w (RetDg w (dig (nv D * 2 ^ s))) := by
  have HU := Lib.hid (up_any D A n c s w h hsm hs)
  go_enter Try.func87, Try.ntmps87
  go_wp2_with (go_at_call 91; (with_reducible refine HU.out.mono ?_); intro e w2 hret; have hret2 := hret; obtain ⟨A2, c2, rfl, hD2, hk2, hF2⟩ := hret)
  go_ret
  assumption
theorem shr_nat (p q s : Nat) (h : p < 4294967296) (h3 : q < 4294967296) (h2 : s < 32) : ∃ m : Nat, (q * 4294967296 + p) / 2 ^ s = m ∧ ((q : Int) * 4294967296 + p) / 2 ^ s = (m : Int) ∧ m ≤ 18446744073709551615 := by
  refine ⟨_, rfl, by simp, ?_⟩
  have := Nat.div_le_self (q * 4294967296 + p) (2 ^ s)
  omega
set_option maxRecDepth 100000 in
set_option maxHeartbeats 2000000 in
theorem shiftr_any (D : List Nat) (A : Option Addr) (n c s : Nat) (w : World) (h : Dg w A n c D) (hsm : n ≤ 1000) (hs : s < 32) (hs0 : 0 < s) :
    Calls Try.prog 87 #[.slice A n c, .int .i64 (-(s : Int))] w (RetDg w (dig (nv D / 2 ^ s))) := by
  have hl := Lib.hid h.len
  have HD := Lib.hid h
  obtain ⟨i0, hi, hz0, hz1, hz2⟩ := info_parts u32_info
  have f1 : (s : Int) / 32 = 0 := by omega
  have f2 : (s : Int) % 32 = s := by omega
  have hK := Keeps.refl w
  clear h
  by_cases hn : n = 0
  · have t1 : -(s : Int) < -32 * n := by omega
    have hE : dig (nv D / 2 ^ s) = [] := by
      have : D = [] := List.eq_nil_of_length_eq_zero (by rw [hl.out]; exact hn)
      rw [this]; simp [nv, dig_zero]
    have hR : RetDg w (dig (nv D / 2 ^ s)) (.returned (.slice (some ⟨w.heap.size, 0, none⟩) 0 0)) (w.alloc (.cells #[] 99)) := by
      rw [hE]
      exact ⟨_, _, rfl, Dg.of_own' (D := []) (World.ownsRow_lit (base := w.heap.size) w #[] 0 (Nat.le_refl _) (by unfold maxLen; omega) (by simp)) isD_nil, (Keeps.refl w).alloc _, Fr.at_ (Nat.le_refl _)⟩
    clear hn hE f1 f2
    go_enter Try.func87, Try.ntmps87
    go_wp2
    go_ret
    exact hR
  · have t1 : ¬ -(s : Int) < -32 * n := by omega
    clear hn
    go_enter Try.func87, Try.ntmps87
    go_wp2
    clear f1 t1
    go_loopw [5, 6] (fun v i wr => ∃ (j : Nat) (L : List Nat), j ≤ n ∧ i = .int .i64 j ∧ Hid (DownR D s j L) ∧ wr.ownsRow w.heap.size 99 1 v j (d32 L) ∧ Keeps w wr) (fun _ i _ => n - (intOf i).toNat)
    case atStart => exact ⟨0, [], by omega, rfl, DownR.zero _ _, World.ownsRow_lit w #[] 0 (Nat.le_refl _) (by unfold maxLen; omega) (by simp), by exact (Keeps.refl _).alloc _⟩
    case round =>
      obtain ⟨j, L, hj, rfl, hR, hown, hkw⟩ := hrel
      by_cases hlt : j < n
      · have R1 := Lib.hid (hR.out.step HD.out.2 hs)
        have b1 := isD.getD HD.out.2 j
        have b2 := isD.getD HD.out.2 (j + 1)
        have G1 := Lib.hid (fun w' hk => digit_nat D A n c j w' w HD.out hk (by omega))
        have G2 := Lib.hid (fun w' hk => digit_nat D A n c (j + 1) w' w HD.out hk (by omega))
        generalize D.getD j 0 = p at *
        generalize D.getD (j + 1) 0 = q at *
        obtain ⟨m, em, em2, bm⟩ := shr_nat p q s b1 b2 hs
        rw [em] at R1
        rw [show (((j + 1 : Nat)) : Int) = (j : Int) + 1 by omega] at G2
        clear em
        go_wp2_with (first | (go_at_call 89; (with_reducible refine (G1.out _ (by assumption)).mono ?_); rintro e w1 ⟨rfl, rfl⟩) | (go_at_call 89; (with_reducible refine (G2.out _ (by assumption)).mono ?_); rintro e w1 ⟨rfl, rfl⟩) | (at_builtin; refine wpList_append_own _ rfl _ _ 84 rfl w.heap.size 99 i0 (.int .u32 0) 1 4 Try.underlying84 hi hz0 hz1 hz2 rfl (by decide) _ _ _ rfl (hown.alloc _) ⟨wr.heap.size, 0, none⟩ 1 1 [.int .u32 ((m : Int) % 4294967296)] rfl rfl (one_new _ _ _) (by intro u hu; simp at hu; subst hu; rfl) (by unfold maxLen; omega) (by omega) (by have := hkw.size; simp; omega) ?_; intro v1 w1 hown1 hgrow1 _; have hk1 := below_own hkw rfl hown hgrow1; clear hgrow1; (rw [show (((m : Int) % 4294967296) : Int) = ((m % 4294967296 : Nat) : Int) by omega, d32_snoc] at hown1); skip))
        go_roundw
        case rel => exact ⟨j + 1, L ++ [m % 4294967296], by omega, by go_num, R1.out, by assumption, by assumption⟩
        case measure => simp [intOf]; omega
      · obtain rfl : j = n := by omega
        have R1 := hR.out
        rw [← hl.out] at R1
        have R2 := Lib.hid (R1.done HD.out.2)
        obtain ⟨A1, c1, ev1, hD1⟩ := Dg.of_own hown hR.out.2.1
        subst ev1
        clear R1 hR
        go_wp2_with (go_at_call 85; (with_reducible refine (normalize_any _ _ _ _ _ hD1 (by omega)).mono ?_); intro e w2 hret; have hret2 := hret; obtain ⟨A2, c2, rfl, hD2, hk2, hF2⟩ := hret)
        go_ret
        exact RetDg.of_norm (by assumption) R2.out (by assumption)
end Go.Proofs.Ytjfimlcljbdglaa
