/- Contracts of reference 01: up, by less than a digit. -/
import Derived.Test.YtjfimlcljbdglaaN7
namespace Go.Proofs.Ytjfimlcljbdglaa
open Go.RowKit
set_option linter.unusedVariables false
set_option linter.unusedSimpArgs false

theorem shl_nat (p s : Nat) (h : p < 4294967296) (h2 : s < 32) : ∃ m : Nat, p * 2 ^ s = m ∧ (p : Int) * 2 ^ s = (m : Int) ∧ m ≤ 9223372034707292160 ∧ 2 ^ s ≤ 2147483648 := by
  have hb : (2 : Nat) ^ s ≤ 2 ^ 31 := Nat.pow_le_pow_right (by omega) (by omega)
  refine ⟨_, rfl, by simp, ?_, hb⟩
  have := Nat.mul_le_mul (show p ≤ 4294967295 by omega) (show 2 ^ s ≤ 2147483648 from hb)
  omega
set_option maxRecDepth 100000 in
set_option maxHeartbeats 2000000 in
theorem up_any (D : List Nat) (A : Option Addr) (n c s : Nat) (w : World) (h : Dg w A n c D) (hsm : n ≤ 1000) (hs : s < 32) :
    Calls Try.prog 91 #[.slice A n c, .int .i64 (s : Int)] w (RetDg w (dig (nv D * 2 ^ s))) := by
  have hl := Lib.hid h.len
  have HD := Lib.hid h
  obtain ⟨i0, hi, hz0, hz1, hz2⟩ := info_parts u32_info
  have f1 : (s : Int) / 32 = 0 := by omega
  have f2 : (s : Int) % 32 = s := by omega
  have hK := Keeps.refl w
  clear h
  go_enter Try.func91, Try.ntmps91
  go_wp2_with ((with_reducible refine wpList_make_full _ rfl _ _ 84 rfl w.heap.size 99 i0 (.int .u32 0) 1 Try.underlying84 hi hz0 hz1 .i64 .i64 _ _ 0 rfl rfl (by omega) (by omega) (by rw [hz2]; omega) (by unfold maxLen; omega) (Nat.le_refl _) ?_); intro w1 hown1 hgrow1; have hk1 : Keeps w w1 := Below.grown (Below.refl _ _) hgrow1 (Nat.le_refl _) (fun k hk => by cases hk); rw [made_d32] at hown1; clear hgrow1)
  clear f1
  go_loopw [5, 6, 7] (fun v cy i wr => ∃ (j x : Nat) (L : List Nat), j ≤ n ∧ i = .int .i64 j ∧ cy = .int .u64 x ∧ Hid (UpR D 0 s j L x) ∧ wr.ownsRow w.heap.size 99 1 v j (d32 L) ∧ Keeps w wr) (fun _ _ i _ => n - (intOf i).toNat)
  case atStart => exact ⟨0, 0, [], by omega, rfl, rfl, UpR.zero _ _ _, by assumption, by assumption⟩
  case round =>
    obtain ⟨j, x, L, hj, rfl, rfl, hR, hown, hkw⟩ := hrel
    by_cases hlt : j < n
    · have R1 := Lib.hid (hR.out.step HD.out.2)
      have bx := hR.out.2.2.1
      have b1 := isD.getD HD.out.2 j
      obtain ⟨b, o, rfl, hb, hc0⟩ := HD.out.at_ (k := j) hlt
      have hc := (hkw.cell (p := ⟨b, o + j, none⟩) hb).trans hc0
      clear hc0
      generalize D.getD j 0 = p at *
      obtain ⟨m, em, em2, bm, b2⟩ := shl_nat p s b1 hs
      rw [em] at R1
      clear em
      have bx' : x < 2147483648 := by omega
      clear bx b2
      go_wp2_with (at_builtin; refine wpList_append_own _ rfl _ _ 84 rfl w.heap.size 99 i0 (.int .u32 0) 1 4 Try.underlying84 hi hz0 hz1 hz2 rfl (by decide) _ _ _ rfl (hown.alloc _) ⟨wr.heap.size, 0, none⟩ 1 1 [.int .u32 (((m : Int) + x) % 4294967296)] rfl rfl (one_new _ _ _) (by intro u hu; simp at hu; subst hu; rfl) (by unfold maxLen; omega) (by omega) (by have := hkw.size; simp; omega) ?_; intro v1 w1 hown1 hgrow1 _; have hk1 := below_own hkw rfl hown hgrow1; clear hgrow1; (rw [show ((((m : Int) + x) % 4294967296) : Int) = (((m + x) % 4294967296 : Nat) : Int) by omega, d32_snoc] at hown1); skip)
      go_roundw
      case rel => exact ⟨j + 1, (m + x) / 4294967296, L ++ [(m + x) % 4294967296], by omega, by go_num, by go_num, R1.out, by assumption, by assumption⟩
      case measure => simp [intOf]; omega
    · obtain rfl : j = n := by omega
      have R1 := hR.out
      rw [← hl.out] at R1
      have R2 := Lib.hid (R1.done hs)
      have bx := R1.2.2.1
      have hb : (2 : Nat) ^ s ≤ 2 ^ 31 := Nat.pow_le_pow_right (by omega) (by omega)
      have bx' : x < 2147483648 := by omega
      clear R1 hR bx hb
      go_wp2_with (first | (at_builtin; refine wpList_append_own _ rfl _ _ 84 rfl w.heap.size 99 i0 (.int .u32 0) 1 4 Try.underlying84 hi hz0 hz1 hz2 rfl (by decide) _ _ _ rfl (hown.alloc _) ⟨wr.heap.size, 0, none⟩ 1 1 [.int .u32 ((x : Int))] rfl rfl (one_new _ _ _) (by intro u hu; simp at hu; subst hu; rfl) (by unfold maxLen; omega) (by omega) (by have := hkw.size; simp; omega) ?_; intro v1 w1 hown1 hgrow1 _; have hk1 := below_own hkw rfl hown hgrow1; clear hgrow1; (rw [show (((x : Int)) : Int) = ((x : Nat) : Int) by omega, d32_snoc] at hown1); (obtain ⟨A1, c1, ev1, hD1⟩ := Dg.of_own hown1 (R2.out.1)); subst ev1) | (go_at_call 85; (with_reducible refine (normalize_any _ _ _ _ _ hD1 (by omega)).mono ?_); intro e w2 hret; have hret2 := hret; obtain ⟨A2, c2, rfl, hD2, hk2, hF2⟩ := hret))
      go_ret
      exact RetDg.of_norm (by assumption) (by have := R2.out.2; rwa [Nat.mul_zero, Nat.zero_add] at this) (by assumption)
end Go.Proofs.Ytjfimlcljbdglaa
