/- Contracts of reference 01: Times. -/
import Derived.Test.YtjfimlcljbdglaaN3
namespace Go.Proofs.Ytjfimlcljbdglaa
open Go.RowKit
set_option linter.unusedVariables false
set_option linter.unusedSimpArgs false

theorem mul_nat (p d : Nat) (h : p < 4294967296) (h2 : d < 4294967296) : ∃ m : Nat, p * d = m ∧ (p : Int) * (d : Int) = (m : Int) ∧ m ≤ 18446744065119617025 :=
  ⟨_, rfl, by simp, by have := Nat.mul_le_mul (show p ≤ 4294967295 by omega) (show d ≤ 4294967295 by omega); omega⟩
set_option maxRecDepth 100000 in
set_option maxHeartbeats 1000000 in
theorem times_any (D : List Nat) (A : Option Addr) (n c d : Nat) (w : World) (h : Dg w A n c D) (hsm : n ≤ 1000) (hd : d < 4294967296) :
    Calls Try.prog 92 #[.slice A n c, .int .u64 (d : Int)] w (RetDg w (dig (nv D * d))) := by
  have hl := Lib.hid h.len
  have HD := Lib.hid h
  obtain ⟨i0, hi, hz0, hz1, hz2⟩ := info_parts u32_info
  clear h
  go_enter Try.func92, Try.ntmps92
  go_wp2
  go_loopw [5, 6, 7] (fun v cy i wr => ∃ (j x : Nat) (L : List Nat), j ≤ n ∧ i = .int .i64 j ∧ cy = .int .u64 x ∧ Hid (TimesR D d j L x) ∧ wr.ownsRow w.heap.size 99 1 v j (d32 L) ∧ Keeps w wr) (fun _ _ i _ => n - (intOf i).toNat)
  case atStart => exact ⟨0, 0, [], by omega, rfl, rfl, TimesR.zero _ _, World.ownsRow_lit w #[] 0 (Nat.le_refl _) (by unfold maxLen; omega) (by simp), by exact (Keeps.refl _).alloc _⟩
  case round =>
    obtain ⟨j, x, L, hj, rfl, rfl, hR, hown, hkw⟩ := hrel
    by_cases hlt : j < n
    · have R1 := Lib.hid (hR.out.step HD.out.2 hd)
      have bx := hR.out.2.2.1
      have b1 := isD.getD HD.out.2 j
      obtain ⟨b, o, rfl, hb, hc0⟩ := HD.out.at_ (k := j) hlt
      have hc := (hkw.cell (p := ⟨b, o + j, none⟩) hb).trans hc0
      clear hc0
      generalize D.getD j 0 = p at *
      obtain ⟨m, em, em2, bm⟩ := mul_nat p d b1 hd
      rw [em] at R1
      clear em
      go_wp2_with (at_builtin; refine wpList_append_own _ rfl _ _ 84 rfl w.heap.size 99 i0 (.int .u32 0) 1 4 Try.underlying84 hi hz0 hz1 hz2 rfl (by decide) _ _ _ rfl (hown.alloc _) ⟨wr.heap.size, 0, none⟩ 1 1 [.int .u32 (((m : Int) + x) % 4294967296)] rfl rfl (one_new _ _ _) (by intro u hu; simp at hu; subst hu; rfl) (by unfold maxLen; omega) (by omega) (by have := hkw.size; simp; omega) ?_; intro v1 w1 hown1 hgrow1 _; have hk1 := below_own hkw rfl hown hgrow1; clear hgrow1; (rw [show ((((m : Int) + x) % 4294967296) : Int) = (((m + x) % 4294967296 : Nat) : Int) by omega, d32_snoc] at hown1); skip)
      go_roundw
      case rel => exact ⟨j + 1, (m + x) / 4294967296, L ++ [(m + x) % 4294967296], by omega, by go_num, by go_num, R1.out, by assumption, by assumption⟩
      case measure => simp [intOf]; omega
    · obtain rfl : j = n := by omega
      have R1 := hR.out
      rw [← hl.out] at R1
      have R2 := Lib.hid R1.done
      have bx := R1.2.2.1
      clear R1 hR
      go_wp2_with (first | (at_builtin; refine wpList_append_own _ rfl _ _ 84 rfl w.heap.size 99 i0 (.int .u32 0) 1 4 Try.underlying84 hi hz0 hz1 hz2 rfl (by decide) _ _ _ rfl (hown.alloc _) ⟨wr.heap.size, 0, none⟩ 1 1 [.int .u32 ((x : Int))] rfl rfl (one_new _ _ _) (by intro u hu; simp at hu; subst hu; rfl) (by unfold maxLen; omega) (by omega) (by have := hkw.size; simp; omega) ?_; intro v1 w1 hown1 hgrow1 _; have hk1 := below_own hkw rfl hown hgrow1; clear hgrow1; (rw [show (((x : Int)) : Int) = ((x : Nat) : Int) by omega, d32_snoc] at hown1); (obtain ⟨A1, c1, ev1, hD1⟩ := Dg.of_own hown1 (R2.out.1)); subst ev1) | (go_at_call 85; (with_reducible refine (normalize_any _ _ _ _ _ hD1 (by omega)).mono ?_); intro e w2 hret; have hret2 := hret; obtain ⟨A2, c2, rfl, hD2, hk2, hF2⟩ := hret))
      go_ret
      exact RetDg.of_norm (by assumption) R2.out.2 (by assumption)
end Go.Proofs.Ytjfimlcljbdglaa
