/- Contracts of reference 01: Add. -/
import Derived.Test.YtjfimlcljbdglaaN2
namespace Go.Proofs.Ytjfimlcljbdglaa
open Go.RowKit
set_option linter.unusedVariables false
set_option linter.unusedSimpArgs false
theorem RetDg.of_norm {w w1 w' : World} {L : List Nat} {x : Nat} {e : Ending} (h : RetDg w1 (dig (nv L)) e w') (hx : nv L = x) (hk : Keeps w w1) : RetDg w (dig x) e w' := by
  subst hx; exact h.mono hk

set_option maxRecDepth 100000 in
set_option maxHeartbeats 1000000 in
theorem add1_any (D E : List Nat) (A B : Option Addr) (n c m c2 : Nat) (w : World) (h : Dg w A n c D) (h2 : Dg w B m c2 E) (hsm : n ≤ 1000) (hsm2 : m ≤ 1000) :
    Calls Try.prog 81 #[.slice A n c, .slice B m c2] w (RetDg w (dig (nv D + nv E))) := by
  have hl := Lib.hid h.len
  have hl2 := Lib.hid h2.len
  have HD := Lib.hid h
  have HE := Lib.hid h2
  obtain ⟨i0, hi, hz0, hz1, hz2⟩ := info_parts u32_info
  clear h h2
  by_cases hnm : n < m
  all_goals
    go_enter Try.func81, Try.ntmps81
    go_wp2
    go_loopw [5, 6, 7] (fun v cy i wr => ∃ (j x : Nat) (L : List Nat), j ≤ max n m ∧ i = .int .i64 j ∧ cy = .int .u64 x ∧ Hid (AddR D E j L x) ∧ wr.ownsRow w.heap.size 99 1 v j (d32 L) ∧ Keeps w wr) (fun _ _ i _ => max n m - (intOf i).toNat)
    case atStart => exact ⟨0, 0, [], by omega, rfl, rfl, AddR.zero _ _, World.ownsRow_lit w #[] 0 (Nat.le_refl _) (by unfold maxLen; omega) (by simp), by exact (Keeps.refl _).alloc _⟩
    case round =>
      obtain ⟨j, x, L, hj, rfl, rfl, hR, hown, hkw⟩ := hrel
      by_cases hlt : j < max n m
      · have R1 := Lib.hid (hR.out.step HD.out.2 HE.out.2)
        have bx := hR.out.2.2.1
        have b1 := isD.getD HD.out.2 j
        have b2 := isD.getD HE.out.2 j
        have G1 := Lib.hid (fun w' hk => digit_nat D A n c j w' w HD.out hk (by omega))
        have G2 := Lib.hid (fun w' hk => digit_nat E B m c2 j w' w HE.out hk (by omega))
        generalize D.getD j 0 = p at *
        generalize E.getD j 0 = q at *
        go_wp2_with (first | (go_at_call 89; (with_reducible refine (G1.out _ (by assumption)).mono ?_); rintro e w1 ⟨rfl, rfl⟩) | (go_at_call 89; (with_reducible refine (G2.out _ (by assumption)).mono ?_); rintro e w1 ⟨rfl, rfl⟩) | (at_builtin; refine wpList_append_own _ rfl _ _ 84 rfl w.heap.size 99 i0 (.int .u32 0) 1 4 Try.underlying84 hi hz0 hz1 hz2 rfl (by decide) _ _ _ rfl (hown.alloc _) ⟨wr.heap.size, 0, none⟩ 1 1 [.int .u32 (((p : Int) + q + x) % 4294967296)] rfl rfl (one_new _ _ _) (by intro u hu; simp at hu; subst hu; rfl) (by unfold maxLen; omega) (by omega) (by have := hkw.size; simp; omega) ?_; intro v1 w1 hown1 hgrow1 _; have hk1 := below_own hkw rfl hown hgrow1; clear hgrow1; (rw [show ((((p : Int) + q + x) % 4294967296) : Int) = (((p + q + x) % 4294967296 : Nat) : Int) by omega, d32_snoc] at hown1); skip))
        go_roundw
        case rel => exact ⟨j + 1, (p + q + x) / 4294967296, L ++ [(p + q + x) % 4294967296], by omega, by go_num, by go_num, R1.out, by assumption, by assumption⟩
        case measure => simp [intOf]; omega
      · obtain rfl : j = max n m := by omega
        have R1 := hR.out
        rw [← hl.out, ← hl2.out] at R1
        have R2 := Lib.hid R1.done
        have bx := R1.2.2.1
        clear R1 hR
        go_wp2_with (first | (at_builtin; refine wpList_append_own _ rfl _ _ 84 rfl w.heap.size 99 i0 (.int .u32 0) 1 4 Try.underlying84 hi hz0 hz1 hz2 rfl (by decide) _ _ _ rfl (hown.alloc _) ⟨wr.heap.size, 0, none⟩ 1 1 [.int .u32 ((x : Int))] rfl rfl (one_new _ _ _) (by intro u hu; simp at hu; subst hu; rfl) (by unfold maxLen; omega) (by omega) (by have := hkw.size; simp; omega) ?_; intro v1 w1 hown1 hgrow1 _; have hk1 := below_own hkw rfl hown hgrow1; clear hgrow1; (rw [show (((x : Int)) : Int) = ((x : Nat) : Int) by omega, d32_snoc] at hown1); (obtain ⟨A1, c1, ev1, hD1⟩ := Dg.of_own hown1 (R2.out.1)); subst ev1) | (go_at_call 85; (with_reducible refine (normalize_any _ _ _ _ _ hD1 (by omega)).mono ?_); intro e w2 hret; have hret2 := hret; obtain ⟨A2, c2, rfl, hD2, hk2, hF2⟩ := hret))
        go_ret
        exact RetDg.of_norm (by assumption) R2.out.2 (by assumption)
end Go.Proofs.Ytjfimlcljbdglaa
