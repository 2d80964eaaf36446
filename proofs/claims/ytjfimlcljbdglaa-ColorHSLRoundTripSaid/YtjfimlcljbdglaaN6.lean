/- Contracts of reference 01: Sub. -/
import Derived.Test.YtjfimlcljbdglaaN5
namespace Go.Proofs.Ytjfimlcljbdglaa
open Go.RowKit
set_option linter.unusedVariables false
set_option linter.unusedSimpArgs false

theorem cmpN_ge0 {a b : Nat} (h : b ≤ a) : 0 ≤ cmpN a b := by unfold cmpN; rw [if_neg (by omega)]; split <;> omega
/-- Two results: a []uint32 in new memory, and true. -/
def RetDgT (w0 : World) (D : List Nat) (e : Ending) (w' : World) : Prop := ∃ A c, e = .returned (.tuple #[.slice A D.length c, .bool true]) ∧ Dg w' A D.length c D ∧ Keeps w0 w' ∧ Fr w0 A
theorem RetDgT.of {w w1 w2 : World} {L : List Nat} {x : Nat} {A : Option Addr} {c : Nat} (h : Dg w2 A (dig (nv L)).length c (dig (nv L))) (hx : nv L = x) (hk : Keeps w w1) (hk2 : Keeps w1 w2) (hf : Fr w1 A) :
    RetDgT w (dig x) (.returned (.tuple #[.slice A (dig (nv L)).length c, .bool true])) w2 := by
  subst hx; exact ⟨A, c, rfl, h, hk.trans hk2, hf.back hk⟩
set_option maxRecDepth 100000 in
set_option maxHeartbeats 1000000 in
theorem sub1_lt (D E : List Nat) (A B : Option Addr) (n c m c2 : Nat) (w : World) (h : Dg w A n c D) (h2 : Dg w B m c2 E) (hsm : n ≤ 1000) (hsm2 : m ≤ 1000) (hlt : nv D < nv E) :
    Calls Try.prog 94 #[.slice A n c, .slice B m c2] w fun e w' => e = .returned (.tuple #[.slice none 0 0, .bool false]) ∧ w = w' := by
  have G0 := Lib.hid (fun w' (hk : Keeps w w') => cmp1_any D E A B n c m c2 w' (h.keep hk) (h2.keep hk) hsm hsm2)
  rw [cmpN_lt hlt] at G0
  have hK := Keeps.refl w
  go_enter Try.func94, Try.ntmps94
  go_wp2_with (go_at_call 93; (with_reducible refine (G0.out _ (by assumption)).mono ?_); rintro e w1 ⟨rfl, rfl⟩)
  go_ret2
  exact ⟨rfl, rfl⟩
set_option maxRecDepth 100000 in
set_option maxHeartbeats 1000000 in
theorem sub1_ge (D E : List Nat) (A B : Option Addr) (n c m c2 : Nat) (w : World) (h : Dg w A n c D) (h2 : Dg w B m c2 E) (hsm : n ≤ 1000) (hsm2 : m ≤ 1000) (hle : nv E ≤ nv D) :
    Calls Try.prog 94 #[.slice A n c, .slice B m c2] w (RetDgT w (dig (nv D - nv E))) := by
  have G0 := Lib.hid (fun w' (hk : Keeps w w') => cmp1_any D E A B n c m c2 w' (h.keep hk) (h2.keep hk) hsm hsm2)
  have hr0 := cmpN_ge0 hle
  generalize cmpN (nv D) (nv E) = r at *
  have hl := Lib.hid h.len
  have hl2 := Lib.hid h2.len
  have HD := Lib.hid h
  have HE := Lib.hid h2
  have hle := Lib.hid hle
  obtain ⟨i0, hi, hz0, hz1, hz2⟩ := info_parts u32_info
  have hK := Keeps.refl w
  clear h h2
  go_enter Try.func94, Try.ntmps94
  go_wp2_with (go_at_call 93; (with_reducible refine (G0.out _ (by assumption)).mono ?_); rintro e w1 ⟨rfl, rfl⟩)
  go_loopw [6, 7, 8] (fun v cy i wr => ∃ (j x : Nat) (L : List Nat), j ≤ n ∧ i = .int .i64 j ∧ cy = .int .u64 x ∧ Hid (SubR D E j L x) ∧ wr.ownsRow w.heap.size 99 1 v j (d32 L) ∧ Keeps w wr) (fun _ _ i _ => n - (intOf i).toNat)
  case atStart => exact ⟨0, 0, [], by omega, rfl, rfl, SubR.zero _ _, World.ownsRow_lit w #[] 0 (Nat.le_refl _) (by unfold maxLen; omega) (by simp), by exact (Keeps.refl _).alloc _⟩
  case round =>
    obtain ⟨j, x, L, hj, rfl, rfl, hR, hown, hkw⟩ := hrel
    by_cases hlt : j < n
    · have R1 := Lib.hid (hR.out.step HD.out.2 HE.out.2)
      have bx := hR.out.2.2.1
      have b1 := isD.getD HD.out.2 j
      have b2 := isD.getD HE.out.2 j
      have G1 := Lib.hid (fun w' hk => digit_nat D A n c j w' w HD.out hk (by omega))
      have G2 := Lib.hid (fun w' hk => digit_nat E B m c2 j w' w HE.out hk (by omega))
      generalize D.getD j 0 = p at *
      generalize E.getD j 0 = q at *
      go_wp2_with (first | (go_at_call 89; (with_reducible refine (G1.out _ (by assumption)).mono ?_); rintro e w1 ⟨rfl, rfl⟩) | (go_at_call 89; (with_reducible refine (G2.out _ (by assumption)).mono ?_); rintro e w1 ⟨rfl, rfl⟩) | (at_builtin; refine wpList_append_own _ rfl _ _ 84 rfl w.heap.size 99 i0 (.int .u32 0) 1 4 Try.underlying84 hi hz0 hz1 hz2 rfl (by decide) _ _ _ rfl (hown.alloc _) ⟨wr.heap.size, 0, none⟩ 1 1 [.int .u32 ((4294967296 + (p : Int) - q - x) % 4294967296)] rfl rfl (one_new _ _ _) (by intro u hu; simp at hu; subst hu; rfl) (by unfold maxLen; omega) (by omega) (by have := hkw.size; simp; omega) ?_; intro v1 w1 hown1 hgrow1 _; have hk1 := below_own hkw rfl hown hgrow1; clear hgrow1; (rw [show (((4294967296 + (p : Int) - q - x) % 4294967296) : Int) = (((4294967296 + p - q - x) % 4294967296 : Nat) : Int) by omega, d32_snoc] at hown1); skip))
      go_roundw
      case rel => exact ⟨j + 1, 1 - (4294967296 + p - q - x) / 4294967296, L ++ [(4294967296 + p - q - x) % 4294967296], by omega, by go_num, by go_num, R1.out, by assumption, by assumption⟩
      case measure => simp [intOf]; omega
    · obtain rfl : j = n := by omega
      have R1 := hR.out
      rw [← hl.out] at R1
      have R2 := Lib.hid (R1.done HD.out.2 hle.out)
      obtain ⟨A1, c1, ev1, hD1⟩ := Dg.of_own hown hR.out.2.1
      subst ev1
      clear R1 hR
      go_wp2_with (go_at_call 85; (with_reducible refine (normalize_any _ _ _ _ _ hD1 (by omega)).mono ?_); intro e w2 hret; have hret2 := hret; obtain ⟨A2, c2, rfl, hD2, hk2, hF2⟩ := hret)
      go_ret2
      exact RetDgT.of (by assumption) R2.out (by assumption) (by assumption) (by assumption)
end Go.Proofs.Ytjfimlcljbdglaa
