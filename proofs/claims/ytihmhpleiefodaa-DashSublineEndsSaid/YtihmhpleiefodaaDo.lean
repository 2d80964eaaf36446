/- The example of chapter 25. -/
import Derived.Test.YtihmhpleiefodaaDn
import Derived.Test.YtihmhpleiefodaaQh
namespace Go.Proofs.Ytihmhpleiefodaa
open Go.RowKit Go.Shelf
attribute [local go_sem ↓] Go.wp_at_zero Go.wp_at_succ
set_option linter.unusedVariables false
set_option linter.unusedSimpArgs false
theorem apply_any (cl : Bool) (A : Option Addr) (n c : Nat) (L : List Pt) (wd jn cp ml ph : Int) (Ad : Option Addr) (nd cd : Nat) (D : List Int) (w : World) (h : Pts w A n c L) (hI : Ins w Ad nd cd D) (hn : n ≤ 4096) :
    Calls Try.prog 19 #[.agg #[.slice A n c, .bool cl], .agg #[.int .i64 wd, .int .i64 jn, .int .i64 cp, .int .i64 ml, .slice Ad nd cd, .int .i64 ph]] w (ApR w (apV cl L wd jn cp ml ph D)) := by
  cases hs : stB wd jn cp ml ph D with
  | false => exact apply_short cl A n c L wd jn cp ml ph Ad nd cd D w h hI hn (.inl hs)
  | true =>
    cases hv : L.all vP with
    | false => exact apply_short cl A n c L wd jn cp ml ph Ad nd cd D w h hI hn (.inr (.inl hv))
    | true =>
      by_cases hnd : nd = 0
      · exact apply_short cl A n c L wd jn cp ml ph Ad nd cd D w h hI hn (.inr (.inr hnd))
      · exact apply_long cl A n c L wd jn cp ml ph Ad nd cd D w h hI hn hs hv (by omega)
set_option maxRecDepth 100000 in
set_option maxHeartbeats 2000000 in
/-- Slices that read as the same polylines are the same. -/
theorem same25_any (A B : Option Addr) (n c c2 : Nat) (PL : List (Bool × List Pt)) (w : World) (h : Pls w A n c PL) (h2 : Pls w B n c2 PL) :
    Calls Try.prog 21 #[.slice A n c, .slice B n c2] w fun e w' => e = .returned (.bool true) ∧ Keeps w w' := by
  have hn : (n : Int) ≤ 9223372036854775807 := by have h1 := h.2.1; have h2 := h.2.2.1; unfold maxLen at h2; omega
  have HA := Lib.hid h
  have HB := Lib.hid h2
  clear h h2
  go_enter Try.func21, Try.ntmps21
  go_wp2_with fail
  go_loopw [5] (fun i wr => ∃ j : Nat, j ≤ n ∧ i = .int .i64 j ∧ Keeps w wr) (fun i _ => n - (intOf i).toNat)
  case atStart => exact ⟨0, by omega, rfl, Keeps.refl _⟩
  case round =>
    obtain ⟨j, hj, rfl, hkw⟩ := hrel
    by_cases hlt : j < n
    · obtain ⟨ba, oa, rfl, hba, hxa⟩ := HA.out.2.2.2 (by omega)
      obtain ⟨bb, ob, rfl, hbb, hxb⟩ := HB.out.2.2.2 (by omega)
      obtain ⟨Aj, nj, cj, ea0, ea1, hPa⟩ := hxa j hlt
      obtain ⟨Bj, mj, dj, eb0, eb1, hPb⟩ := hxb j hlt
      have hlt2 : (j : Int) < n := by omega
      have hnm : mj = nj := hPb.1.symm.trans hPa.1
      subst hnm
      have KR := Lib.hid (fun w' (hk : Keeps w w') => ring_any Aj Bj mj cj dj _ w' (hPa.keep hk) (hPb.keep hk))
      have KR2 := Lib.hid (fun k : KW wr => keepq (KR.out k.w (hkw.trans k.keeps)))
      have z0 := fun k : KW wr => ((hkw.trans k.keeps).cell (p := ⟨ba, oa + j * 2, none⟩) hba).trans ea0
      have z1 := fun k : KW wr => ((hkw.trans k.keeps).cell (p := ⟨ba, oa + j * 2 + 1, none⟩) hba).trans ea1
      have z2 := fun k : KW wr => ((hkw.trans k.keeps).cell (p := ⟨bb, ob + j * 2, none⟩) hbb).trans eb0
      have z3 := fun k : KW wr => ((hkw.trans k.keeps).cell (p := ⟨bb, ob + j * 2 + 1, none⟩) hbb).trans eb1
      clear hxa hxb ea0 ea1 eb0 eb1 hPa hPb KR
      generalize (PL.getD j pl0).1 = b at *
      go_upto_region 6 with fail
      refine wp_region_kept (wr) (by kernel_rfl) (by kernel_rfl) (Keeps.refl _) ?_
      repeat (first | go_big_quiet_skip | (go_big_quiet_want; go_big_quiet_op; first | go_big_quiet_on | go_big_quiet_call ((go_at_call 25; first | (with_reducible exact KR2.out _)))))
      refine wpQuiet_nil ?_
      rintro w' ⟨k9, rfl⟩
      have hk := k9.keeps
      generalize k9.w = w9 at hk ⊢
      clear k9
      have hk9 := hkw.trans hk
      clear z0 z1 z2 z3 KR2
      go_wp2_with fail
      go_roundw
      case rel => exact ⟨j + 1, by omega, by go_num, hk9⟩
      case measure => simp [intOf]; omega
    · obtain rfl : j = n := by omega
      go_wp2_with fail
      go_ret
      exact ⟨rfl, hkw⟩
end Go.Proofs.Ytihmhpleiefodaa
