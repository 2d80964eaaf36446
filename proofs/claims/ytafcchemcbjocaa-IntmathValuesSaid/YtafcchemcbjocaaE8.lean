/- The examples of chapter 8 hold. -/
import Derived.Test.YtafcchemcbjocaaIm
namespace Go.Proofs.Ytafcchemcbjocaa
open Go.RowKit
set_option maxRecDepth 100000 in
set_option maxHeartbeats 1000000 in
theorem example8 (w0 w : World) (hk : Keeps w0 w) : Calls Try.prog 15 #[] w fun e w' => e = .returned (.bool true) ∧ Keeps w0 w' := by
  have e1 : mdrN 3 5 2 = 8 := by decide +kernel
  have e2 : mdrB 3 5 2 = true := by decide +kernel
  have e3 : mdrB 1 1 0 = false := by decide +kernel
  have e4 : dvr 5 2 = 3 := by decide +kernel
  have e5 : dvr (-5) 2 = -3 := by decide +kernel
  have e6 : mn8 128 255 = 128 := by decide +kernel
  have e7 : mn8 128 128 = 64 := by decide +kernel
  have e8 : dn8 300 = 1 := by decide +kernel
  have e9 : isq 24 = 4 := by decide +kernel
  have e10 : modI (-1) 5 = 4 := by decide +kernel
  have e11 : clI 3 5 4 = 5 := by decide +kernel
  have s24 := fun w => sqrt_any 24 w
  rw [e9] at s24
  have S24 := Lib.hid s24
  clear s24 e9
  go_enter Try.func15, Try.ntmps15
  go_wp2_with (first | (go_at_call 9; refine (keep (muldiv_any _ _ _ _ (by omega) (by omega) (by omega) (by omega) (by omega) (by omega)) (by first | assumption | exact Keeps.drewN (by assumption) _ | exact Keeps.alloc (by assumption) _ | exact Keeps.drewN (Keeps.alloc (by assumption) _) _)).mono ?_; rintro e w1 ⟨rfl, hk⟩) | (go_at_call 13; refine (keep (dvr_any _ _ _ (by omega) (by omega) (by omega) (by omega)) (by first | assumption | exact Keeps.drewN (by assumption) _ | exact Keeps.alloc (by assumption) _ | exact Keeps.drewN (Keeps.alloc (by assumption) _) _)).mono ?_; rintro e w1 ⟨rfl, hk⟩) | (go_at_call 16; refine (keep (mulnorm_any _ _ _ (by omega) (by omega) (by omega) (by omega)) (by first | assumption | exact Keeps.drewN (by assumption) _ | exact Keeps.alloc (by assumption) _ | exact Keeps.drewN (Keeps.alloc (by assumption) _) _)).mono ?_; rintro e w1 ⟨rfl, hk⟩) | (go_at_call 18; refine (keep (divnorm_any _ _ (by omega) (by omega)) (by first | assumption | exact Keeps.drewN (by assumption) _ | exact Keeps.alloc (by assumption) _ | exact Keeps.drewN (Keeps.alloc (by assumption) _) _)).mono ?_; rintro e w1 ⟨rfl, hk⟩) | (go_at_call 11; refine (S24.out _).mono ?_; rintro e w1 ⟨rfl, rfl⟩) | (go_at_call 22; refine (mod_any _ _ _ (by omega)).mono ?_; rintro e w1 ⟨rfl, rfl⟩) | (go_at_call 20; refine (clamp_any _ _ _ _).mono ?_; rintro e w1 ⟨rfl, rfl⟩))
  go_ret
  exact ⟨rfl, by assumption⟩
end Go.Proofs.Ytafcchemcbjocaa
