/- Contracts of package color: the closures, Clamp, Premultiply, Scale. -/
import Derived.Test.YtjfimlcljbdglaaIm
import Derived.Test.YtjfimlcljbdglaaPq
import Derived.Test.YtjfimlcljbdglaaKk
namespace Go.Proofs.Ytjfimlcljbdglaa
open Go.RowKit
set_option linter.unusedVariables false
set_option linter.unusedSimpArgs false

set_option maxHeartbeats 400000 in
theorem clamp1_any (n a : Int) (b : Nat) (w : World) (ca : w.cell? ⟨b, 3, none⟩ = some (.int .u8 a)) (n0 : 0 ≤ n) (n1 : n ≤ 255) (a0 : 0 ≤ a) (a1 : a ≤ 255) :
    Calls Try.prog 48 #[.int .u8 n, .pointer (some ⟨b, 0, none⟩)] w fun e w' => e = .returned (.int .u8 (min n a)) ∧ Keeps w w' := by
  go_enter Try.func48, Try.ntmps48
  go_wp2
  go_ret
  exact ⟨rfl, Keeps.refl _⟩
set_option maxHeartbeats 400000 in
theorem prem1_any (n a : Int) (b : Nat) (w : World) (ca : w.cell? ⟨b, 3, none⟩ = some (.int .u8 a)) (n0 : 0 ≤ n) (n1 : n ≤ 255) (a0 : 0 ≤ a) (a1 : a ≤ 255) :
    Calls Try.prog 44 #[.int .u8 n, .pointer (some ⟨b, 0, none⟩)] w fun e w' => e = .returned (.int .u8 (mn8 n a)) ∧ Keeps w w' := by
  have hk0 := Keeps.refl w
  have H := Lib.hid (fun w' hk => keepk (w0 := w) (mulnorm_any n a w' n0 n1 a0 a1) hk)
  go_enter Try.func44, Try.ntmps44
  go_wp2_with (go_at_call 45; (first | (with_reducible refine (H.out _ (by first | assumption | exact Keeps.drew (by assumption) | exact Keeps.drewN (by assumption) _)).mono ?_)); rintro e w1 ⟨rfl, hk⟩; skip)
  go_ret
  exact ⟨rfl, by assumption⟩
set_option maxHeartbeats 400000 in
theorem scale1_any (n a : Int) (b : Nat) (w : World) (ca : w.cell? ⟨b, 0, none⟩ = some (.int .u8 a)) (n0 : 0 ≤ n) (n1 : n ≤ 255) (a0 : 0 ≤ a) (a1 : a ≤ 255) :
    Calls Try.prog 52 #[.int .u8 n, .pointer (some ⟨b, 0, none⟩)] w fun e w' => e = .returned (.int .u8 (mn8 n a)) ∧ Keeps w w' := by
  have hk0 := Keeps.refl w
  have H := Lib.hid (fun w' hk => keepk (w0 := w) (mulnorm_any n a w' n0 n1 a0 a1) hk)
  go_enter Try.func52, Try.ntmps52
  go_wp2_with (go_at_call 45; (first | (with_reducible refine (H.out _ (by first | assumption | exact Keeps.drew (by assumption) | exact Keeps.drewN (by assumption) _)).mono ?_)); rintro e w1 ⟨rfl, hk⟩; skip)
  go_ret
  exact ⟨rfl, by assumption⟩
def un8 (n a : Int) : Int := IntKind.u8.wrap (dvr (255 * n) a)
set_option maxHeartbeats 400000 in
theorem unprem1_any (n a : Int) (b : Nat) (w : World) (ca : w.cell? ⟨b, 3, none⟩ = some (.int .u8 a)) (n0 : 0 ≤ n) (n1 : n ≤ 255) (a0 : 0 ≤ a) (a1 : a ≤ 255) :
    Calls Try.prog 49 #[.int .u8 n, .pointer (some ⟨b, 0, none⟩)] w fun e w' => e = .returned (.int .u8 (un8 n a)) ∧ Keeps w w' := by
  have hk0 := Keeps.refl w
  have H := Lib.hid (fun w' hk => keepk (w0 := w) (dvr_any (255 * n) a w' (by omega) (by omega) (by omega) (by omega)) hk)
  go_enter Try.func49, Try.ntmps49
  go_wp2_with (go_at_call 50; (first | (with_reducible refine (H.out _ (by first | assumption | exact Keeps.drew (by assumption) | exact Keeps.drewN (by assumption) _)).mono ?_)); rintro e w1 ⟨rfl, hk⟩; skip)
  go_ret
  exact ⟨rfl, by assumption⟩
end Go.Proofs.Ytjfimlcljbdglaa
