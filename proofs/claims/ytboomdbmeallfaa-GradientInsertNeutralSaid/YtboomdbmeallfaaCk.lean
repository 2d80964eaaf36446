/- Contracts of color.LerpColor and of reference 27's. -/
import Derived.Test.YtboomdbmeallfaaOd
import Derived.Test.YtboomdbmeallfaaCj
namespace Go.Proofs.Ytboomdbmeallfaa
open Go.RowKit
set_option linter.unusedVariables false
set_option linter.unusedSimpArgs false
def lc8 (x y k d : Int) : Int := x + dvr (k * (y - x)) d
theorem lc8_prod (x y k d : Int) (hx : u8b x) (hy : u8b y) (k0 : 0 ≤ k) (k1 : k ≤ d) (d0 : 1 ≤ d) (d1 : d ≤ 1099511627776) : -1125899906842624 ≤ k * (y - x) ∧ k * (y - x) ≤ 1125899906842624 := by
  unfold u8b at *
  have hp := Nat.mul_le_mul (show k.natAbs ≤ 1099511627776 by omega) (show (y - x).natAbs ≤ 1024 by omega)
  rw [← Int.natAbs_mul] at hp
  omega
theorem lc8_bd (x y k d : Int) (hx : u8b x) (hy : u8b y) (k0 : 0 ≤ k) (k1 : k ≤ d) (d0 : 1 ≤ d) (d1 : d ≤ 1099511627776) : 0 ≤ lc8 x y k d ∧ lc8 x y k d ≤ 255 := by
  unfold u8b at *
  have h := part_bd k (y - x) d k0 k1 d0 d1 (by omega) (by omega)
  unfold lc8
  generalize dvr (k * (y - x)) d = r at *
  by_cases hw : 0 ≤ y - x
  · have := h.1 hw; omega
  · have := h.2 (by omega); omega
theorem lc8_0 (x y d : Int) (d0 : 1 ≤ d) : lc8 x y 0 d = x := by unfold lc8; rw [Int.zero_mul, dvr_none d d0, Int.add_zero]
theorem lc8_full (x y d : Int) (hx : u8b x) (hy : u8b y) (d0 : 1 ≤ d) (d1 : d ≤ 1099511627776) : lc8 x y d d = y := by unfold u8b at *; unfold lc8; rw [dvr_full d (y - x) d0 d1 (by omega) (by omega)]; omega
set_option maxHeartbeats 1000000 in
theorem rlc1_any (x y k d : Int) (w : World) (hx : u8b x) (hy : u8b y) (k0 : 0 ≤ k) (k1 : k ≤ d) (d0 : 1 ≤ d) (d1 : d ≤ 1099511627776) :
    Calls Try.prog 50 #[.int .u8 x, .int .u8 y, .int .i64 k, .int .i64 d] w fun e w' => e = .returned (.int .u8 (lc8 x y k d)) ∧ Keeps w w' := by
  have hp := lc8_prod x y k d hx hy k0 k1 d0 d1
  have hb := lc8_bd x y k d hx hy k0 k1 d0 d1
  have hE := Lib.hid (show x + dvr (k * (y - x)) d = lc8 x y k d from rfl)
  obtain ⟨x0, x1⟩ := hx
  obtain ⟨y0, y1⟩ := hy
  have hk0 := Keeps.refl w
  have H := Lib.hid (fun w' hk => keepk (w0 := w) (rdvr_any (k * (y - x)) d w' (by omega) (by omega) (by omega) (by omega)) hk)
  rw [← hE.out] at hb ⊢
  clear hE
  generalize dvr (k * (y - x)) d = r at *
  go_enter Try.func50, Try.ntmps50
  go_wp2_with (go_at_call 44; (first | (with_reducible refine (H.out _ (by first | assumption | exact Keeps.drew (by assumption) | exact Keeps.drewN (by assumption) _)).mono ?_)); rintro e w1 ⟨rfl, hk⟩; skip)
  go_ret
  exact ⟨rfl, by assumption⟩
set_option maxHeartbeats 1000000 in
theorem lc1_any (x y k d : Int) (b c : Nat) (w : World) (ck : w.cell? ⟨b, 0, none⟩ = some (.int .i64 k)) (cd : w.cell? ⟨c, 0, none⟩ = some (.int .i64 d)) (hx : u8b x) (hy : u8b y) (k0 : 0 ≤ k) (k1 : k ≤ d) (d0 : 1 ≤ d) (d1 : d ≤ 1099511627776) :
    Calls Try.prog 49 #[.int .u8 x, .int .u8 y, .pointer (some ⟨b, 0, none⟩), .pointer (some ⟨c, 0, none⟩)] w fun e w' => e = .returned (.int .u8 (lc8 x y k d)) ∧ Keeps w w' := by
  have hp := lc8_prod x y k d hx hy k0 k1 d0 d1
  have hb := lc8_bd x y k d hx hy k0 k1 d0 d1
  have hE := Lib.hid (show x + dvr (k * (y - x)) d = lc8 x y k d from rfl)
  obtain ⟨x0, x1⟩ := hx
  obtain ⟨y0, y1⟩ := hy
  have hk0 := Keeps.refl w
  have H := Lib.hid (fun w' hk => keepk (w0 := w) (dvr_any (k * (y - x)) d w' (by omega) (by omega) (by omega) (by omega)) hk)
  rw [← hE.out] at hb ⊢
  clear hE
  generalize dvr (k * (y - x)) d = r at *
  go_enter Try.func49, Try.ntmps49
  go_wp2_with (go_at_call 43; (first | (with_reducible refine (H.out _ (by first | assumption | exact Keeps.drew (by assumption) | exact Keeps.drewN (by assumption) _)).mono ?_)); rintro e w1 ⟨rfl, hk⟩; skip)
  go_ret
  exact ⟨rfl, by assumption⟩
end Go.Proofs.Ytboomdbmeallfaa
