/- Contracts of the reference of layer 8 but for MulDivRound and DivRound (those lie over the reference's large integers). -/
import Derived.Test.YtihmhpleiefodaaIm
import Derived.Test.YtihmhpleiefodaaPq
namespace Go.Proofs.Ytihmhpleiefodaa
open Go.RowKit

theorem rclamp_any (n lo hi : Int) (w : World) :
    Calls Try.prog 59 #[.int .i64 n, .int .i64 lo, .int .i64 hi] w fun e w' => e = .returned (.int .i64 (clI n lo hi)) ∧ w = w' := by
  have h1 : n < lo → clI n lo hi = lo := fun h => by unfold clI; rw [if_pos h]
  have h2 : ¬ n < lo → hi < n → clI n lo hi = hi := fun h k => by unfold clI; rw [if_neg h, if_pos k]
  have h3 : ¬ n < lo → ¬ hi < n → clI n lo hi = n := fun h k => by unfold clI; rw [if_neg h, if_neg k]
  have H1 := Lib.hid h1
  have H2 := Lib.hid h2
  have H3 := Lib.hid h3
  clear h1 h2 h3
  go_enter Try.func59, Try.ntmps59
  go_wp2
  all_goals go_ret
  · exact ⟨ret_i64 (H1.out (by omega)).symm, rfl⟩
  · exact ⟨ret_i64 (H2.out (by omega) (by omega)).symm, rfl⟩
  · exact ⟨ret_i64 (H3.out (by omega) (by omega)).symm, rfl⟩




set_option maxHeartbeats 400000 in
theorem rsqrt_any (n : Nat) (w : World) :
    Calls Try.prog 65 #[.int .u64 n] w fun e w' => e = .returned (.int .u64 (isq n)) ∧ w = w' := by
  go_enter Try.func65, Try.ntmps65
  go_wp2
  go_loop [3, 4] (fun r i => ∃ k s : Nat, k ≤ 32 ∧ i = .int .i64 ((k : Int) - 1) ∧ r = .int .u64 s ∧ Hid (isqF k n s = isq n) ∧ Hid (s + 2 ^ k ≤ 4294967296)) (fun _ i => (intOf i + 1).toNat)
  case atStart => exact ⟨32, 0, by omega, rfl, rfl, rfl, by unfold Hid; omega⟩
  case round =>
    obtain ⟨k, s, hk, rfl, rfl, h1, h3⟩ := hrel
    cases k with
    | zero =>
      go_wp2
      go_ret
      exact ⟨ret_u64 (by rw [← h1.out]; rfl), rfl⟩
    | succ k =>
      have e1 := add_step s k (by omega) h3.out
      have e2 := sq_step s k h3.out
      generalize hz : s + 2 ^ k = z at e1 e2
      have HZ := Lib.hid hz
      clear hz
      go_wp2
      · have hc : z * z ≤ n := by have h : (z : Int) * z ≤ n := by assumption
                                  exact Int.ofNat_le.1 (by rw [Int.natCast_mul]; exact h)
        have H := HZ.out
        go_round
        case rel => exact ⟨k, z, by omega, rfl, rfl, by rw [← H] at hc ⊢; exact isq_yes h1.out hc, by rw [← H]; exact le_yes h3.out⟩
        case measure => simp [intOf]
      · have hc : ¬ z * z ≤ n := by have h : (n : Int) < (z : Int) * z := by assumption
                                    intro h'
                                    have := Int.ofNat_le.2 h'
                                    rw [Int.natCast_mul] at this
                                    omega
        have H := HZ.out
        go_round
        case rel => exact ⟨k, s, by omega, rfl, rfl, by rw [← H] at hc; exact isq_no h1.out hc, le_no h3.out⟩
        case measure => simp [intOf]
end Go.Proofs.Ytihmhpleiefodaa
