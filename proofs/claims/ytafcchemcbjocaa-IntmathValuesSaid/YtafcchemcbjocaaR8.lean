/- Contracts of the reference of layer 8 but for MulDivRound and DivRound (those lie over the reference's large integers). -/
import Derived.Test.YtafcchemcbjocaaIm
import Derived.Test.YtafcchemcbjocaaPq
namespace Go.Proofs.Ytafcchemcbjocaa
open Go.RowKit

theorem rclamp_any (n lo hi : Int) (w : World) :
    Calls Try.prog 21 #[.int .i64 n, .int .i64 lo, .int .i64 hi] w fun e w' => e = .returned (.int .i64 (clI n lo hi)) ∧ w = w' := by
  have h1 : n < lo → clI n lo hi = lo := fun h => by unfold clI; rw [if_pos h]
  have h2 : ¬ n < lo → hi < n → clI n lo hi = hi := fun h k => by unfold clI; rw [if_neg h, if_pos k]
  have h3 : ¬ n < lo → ¬ hi < n → clI n lo hi = n := fun h k => by unfold clI; rw [if_neg h, if_neg k]
  have H1 := Lib.hid h1
  have H2 := Lib.hid h2
  have H3 := Lib.hid h3
  clear h1 h2 h3
  go_enter Try.func21, Try.ntmps21
  go_wp2
  all_goals go_ret
  · exact ⟨ret_i64 (H1.out (by omega)).symm, rfl⟩
  · exact ⟨ret_i64 (H2.out (by omega) (by omega)).symm, rfl⟩
  · exact ⟨ret_i64 (H3.out (by omega) (by omega)).symm, rfl⟩

set_option maxHeartbeats 400000 in
theorem rmod_any (a b : Int) (w : World) (hB : b ≤ 9223372036854775807) :
    Calls Try.prog 23 #[.int .i64 a, .int .i64 b] w fun e w' => e = .returned (.int .i64 (modI a b)) ∧ w = w' := by
  go_enter Try.func23, Try.ntmps23
  go_wp2
  all_goals go_ret
  · exact ⟨ret_i64 (modI_zero (by omega)), rfl⟩
  · exact ⟨ret_i64 (modI_neg (by omega) hB ‹_›), rfl⟩
  · exact ⟨ret_i64 (modI_pos (by omega) ‹_›), rfl⟩

theorem rmn_ok (a b : Int) (a0 : 0 ≤ a) (a1 : a ≤ 255) (b0 : 0 ≤ b) (b1 : b ≤ 255) : ∃ p : Int, 2 * a * b = p ∧ 0 ≤ p ∧ p ≤ 130050 ∧ (p + 255) / 510 = mn8 a b := by
  have h0 := Int.mul_nonneg a0 b0
  have h1 : a * b ≤ 65025 := Int.mul_le_mul a1 b1 b0 (by omega)
  refine ⟨_, rfl, ?_⟩
  rw [Int.mul_assoc]
  unfold mn8
  generalize a * b = p at *
  omega
set_option maxHeartbeats 400000 in
theorem rmulnorm_any (a b : Int) (w : World) (a0 : 0 ≤ a) (a1 : a ≤ 255) (b0 : 0 ≤ b) (b1 : b ≤ 255) :
    Calls Try.prog 17 #[.int .u8 a, .int .u8 b] w fun e w' => e = .returned (.int .u8 (mn8 a b)) ∧ w = w' := by
  obtain ⟨p, ep, p0, p1, e8⟩ := rmn_ok a b a0 a1 b0 b1
  have E8 := Lib.hid e8
  clear e8
  go_enter Try.func17, Try.ntmps17
  go_wp2
  go_ret
  exact ⟨ret_u8 E8.out, rfl⟩

set_option maxHeartbeats 400000 in
theorem rdivnorm_any (n : Int) (w : World) :
    Calls Try.prog 19 #[.int .i64 n] w fun e w' => e = .returned (.int .u8 (dn8 n)) ∧ w = w' := by
  have h1 := Lib.hid (show n < 0 → (0 : Int) = dn8 n from fun h => by unfold dn8 clI; split <;> (try split) <;> omega)
  have h2 := Lib.hid (show 65025 < n → (255 : Int) = dn8 n from fun h => by unfold dn8 clI; split <;> (try split) <;> omega)
  have h3 := Lib.hid (show 0 ≤ n → n ≤ 65025 → (2 * n + 255) / 510 = dn8 n from fun h k => by unfold dn8 clI; split <;> (try split) <;> omega)
  go_enter Try.func19, Try.ntmps19
  go_wp2
  all_goals go_ret
  · exact ⟨ret_u8 (h1.out (by omega)), rfl⟩
  · exact ⟨ret_u8 (h2.out (by omega)), rfl⟩
  · exact ⟨ret_u8 (h3.out (by omega) (by omega)), rfl⟩

set_option maxHeartbeats 400000 in
theorem rsqrt_any (n : Nat) (w : World) :
    Calls Try.prog 12 #[.int .u64 n] w fun e w' => e = .returned (.int .u64 (isq n)) ∧ w = w' := by
  go_enter Try.func12, Try.ntmps12
  go_wp2
  go_loop [3, 4] (fun r i => ∃ k s : Nat, k ≤ 32 ∧ i = .int .i64 ((k : Int) - 1) ∧ r = .int .u64 s ∧ Hid (isqF k n s = isq n) ∧ Hid (s + 2 ^ k ≤ 4294967296)) (fun _ i => (intOf i + 1).toNat)
  case atStart => exact ⟨32, 0, by omega, rfl, rfl, rfl, by unfold Hid; omega⟩
  case round =>
    obtain ⟨k, s, hk, rfl, rfl, h1, h3⟩ := hrel
    cases k with
    | zero =>
      go_wp2
      go_ret
      exact ⟨ret_u64 (by rw [← h1.out]; rfl), rfl⟩
    | succ k =>
      have e1 := add_step s k (by omega) h3.out
      have e2 := sq_step s k h3.out
      generalize hz : s + 2 ^ k = z at e1 e2
      have HZ := Lib.hid hz
      clear hz
      go_wp2
      · have hc : z * z ≤ n := by have h : (z : Int) * z ≤ n := by assumption
                                  exact Int.ofNat_le.1 (by rw [Int.natCast_mul]; exact h)
        have H := HZ.out
        go_round
        case rel => exact ⟨k, z, by omega, rfl, rfl, by rw [← H] at hc ⊢; exact isq_yes h1.out hc, by rw [← H]; exact le_yes h3.out⟩
        case measure => simp [intOf]
      · have hc : ¬ z * z ≤ n := by have h : (n : Int) < (z : Int) * z := by assumption
                                    intro h'
                                    have := Int.ofNat_le.2 h'
                                    rw [Int.natCast_mul] at this
                                    omega
        have H := HZ.out
        go_round
        case rel => exact ⟨k, s, by omega, rfl, rfl, by rw [← H] at hc; exact isq_no h1.out hc, le_no h3.out⟩
        case measure => simp [intOf]
end Go.Proofs.Ytafcchemcbjocaa
