/- Contracts of the reference of layer 8 but for MulDivRound and DivRound (those lie over the reference's large integers). -/
import Derived.Test.YtjfimlcljbdglaaIm
import Derived.Test.YtjfimlcljbdglaaPq
namespace Go.Proofs.Ytjfimlcljbdglaa
open Go.RowKit


set_option maxHeartbeats 400000 in
theorem rmod_any (a b : Int) (w : World) (hB : b ≤ 9223372036854775807) :
    Calls Try.prog 68 #[.int .i64 a, .int .i64 b] w fun e w' => e = .returned (.int .i64 (modI a b)) ∧ w = w' := by
  go_enter Try.func68, Try.ntmps68
  go_wp2
  all_goals go_ret
  · exact ⟨ret_i64 (modI_zero (by omega)), rfl⟩
  · exact ⟨ret_i64 (modI_neg (by omega) hB ‹_›), rfl⟩
  · exact ⟨ret_i64 (modI_pos (by omega) ‹_›), rfl⟩

theorem rmn_ok (a b : Int) (a0 : 0 ≤ a) (a1 : a ≤ 255) (b0 : 0 ≤ b) (b1 : b ≤ 255) : ∃ p : Int, 2 * a * b = p ∧ 0 ≤ p ∧ p ≤ 130050 ∧ (p + 255) / 510 = mn8 a b := by
  have h0 := Int.mul_nonneg a0 b0
  have h1 : a * b ≤ 65025 := Int.mul_le_mul a1 b1 b0 (by omega)
  refine ⟨_, rfl, ?_⟩
  rw [Int.mul_assoc]
  unfold mn8
  generalize a * b = p at *
  omega
set_option maxHeartbeats 400000 in
theorem rmulnorm_any (a b : Int) (w : World) (a0 : 0 ≤ a) (a1 : a ≤ 255) (b0 : 0 ≤ b) (b1 : b ≤ 255) :
    Calls Try.prog 46 #[.int .u8 a, .int .u8 b] w fun e w' => e = .returned (.int .u8 (mn8 a b)) ∧ w = w' := by
  obtain ⟨p, ep, p0, p1, e8⟩ := rmn_ok a b a0 a1 b0 b1
  have E8 := Lib.hid e8
  clear e8
  go_enter Try.func46, Try.ntmps46
  go_wp2
  go_ret
  exact ⟨ret_u8 E8.out, rfl⟩

set_option maxHeartbeats 400000 in
theorem rdivnorm_any (n : Int) (w : World) :
    Calls Try.prog 67 #[.int .i64 n] w fun e w' => e = .returned (.int .u8 (dn8 n)) ∧ w = w' := by
  have h1 := Lib.hid (show n < 0 → (0 : Int) = dn8 n from fun h => by unfold dn8 clI; split <;> (try split) <;> omega)
  have h2 := Lib.hid (show 65025 < n → (255 : Int) = dn8 n from fun h => by unfold dn8 clI; split <;> (try split) <;> omega)
  have h3 := Lib.hid (show 0 ≤ n → n ≤ 65025 → (2 * n + 255) / 510 = dn8 n from fun h k => by unfold dn8 clI; split <;> (try split) <;> omega)
  go_enter Try.func67, Try.ntmps67
  go_wp2
  all_goals go_ret
  · exact ⟨ret_u8 (h1.out (by omega)), rfl⟩
  · exact ⟨ret_u8 (h2.out (by omega)), rfl⟩
  · exact ⟨ret_u8 (h3.out (by omega) (by omega)), rfl⟩

end Go.Proofs.Ytjfimlcljbdglaa
