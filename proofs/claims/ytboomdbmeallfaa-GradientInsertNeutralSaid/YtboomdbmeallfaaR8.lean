/- Contracts of the reference of layer 8 but for MulDivRound and DivRound (those lie over the reference's large integers). -/
import Derived.Test.YtboomdbmeallfaaIm
import Derived.Test.YtboomdbmeallfaaPq
namespace Go.Proofs.Ytboomdbmeallfaa
open Go.RowKit

theorem rclamp_any (n lo hi : Int) (w : World) :
    Calls Try.prog 41 #[.int .i64 n, .int .i64 lo, .int .i64 hi] w fun e w' => e = .returned (.int .i64 (clI n lo hi)) ∧ w = w' := by
  have h1 : n < lo → clI n lo hi = lo := fun h => by unfold clI; rw [if_pos h]
  have h2 : ¬ n < lo → hi < n → clI n lo hi = hi := fun h k => by unfold clI; rw [if_neg h, if_pos k]
  have h3 : ¬ n < lo → ¬ hi < n → clI n lo hi = n := fun h k => by unfold clI; rw [if_neg h, if_neg k]
  have H1 := Lib.hid h1
  have H2 := Lib.hid h2
  have H3 := Lib.hid h3
  clear h1 h2 h3
  go_enter Try.func41, Try.ntmps41
  go_wp2
  all_goals go_ret
  · exact ⟨ret_i64 (H1.out (by omega)).symm, rfl⟩
  · exact ⟨ret_i64 (H2.out (by omega) (by omega)).symm, rfl⟩
  · exact ⟨ret_i64 (H3.out (by omega) (by omega)).symm, rfl⟩

set_option maxHeartbeats 400000 in
theorem rmod_any (a b : Int) (w : World) (hB : b ≤ 9223372036854775807) :
    Calls Try.prog 42 #[.int .i64 a, .int .i64 b] w fun e w' => e = .returned (.int .i64 (modI a b)) ∧ w = w' := by
  go_enter Try.func42, Try.ntmps42
  go_wp2
  all_goals go_ret
  · exact ⟨ret_i64 (modI_zero (by omega)), rfl⟩
  · exact ⟨ret_i64 (modI_neg (by omega) hB ‹_›), rfl⟩
  · exact ⟨ret_i64 (modI_pos (by omega) ‹_›), rfl⟩



end Go.Proofs.Ytboomdbmeallfaa
