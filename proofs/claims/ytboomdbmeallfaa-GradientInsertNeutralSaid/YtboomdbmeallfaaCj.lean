/- Contract of color.Lerp. -/
import Derived.Test.YtboomdbmeallfaaCd
import Derived.Test.YtboomdbmeallfaaRd
namespace Go.Proofs.Ytboomdbmeallfaa
open Go.RowKit
set_option linter.unusedVariables false
set_option linter.unusedSimpArgs false
theorem lp8_0 (x y : Int) (hx : u8b x) : lp8 x y 0 = x := by
  unfold lp8
  rw [Int.mul_zero, Int.add_zero, Int.mul_comm]
  exact dn8_mul x hx.1 hx.2
theorem lp8_255 (x y : Int) (hy : u8b y) : lp8 x y 255 = y := by
  unfold lp8
  rw [show (255 : Int) - 255 = 0 from rfl, Int.mul_zero, Int.zero_add, Int.mul_comm]
  exact dn8_mul y hy.1 hy.2
end Go.Proofs.Ytboomdbmeallfaa
