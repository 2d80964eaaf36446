/- Contracts of reference 27: Unpremultiply, Lerp. -/
import Derived.Test.YtboomdbmeallfaaRc
namespace Go.Proofs.Ytboomdbmeallfaa
open Go.RowKit
set_option linter.unusedVariables false
set_option linter.unusedSimpArgs false
def lp8 (x y k : Int) : Int := dn8 (x * (255 - k) + y * k)
theorem lp8_bd (x y k : Int) (hx : u8b x) (hy : u8b y) (hk : u8b k) : 0 ≤ x * (255 - k) ∧ x * (255 - k) ≤ 65025 ∧ 0 ≤ y * k ∧ y * k ≤ 65025 := by
  unfold u8b at *
  have h1 := Int.mul_nonneg hx.1 (show 0 ≤ 255 - k by omega)
  have h2 := Int.mul_nonneg hy.1 hk.1
  have h3 := Int.mul_le_mul hx.2 (show 255 - k ≤ 255 by omega) (by omega) (by omega)
  have h4 := Int.mul_le_mul hy.2 hk.2 hk.1 (by omega)
  omega
end Go.Proofs.Ytboomdbmeallfaa
