/- Plain law: premultiplying inverts unpremultiplying. -/
import Derived.Test.YtjfimlcljbdglaaOd
import Derived.Test.YtjfimlcljbdglaaCf
import Derived.Test.YtjfimlcljbdglaaRc
namespace Go.Proofs.Ytjfimlcljbdglaa
set_option linter.unusedVariables false
theorem un8_ok (n a : Int) (n0 : 0 ≤ n) (h : n ≤ a) (a0 : 1 ≤ a) (a1 : a ≤ 255) : u8b (un8 n a) ∧ mn8 (un8 n a) a = n := by
  obtain ⟨h1, h2⟩ := dvr_off2 (255 * n) a (by omega) (by omega)
  have h3 : 0 ≤ dvr (255 * n) a ∧ dvr (255 * n) a ≤ 255 := by
    constructor
    · apply Classical.byContradiction; intro hc
      have : dvr (255 * n) a * a ≤ (-1) * a := Int.mul_le_mul_of_nonneg_right (by omega) (by omega)
      omega
    · apply Classical.byContradiction; intro hc
      have : 256 * a ≤ dvr (255 * n) a * a := Int.mul_le_mul_of_nonneg_right (by omega) (by omega)
      omega
  have e : un8 n a = dvr (255 * n) a := wraps_u8 _ h3.1 (by omega)
  rw [e]
  refine ⟨h3, ?_⟩
  unfold mn8
  generalize dvr (255 * n) a * a = m at *
  omega
end Go.Proofs.Ytjfimlcljbdglaa
