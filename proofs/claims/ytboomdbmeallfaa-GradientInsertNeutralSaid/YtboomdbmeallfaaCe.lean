/- Contracts of package color: the closures, Clamp, Premultiply, Scale. -/
import Derived.Test.YtboomdbmeallfaaIm
import Derived.Test.YtboomdbmeallfaaPq
import Derived.Test.YtboomdbmeallfaaKk
namespace Go.Proofs.Ytboomdbmeallfaa
open Go.RowKit
set_option linter.unusedVariables false
set_option linter.unusedSimpArgs false

def un8 (n a : Int) : Int := IntKind.u8.wrap (dvr (255 * n) a)
end Go.Proofs.Ytboomdbmeallfaa
