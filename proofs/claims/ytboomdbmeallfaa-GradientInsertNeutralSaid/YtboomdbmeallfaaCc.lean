/- Contracts of package color: each, both, and the closures that they are given. -/
import Derived.Test.YtboomdbmeallfaaIm
import Derived.Test.YtboomdbmeallfaaPq
import Derived.Test.YtboomdbmeallfaaKk
import Derived.Deep.RegionHeld3
import Derived.RegionTactic
namespace Go.Proofs.Ytboomdbmeallfaa
open Go.RowKit
set_option linter.unusedVariables false
set_option linter.unusedSimpArgs false
theorem Keeps.far4 {w w2 : World} {g : Nat} (hk : Keeps w w2) (hg : w.heap.size ≤ g) (u v x y : Value) : Keeps w ((((w2.setCell ⟨g, 0, none⟩ u).setCell ⟨g, 1, none⟩ v).setCell ⟨g, 2, none⟩ x).setCell ⟨g, 3, none⟩ y) :=
  (((hk.setNew hg u).setNew hg v).setNew hg x).setNew hg y





end Go.Proofs.Ytboomdbmeallfaa
