/- The example of chapter 22 holds. -/
import Derived.Test.YtdodgnpjlicnoaaGreatQq
import Derived.Test.YtdodgnpjlicnoaaGreatQp
namespace Go.Proofs.YtdodgnpjlicnoaaGreat
open Go.RowKit
set_option linter.unusedVariables false
set_option linter.unusedSimpArgs false
def want22 : List Pt := [(0, -128), (512, -128), (512, 128), (0, 128)]
def dot22 : List Pt := [(-1, -1), (1, -1), (1, 1), (-1, 1)]
theorem OwnP.pts {w0 w : World} {L : List Pt} {v : Value} {n : Nat} (h : w.ownsRow w0.heap.size 37 2 v L.length (rowP L)) (hn : L.length = n) (ho : ∀ p ∈ L, okP p) : ∃ A c, v = .slice A n c ∧ Pts w A n c L := by
  subst hn; exact Pts.of_own h rfl ho
theorem Pts.litH (w : World) (L : List Pt) (h : ∀ p ∈ L, okP p) (t : TypeId) (H n : Nat) (hH : w.heap.size = H) (hn : L.length = n) (hm : n ≤ maxLen) : Pts (w.alloc (.cells (rowP L).toArray t)) (some ⟨H, 0, none⟩) n n L := by
  subst hH hn
  exact Pts.lit w L h t hm
end Go.Proofs.YtdodgnpjlicnoaaGreat
