/- Rows of the call's own: their cells, what a splice and a store make of them. -/
import Derived.Test.YtihmhpleiefodaaSl
import Derived.Test.YtihmhpleiefodaaKk
import Derived.Laws.CopyOwn
namespace Go.Proofs.Ytihmhpleiefodaa
open Go.RowKit
set_option linter.unusedVariables false
theorem rowAt {w : World} {B n g cap size : Nat} {e : TypeId} {xs : List Value} (h : w.ownsRow B e size (.slice (some ⟨g, 0, none⟩) n cap) n xs) (i : Nat) (hi : i < n * size) :
    g < w.heap.size ∧ w.cell? ⟨g, i, none⟩ = xs[i]? ∧ w.frozen? ⟨g, i, none⟩ = false ∧ ∃ u, w.cell? ⟨g, i, none⟩ = some u := by
  have hx := h.1
  refine ⟨(h.lt g (by simp [Value.ownBlock])).2, h.cellAt i hi, h.frozenAt i, ?_⟩
  rw [h.cellAt i hi, List.getElem?_eq_getElem (by omega)]
  exact ⟨_, rfl⟩
theorem rowBase {w : World} {B n g cap size : Nat} {e : TypeId} {xs : List Value} (h : w.ownsRow B e size (.slice (some ⟨g, 0, none⟩) n cap) n xs) : B ≤ g ∧ g < w.heap.size := h.lt g (by simp [Value.ownBlock])
theorem setOff (w : World) (g a b : Nat) (u : Value) (h : a ≠ b) : (w.setCell ⟨g, a, none⟩ u).cell? ⟨g, b, none⟩ = w.cell? ⟨g, b, none⟩ :=
  World.cell?_setCell_other _ _ _ _ (fun e => by injection e with _ e2 _; omega)
theorem setFar (w : World) (g a b o : Nat) (u : Value) (h : g ≠ b) : (w.setCell ⟨g, a, none⟩ u).cell? ⟨b, o, none⟩ = w.cell? ⟨b, o, none⟩ :=
  World.cell?_setCell_other _ _ _ _ (fun e => by injection e with e1 _ _; omega)
theorem setRow_grown (w : World) (g : Nat) (cs : Array Value) : w.grownBy (w.setRow g cs) (some g) :=
  ⟨rfl, rfl, rfl, by simp, fun k _ hk => setRow_other w g k cs (fun e => hk (by simp [e]))⟩
theorem cell_setRow_far (w : World) (g b o : Nat) (cs : Array Value) (h : b ≠ g) : (w.setRow g cs).cell? ⟨b, o, none⟩ = w.cell? ⟨b, o, none⟩ := by
  unfold World.cell?
  rw [setRow_other w g b cs h]
theorem Keeps.setRowNew {w0 w : World} (h : Keeps w0 w) {g : Nat} (hg : w0.heap.size ≤ g) (cs : Array Value) : Keeps w0 (w.setRow g cs) :=
  Below.grown h (setRow_grown w g cs) h.size (fun k hk => by cases hk; exact hg)
/-- A row of the call's own, its cells set anew. -/
theorem own_setRow {w : World} {B n g cap size : Nat} {e : TypeId} {xs ys : List Value} (h : w.ownsRow B e size (.slice (some ⟨g, 0, none⟩) n cap) n xs) (cur : Array Value) (hg : w.heap[g]? = some (.cells cur e (0, 0))) (cs : List Value)
    (hc : cs.length = cur.size) (hy : cs.take (n * size) = ys) : (w.setRow g cs.toArray).ownsRow B e size (.slice (some ⟨g, 0, none⟩) n cap) n ys := by
  have hx := h.1
  rcases h.2 with ⟨h', _⟩ | ⟨g', cap', cur', h', hb, hg', hnc, hcm, hcs, htake⟩
  · simp at h'
  · simp only [Value.slice.injEq, Option.some.injEq, Addr.mk.injEq, and_true, true_and] at h'
    obtain ⟨rfl, rfl⟩ := h'
    rw [hg] at hg'
    obtain rfl : cur = cur' := by simpa using hg'
    have hmul : n * size ≤ cap * size := Nat.mul_le_mul_right _ hnc
    refine ⟨?_, .inr ⟨g, cap, cs.toArray, rfl, hb, setRow_heap w g cur cs.toArray e (0, 0) hg, hnc, hcm, by simpa [hc] using hcs, by simpa using hy⟩⟩
    rw [← hy, List.length_take]
    omega
theorem own_base {w : World} {B B2 size n : Nat} {e : TypeId} {v : Value} {xs : List Value} (h : w.ownsRow B e size v n xs) (hb : B2 ≤ B) : w.ownsRow B2 e size v n xs := by
  refine ⟨h.1, ?_⟩
  rcases h.2 with hn | ⟨g, cap, cur, rfl, hB, rest⟩
  · exact .inl hn
  · exact .inr ⟨g, cap, cur, rfl, Nat.le_trans hb hB, rest⟩
theorem own_slice {w : World} {B size n : Nat} {e : TypeId} {v : Value} {xs : List Value} (h : w.ownsRow B e size v n xs) (hn : 0 < n) : ∃ g cap, v = .slice (some ⟨g, 0, none⟩) n cap ∧ n ≤ cap ∧ B ≤ g ∧ w.ownsRow B e size (.slice (some ⟨g, 0, none⟩) n cap) n xs := by
  rcases h.2 with ⟨_, h0⟩ | ⟨g, cap, cur, rfl, hB, rest⟩
  · omega
  · exact ⟨g, cap, rfl, rest.2.1, hB, h⟩
theorem row_parts {w : World} {B n g cap size : Nat} {e : TypeId} {xs : List Value} (h : w.ownsRow B e size (.slice (some ⟨g, 0, none⟩) n cap) n xs) :
    ∃ cur : Array Value, w.heap[g]? = some (.cells cur e (0, 0)) ∧ n ≤ cap ∧ cur.size = cap * size ∧ cur.toList.take (n * size) = xs := by
  rcases h.2 with ⟨h', _⟩ | ⟨g', cap', cur, h', hb, hg, hnc, hcm, hcs, htake⟩
  · simp at h'
  · simp only [Value.slice.injEq, Option.some.injEq, Addr.mk.injEq, and_true, true_and] at h'
    obtain ⟨rfl, rfl⟩ := h'
    exact ⟨cur, hg, hnc, hcs, htake⟩
end Go.Proofs.Ytihmhpleiefodaa
