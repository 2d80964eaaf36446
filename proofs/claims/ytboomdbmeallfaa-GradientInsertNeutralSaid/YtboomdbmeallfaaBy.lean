/- Boxes of 5 cells that a drawn region makes and fills (gen_bx.py). -/
import Derived.Test.YtboomdbmeallfaaWd
import Derived.Test.YtboomdbmeallfaaRi
namespace Go.Proofs.Ytboomdbmeallfaa
def Box5 (b : Bool) (lo p : Nat) (u0 u1 u2 u3 u4 : Value) (w : World) : Prop :=
  b = true → lo ≤ p ∧ p < w.heap.size ∧ w.cell? ⟨p, 0, none⟩ = some u0 ∧ w.cell? ⟨p, 1, none⟩ = some u1 ∧ w.cell? ⟨p, 2, none⟩ = some u2 ∧ w.cell? ⟨p, 3, none⟩ = some u3 ∧ w.cell? ⟨p, 4, none⟩ = some u4 ∧ w.frozen? ⟨p, 0, none⟩ = false ∧ w.frozen? ⟨p, 1, none⟩ = false ∧ w.frozen? ⟨p, 2, none⟩ = false ∧ w.frozen? ⟨p, 3, none⟩ = false ∧ w.frozen? ⟨p, 4, none⟩ = false
theorem Box5.none {lo p : Nat} {u0 u1 u2 u3 u4 : Value} {w : World} : Box5 false lo p u0 u1 u2 u3 u4 w := fun h => by cases h
theorem Box5.keeps {b : Bool} {lo p : Nat} {u0 u1 u2 u3 u4 : Value} {w w1 : World} (h : Box5 b lo p u0 u1 u2 u3 u4 w) (hk : Keeps w w1) : Box5 b lo p u0 u1 u2 u3 u4 w1 := fun hb =>
  have ⟨h1, h2, h3, h4, h5, h6, h7, h8, h9, h10, h11, h12⟩ := h hb
  ⟨h1, Nat.lt_of_lt_of_le h2 hk.size, (hk.cell h2).trans h3, (hk.cell h2).trans h4, (hk.cell h2).trans h5, (hk.cell h2).trans h6, (hk.cell h2).trans h7, (hk.frozen h2).trans h8, (hk.frozen h2).trans h9, (hk.frozen h2).trans h10, (hk.frozen h2).trans h11, (hk.frozen h2).trans h12⟩
theorem Box5.new {lo : Nat} {u0 u1 u2 u3 u4 : Value} {t : TypeId} {w : World} (h : lo ≤ w.heap.size) : Box5 true lo w.heap.size u0 u1 u2 u3 u4 (w.alloc (.cells #[u0, u1, u2, u3, u4] t)) := fun _ =>
  ⟨h, by simp, by simp [go_sem], by simp [go_sem], by simp [go_sem], by simp [go_sem], by simp [go_sem], by simp [go_sem], by simp [go_sem], by simp [go_sem], by simp [go_sem], by simp [go_sem]⟩
theorem Box5.ne {b : Bool} {lo p : Nat} {u0 u1 u2 u3 u4 : Value} {w : World} (h : Box5 b lo p u0 u1 u2 u3 u4 w) (hb : b = true) : p ≠ w.heap.size := Nat.ne_of_lt (h hb).2.1
theorem Box5.far {b : Bool} {lo p q : Nat} {u0 u1 u2 u3 u4 v0 v1 v2 v3 v4 : Value} {w : World} (h : Box5 b lo p u0 u1 u2 u3 u4 w) (hne : b = true → p ≠ q) :
    Box5 b lo p u0 u1 u2 u3 u4 ((((((w).setCell ⟨q, 0, .none⟩ v0).setCell ⟨q, 1, .none⟩ v1).setCell ⟨q, 2, .none⟩ v2).setCell ⟨q, 3, .none⟩ v3).setCell ⟨q, 4, .none⟩ v4) := fun hb => by
  obtain ⟨h1, h2, h3, h4, h5, h6, h7, h8, h9, h10, h11, h12⟩ := h hb
  have n : ∀ k : Nat, (⟨q, k, .none⟩ : Addr).block ≠ p := fun _ e => hne hb e.symm
  refine ⟨h1, by simpa using h2, ?_, ?_, ?_, ?_, ?_, by simpa using h8, by simpa using h9, by simpa using h10, by simpa using h11, by simpa using h12⟩ <;>
    (rw [World.cell?_setCell_far _ _ _ _ (n _), World.cell?_setCell_far _ _ _ _ (n _), World.cell?_setCell_far _ _ _ _ (n _), World.cell?_setCell_far _ _ _ _ (n _), World.cell?_setCell_far _ _ _ _ (n _)]; assumption)
theorem Box5.at {lo p : Nat} {u0 u1 u2 u3 u4 v0 v1 v2 v3 v4 : Value} {w : World} (h : Box5 true lo p u0 u1 u2 u3 u4 w) :
    Box5 true lo p v0 v1 v2 v3 v4 ((((((w).setCell ⟨p, 0, .none⟩ v0).setCell ⟨p, 1, .none⟩ v1).setCell ⟨p, 2, .none⟩ v2).setCell ⟨p, 3, .none⟩ v3).setCell ⟨p, 4, .none⟩ v4) := fun _ => by
  obtain ⟨h1, h2, h3, h4, h5, h6, h7, h8, h9, h10, h11, h12⟩ := h rfl
  refine ⟨h1, by simpa using h2, ?_, ?_, ?_, ?_, ?_, ?_, ?_, ?_, ?_, ?_⟩ <;> simp [go_sem, *]
theorem Keeps.set5 {w0 w : World} (h : Keeps w0 w) {q : Nat} (hp : w0.heap.size ≤ q) (u0 u1 u2 u3 u4 : Value) :
    Keeps w0 ((((((w).setCell ⟨q, 0, .none⟩ u0).setCell ⟨q, 1, .none⟩ u1).setCell ⟨q, 2, .none⟩ u2).setCell ⟨q, 3, .none⟩ u3).setCell ⟨q, 4, .none⟩ u4) :=
  (((((h).setNew (p := ⟨q, 0, .none⟩) hp u0).setNew (p := ⟨q, 1, .none⟩) hp u1).setNew (p := ⟨q, 2, .none⟩) hp u2).setNew (p := ⟨q, 3, .none⟩) hp u3).setNew (p := ⟨q, 4, .none⟩) hp u4
end Go.Proofs.Ytboomdbmeallfaa
