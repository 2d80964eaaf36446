/- Boxes of four cells that a drawn region makes and fills. -/
import Derived.Test.YtjfimlcljbdglaaWd
import Derived.Test.YtjfimlcljbdglaaRi
namespace Go.Proofs.Ytjfimlcljbdglaa
def Box4 (b : Bool) (lo p : Nat) (u v x y : Value) (w : World) : Prop :=
  b = true → lo ≤ p ∧ p < w.heap.size ∧ w.cell? ⟨p, 0, none⟩ = some u ∧ w.cell? ⟨p, 1, none⟩ = some v ∧ w.cell? ⟨p, 2, none⟩ = some x ∧ w.cell? ⟨p, 3, none⟩ = some y ∧
    w.frozen? ⟨p, 0, none⟩ = false ∧ w.frozen? ⟨p, 1, none⟩ = false ∧ w.frozen? ⟨p, 2, none⟩ = false ∧ w.frozen? ⟨p, 3, none⟩ = false
theorem Box4.none {lo p : Nat} {u v x y : Value} {w : World} : Box4 false lo p u v x y w := fun h => by cases h
theorem Box4.keeps {b : Bool} {lo p : Nat} {u v x y : Value} {w w1 : World} (h : Box4 b lo p u v x y w) (hk : Keeps w w1) : Box4 b lo p u v x y w1 := fun hb =>
  have ⟨h1, h2, h3, h4, h5, h6, h7, h8, h9, h10⟩ := h hb
  ⟨h1, Nat.lt_of_lt_of_le h2 hk.size, (hk.cell h2).trans h3, (hk.cell h2).trans h4, (hk.cell h2).trans h5, (hk.cell h2).trans h6, (hk.frozen h2).trans h7, (hk.frozen h2).trans h8, (hk.frozen h2).trans h9, (hk.frozen h2).trans h10⟩
theorem Box4.new {lo : Nat} {u v x y : Value} {t : TypeId} {w : World} (h : lo ≤ w.heap.size) : Box4 true lo w.heap.size u v x y (w.alloc (.cells #[u, v, x, y] t)) := fun _ =>
  ⟨h, by simp, by simp [go_sem], by simp [go_sem], by simp [go_sem], by simp [go_sem], by simp [go_sem], by simp [go_sem], by simp [go_sem], by simp [go_sem]⟩
theorem Box4.ne {b : Bool} {lo p : Nat} {u v x y : Value} {w : World} (h : Box4 b lo p u v x y w) (hb : b = true) : p ≠ w.heap.size := Nat.ne_of_lt (h hb).2.1
theorem Box4.far {b : Bool} {lo p q : Nat} {u v x y u' v' x' y' : Value} {w : World} (h : Box4 b lo p u v x y w) (hne : b = true → p ≠ q) :
    Box4 b lo p u v x y ((((w.setCell ⟨q, 0, .none⟩ u').setCell ⟨q, 1, .none⟩ v').setCell ⟨q, 2, .none⟩ x').setCell ⟨q, 3, .none⟩ y') := fun hb => by
  obtain ⟨h1, h2, h3, h4, h5, h6, h7, h8, h9, h10⟩ := h hb
  have n : ∀ k : Nat, (⟨q, k, .none⟩ : Addr).block ≠ p := fun _ e => hne hb e.symm
  refine ⟨h1, by simpa using h2, ?_, ?_, ?_, ?_, by simpa using h7, by simpa using h8, by simpa using h9, by simpa using h10⟩ <;>
    (rw [World.cell?_setCell_far _ _ _ _ (n _), World.cell?_setCell_far _ _ _ _ (n _), World.cell?_setCell_far _ _ _ _ (n _), World.cell?_setCell_far _ _ _ _ (n _)]; assumption)
theorem Box4.at {lo p : Nat} {u v x y u' v' x' y' : Value} {w : World} (h : Box4 true lo p u v x y w) :
    Box4 true lo p u' v' x' y' ((((w.setCell ⟨p, 0, .none⟩ u').setCell ⟨p, 1, .none⟩ v').setCell ⟨p, 2, .none⟩ x').setCell ⟨p, 3, .none⟩ y') := fun _ => by
  obtain ⟨h1, h2, h3, h4, h5, h6, h7, h8, h9, h10⟩ := h rfl
  refine ⟨h1, by simpa using h2, ?_, ?_, ?_, ?_, ?_, ?_, ?_, ?_⟩ <;> simp [go_sem, *]
theorem Keeps.set4 {w0 w : World} (h : Keeps w0 w) {q : Nat} (hp : w0.heap.size ≤ q) (u v x y : Value) :
    Keeps w0 ((((w.setCell ⟨q, 0, .none⟩ u).setCell ⟨q, 1, .none⟩ v).setCell ⟨q, 2, .none⟩ x).setCell ⟨q, 3, .none⟩ y) :=
  (((h.setNew (p := ⟨q, 0, .none⟩) hp u).setNew (p := ⟨q, 1, .none⟩) hp v).setNew (p := ⟨q, 2, .none⟩) hp x).setNew (p := ⟨q, 3, .none⟩) hp y
theorem Box4.put0 {lo p : Nat} {u v x y z : Value} {w : World} (h : Box4 true lo p u v x y w) : Box4 true lo p z v x y (w.setCell ⟨p, 0, .none⟩ z) := fun _ => by
  obtain ⟨h1, h2, h3, h4, h5, h6, h7, h8, h9, h10⟩ := h rfl
  refine ⟨h1, by simpa using h2, ?_, ?_, ?_, ?_, ?_, ?_, ?_, ?_⟩ <;> simp [go_sem, *]
theorem Box4.put1 {lo p : Nat} {u v x y z : Value} {w : World} (h : Box4 true lo p u v x y w) : Box4 true lo p u z x y (w.setCell ⟨p, 1, .none⟩ z) := fun _ => by
  obtain ⟨h1, h2, h3, h4, h5, h6, h7, h8, h9, h10⟩ := h rfl
  refine ⟨h1, by simpa using h2, ?_, ?_, ?_, ?_, ?_, ?_, ?_, ?_⟩ <;> simp [go_sem, *]
theorem Box4.put2 {lo p : Nat} {u v x y z : Value} {w : World} (h : Box4 true lo p u v x y w) : Box4 true lo p u v z y (w.setCell ⟨p, 2, .none⟩ z) := fun _ => by
  obtain ⟨h1, h2, h3, h4, h5, h6, h7, h8, h9, h10⟩ := h rfl
  refine ⟨h1, by simpa using h2, ?_, ?_, ?_, ?_, ?_, ?_, ?_, ?_⟩ <;> simp [go_sem, *]
theorem Box4.put3 {lo p : Nat} {u v x y z : Value} {w : World} (h : Box4 true lo p u v x y w) : Box4 true lo p u v x z (w.setCell ⟨p, 3, .none⟩ z) := fun _ => by
  obtain ⟨h1, h2, h3, h4, h5, h6, h7, h8, h9, h10⟩ := h rfl
  refine ⟨h1, by simpa using h2, ?_, ?_, ?_, ?_, ?_, ?_, ?_, ?_⟩ <;> simp [go_sem, *]
end Go.Proofs.Ytjfimlcljbdglaa
