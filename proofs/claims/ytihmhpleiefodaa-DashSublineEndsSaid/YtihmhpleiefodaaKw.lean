/- Blocks of cells and rows of the call's own, carried through the rounds of a loop over a function. -/
import Derived.Test.YtihmhpleiefodaaKv
import Derived.Test.YtihmhpleiefodaaRo
import Derived.Maps.AppendAt
namespace Go.Proofs.Ytihmhpleiefodaa
open Go.RowKit Go.Shelf
set_option linter.unusedVariables false
set_option linter.unusedSimpArgs false
/-- Block B holds just these cells. -/
def BoxN (W : World) (B : Nat) (t : TypeId) (cs : Array Value) : Prop := W.heap[B]? = some (.cells cs t (0, 0))
theorem BoxN.lt {W : World} {B : Nat} {t : TypeId} {cs : Array Value} (h : BoxN W B t cs) : B < W.heap.size := (Array.getElem?_eq_some_iff.1 h).1
theorem BoxN.cell {W : World} {B : Nat} {t : TypeId} {cs : Array Value} (h : BoxN W B t cs) (i : Nat) : W.cell? ⟨B, i, none⟩ = cs[i]? := by simp [World.cell?, show W.heap[B]? = _ from h]
theorem BoxN.frozen {W : World} {B : Nat} {t : TypeId} {cs : Array Value} (h : BoxN W B t cs) (i : Nat) : W.frozen? ⟨B, i, none⟩ = false := by simp [World.frozen?, show W.heap[B]? = _ from h]
theorem BoxN.new (W : World) (t : TypeId) (cs : Array Value) : BoxN (W.alloc (.cells cs t)) W.heap.size t cs := World.alloc_heap_new W _
theorem BoxN.kept {W W' : World} {row : Option Nat} {B : Nat} {t : TypeId} {cs : Array Value} (h : BoxN W B t cs) (hg : W.grownBy W' row) (hne : some B ≠ row) : BoxN W' B t cs := (hg.block B h.lt hne).trans h
theorem BoxN.alloc {W : World} {B : Nat} {t : TypeId} {cs : Array Value} (h : BoxN W B t cs) (o : Obj) : BoxN (W.alloc o) B t cs := h.kept (World.grownBy_alloc W o none) (by simp)
theorem BoxN.keep {W W' : World} {B : Nat} {t : TypeId} {cs : Array Value} (h : BoxN W B t cs) (hk : Keeps W W') : BoxN W' B t cs := (hk.block B h.lt).trans h
theorem BoxN.set {W : World} {B : Nat} {t : TypeId} {cs : Array Value} (h : BoxN W B t cs) (i : Nat) (v' : Value) : BoxN (W.setCell ⟨B, i, none⟩ v') B t (cs.setIfInBounds i v') := by
  obtain ⟨hlt, hk⟩ := Array.getElem?_eq_some_iff.1 h
  show (W.heap.modify B _)[B]? = _
  rw [Array.getElem?_eq_getElem (by rw [Array.size_modify]; exact hlt), Array.getElem_modify_self, hk]
  rfl
theorem grown_set (W : World) (b i : Nat) (v : Value) : W.grownBy (W.setCell ⟨b, i, none⟩ v) (some b) :=
  ⟨rfl, rfl, rfl, (KeepsWalks.setCell W _ v).size, fun k _ hk => Below.heap_setCell _ _ _ k (fun e => hk (by rw [e]))⟩
theorem BoxN.other {W : World} {B B' : Nat} {t : TypeId} {cs : Array Value} (h : BoxN W B t cs) (hne : B ≠ B') (i : Nat) (u : Value) : BoxN (W.setCell ⟨B', i, none⟩ u) B t cs := h.kept (grown_set W B' i u) (fun e => hne (by cases e; rfl))
theorem BoxN.not_row {W : World} {B : Nat} {t e : TypeId} {cs : Array Value} (h : BoxN W B t cs) (hte : t ≠ e) {base size k : Nat} {v : Value} {xs : List Value} (hr : W.ownsRow base e size v k xs) : some B ≠ v.ownBlock := by
  rcases hr.2 with ⟨rfl, _⟩ | ⟨g, cap, cur, rfl, _, hgb, _⟩
  · simp [Value.ownBlock]
  · intro e'
    obtain rfl : B = g := by simpa [Value.ownBlock] using e'
    have := (show W.heap[B]? = _ from h).symm.trans hgb
    simp at this
    exact hte this.2
theorem BoxN.own {X Y : World} {row : Option Nat} {B : Nat} {t : TypeId} {cs : Array Value} (h : BoxN X B t cs) (hg : X.grownBy Y row) (hr : ∀ r, row = some r → ∃ o : Obj, X.heap[r]? = some o ∧ o.isCells = false) : BoxN Y B t cs :=
  h.kept hg (fun e => by obtain ⟨o, ho, hc⟩ := hr B e.symm; rw [show X.heap[B]? = _ from h] at ho; cases ho; cases hc)
theorem row_own {X Y : World} {row : Option Nat} {base size k : Nat} {e : TypeId} {v : Value} {xs : List Value} (h : X.ownsRow base e size v k xs) (hg : X.grownBy Y row) (hr : ∀ r, row = some r → ∃ o : Obj, X.heap[r]? = some o ∧ o.isCells = false) : Y.ownsRow base e size v k xs := by
  refine h.kept hg ?_
  rcases h.2 with ⟨rfl, _⟩ | ⟨g, cap, cur, rfl, _, hgb, _⟩
  · exact .inl rfl
  · refine .inr fun e' => ?_
    obtain ⟨o, ho, hc⟩ := hr g (by simpa [Value.ownBlock] using e'.symm)
    rw [hgb] at ho; cases ho; cases hc
theorem row_keep {X Y : World} {base size k : Nat} {e : TypeId} {v : Value} {xs : List Value} (h : X.ownsRow base e size v k xs) (hk : Keeps X Y) : Y.ownsRow base e size v k xs := by
  refine h.kept (row := none) ⟨hk.os, hk.tape, hk.output, hk.size, fun i hi _ => hk.block i hi⟩ ?_
  cases hv : v.ownBlock with
  | none => exact .inl rfl
  | some g => exact .inr (by simp)
theorem grown_keeps {X Y : World} (hk : Keeps X Y) : X.grownBy Y none := ⟨hk.os, hk.tape, hk.output, hk.size, fun i hi _ => hk.block i hi⟩
theorem ko_keeps {X Y : World} (h : Keeps X Y) : KeepsOthers X Y := ⟨h.size, fun k o hk _ => (h.block k (Array.getElem?_eq_some_iff.1 hk).1).trans hk⟩
theorem ko_append {X Y : World} {base size k : Nat} {e : TypeId} {v : Value} {xs : List Value} (h : X.ownsRow base e size v k xs) (hg : X.grownBy Y v.ownBlock) : KeepsOthers X Y :=
  KeepsOthers.of_grownBy hg fun j o ej hj => by
    rcases h.2 with ⟨rfl, _⟩ | ⟨g, cap, cur, rfl, _, hgb, _⟩
    · simp [Value.ownBlock] at ej
    · obtain rfl : g = j := by simpa [Value.ownBlock] using ej
      rw [hgb] at hj; cases hj; rfl
theorem row_base {X : World} {base size k : Nat} {e : TypeId} {v : Value} {xs : List Value} (h : X.ownsRow base e size v k xs) : ∀ j, v.ownBlock = some j → base ≤ j := fun j hj => (h.lt j hj).1
/-- All blocks below n but those of E are kept. -/
def KpX (n : Nat) (E : List Nat) (X Y : World) : Prop := X.heap.size ≤ Y.heap.size ∧ ∀ k, k < n → k ∉ E → Y.heap[k]? = X.heap[k]?
theorem KpX.refl (n : Nat) (E : List Nat) (X : World) : KpX n E X X := ⟨Nat.le_refl _, fun _ _ _ => rfl⟩
theorem KpX.trans {n : Nat} {E : List Nat} {X Y Z : World} (h : KpX n E X Y) (k : KpX n E Y Z) : KpX n E X Z := ⟨Nat.le_trans h.1 k.1, fun i h1 h2 => (k.2 i h1 h2).trans (h.2 i h1 h2)⟩
theorem KpX.drewN {n : Nat} {E : List Nat} (X : World) (q : Nat) : KpX n E X (X.drewN q) := ⟨Nat.le_refl _, fun _ _ _ => rfl⟩
theorem KpX.of {n : Nat} {E : List Nat} {X Y : World} (h : Keeps X Y) (hn : n ≤ X.heap.size) : KpX n E X Y := ⟨h.size, fun i h1 h2 => h.block i (by omega)⟩
theorem KpX.put {n : Nat} {E : List Nat} (W : World) (l : Nat) (o : Obj) (hl : n ≤ l) : KpX n E W (W.putObj l o) := ⟨by simp, fun i h1 h2 => World.putObj_heap_other (by omega)⟩
theorem KpX.grown {n : Nat} {E : List Nat} {X Y : World} {row : Option Nat} (g : X.grownBy Y row) (hX : n ≤ X.heap.size) (hr : ∀ k, row = some k → k ∈ E ∨ n ≤ k) : KpX n E X Y :=
  ⟨g.size, fun i h1 h2 => g.block i (by omega) (fun e => by rcases hr i e.symm with h | h; exact h2 h; omega)⟩
theorem KpX.set {n : Nat} {E : List Nat} (X : World) (b i : Nat) (u : Value) (hX : n ≤ X.heap.size) (hb : b ∈ E ∨ n ≤ b) : KpX n E X (X.setCell ⟨b, i, none⟩ u) :=
  KpX.grown (grown_set X b i u) hX (fun k e => by cases e; exact hb)
theorem KpX.cell {n : Nat} {E : List Nat} {X Y : World} (h : KpX n E X Y) {p : Addr} (hp : p.block < n) (hE : p.block ∉ E) : Y.cell? p = X.cell? p := by
  unfold World.cell?; rw [h.2 p.block hp hE]
end Go.Proofs.Ytihmhpleiefodaa
