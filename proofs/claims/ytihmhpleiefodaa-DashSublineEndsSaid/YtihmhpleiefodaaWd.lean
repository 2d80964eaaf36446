/- Worlds: what a call keeps of old memory, carried along a walk. -/
import Derived.WalkKit
import Derived.WalkSpells
import Derived.WalkLawsBesides
import Derived.Lib.Hide
import Derived.Deep.QuietTactic
import Derived.BigQuiet
namespace Go.Proofs.Ytihmhpleiefodaa
open Go.RowKit

theorem below_drewN {B : Nat} {a w : World} (h : Below B a w) (n : Nat) : Below B a (w.drewN n) := ⟨h.os, h.tape, h.output, h.size, h.block⟩

/-- The world gets a name of its own. -/
theorem name_world {P : Program} {c : Code} {Q : Exit → Act → World → Prop} {a : Act} {w : World} (h : ∀ W, W = w → Code.wp P c Q a W) : Code.wp P c Q a w := h w rfl
/-- Nothing that lay in w0 has turned. -/
def Keeps (w0 w : World) : Prop := Below w0.heap.size w0 w
theorem Keeps.refl (w : World) : Keeps w w := Below.refl _ _
theorem Keeps.size {w0 w : World} (h : Keeps w0 w) : w0.heap.size ≤ w.heap.size := Below.size h
theorem Keeps.alloc {w0 w : World} (h : Keeps w0 w) (o : Obj) : Keeps w0 (w.alloc o) := Below.alloc h h.size o
theorem Keeps.drewN {w0 w : World} (h : Keeps w0 w) (n : Nat) : Keeps w0 (w.drewN n) := below_drewN h n
theorem Keeps.drew {w0 w : World} (h : Keeps w0 w) : Keeps w0 w.drew := Below.drew h
theorem Keeps.setNew {w0 w : World} (h : Keeps w0 w) {p : Addr} (hp : w0.heap.size ≤ p.block) (u : Value) : Keeps w0 (w.setCell p u) := Below.setCell h hp u
theorem Keeps.call {w0 w w1 : World} (h : Keeps w0 w) (hb : Below w.heap.size w w1) : Keeps w0 w1 := Below.trans h (hb.mono h.size)
theorem Keeps.trans {w0 w w1 : World} (h : Keeps w0 w) (hb : Keeps w w1) : Keeps w0 w1 := h.call hb
theorem Keeps.cell {w0 w : World} (h : Keeps w0 w) {p : Addr} (hp : p.block < w0.heap.size) : w.cell? p = w0.cell? p := Below.cell h hp
theorem Keeps.frozen {w0 w : World} (h : Keeps w0 w) {p : Addr} (hp : p.block < w0.heap.size) : w.frozen? p = w0.frozen? p := Below.frozen h hp
theorem keep {P : Program} {f : FuncId} {args : Array Value} {w0 w : World} {v : Value} (c : Calls P f args w fun e w' => e = .returned v ∧ Below w.heap.size w w') (h : Keeps w0 w) :
    Calls P f args w fun e w' => e = .returned v ∧ Keeps w0 w' := c.mono fun _ _ ⟨he, hb⟩ => ⟨he, h.call hb⟩
end Go.Proofs.Ytihmhpleiefodaa
