/- Drawn regions that only read and call what keeps old memory: one walk in the order of the text (the class of all worlds that keep w0, as a type). -/
import Derived.Test.YtihmhpleiefodaaWd
import Derived.Deep.QuietTactic
import Derived.BigQuiet
namespace Go.Proofs.Ytihmhpleiefodaa
set_option linter.unusedVariables false
theorem keepk {P : Program} {f : FuncId} {args : Array Value} {w0 w : World} {v : Value} (c : Calls P f args w fun e w' => e = .returned v ∧ Keeps w w') (h : Keeps w0 w) :
    Calls P f args w fun e w' => e = .returned v ∧ Keeps w0 w' := c.mono fun _ _ ⟨he, hb⟩ => ⟨he, h.trans hb⟩
/-- The worlds that keep w0. -/
def KW (w0 : World) : Type := { w : World // Keeps w0 w }
instance (w0 : World) : Nonempty (KW w0) := ⟨⟨w0, Keeps.refl _⟩⟩
def KW.w {w0 : World} (k : KW w0) : World := k.1
theorem KW.keeps {w0 : World} (k : KW w0) : Keeps w0 k.w := k.2
theorem keepq {P : Program} {f : FuncId} {args : Array Value} {w0 : World} {k : KW w0} {v : Value} (c : Calls P f args k.w fun e w' => e = .returned v ∧ Keeps k.w w') :
    Calls P f args k.w fun e w' => e = .returned v ∧ ∃ k' : KW w0, w' = k'.w := c.mono fun _ w' ⟨he, hb⟩ => ⟨he, ⟨w', k.2.trans hb⟩, rfl⟩
theorem keepq0 {P : Program} {f : FuncId} {args : Array Value} {w0 : World} {k : KW w0} {v : Value} (c : Calls P f args k.w fun e w' => e = .returned v ∧ k.w = w') :
    Calls P f args k.w fun e w' => e = .returned v ∧ ∃ k' : KW w0, w' = k'.w := c.mono fun _ w' ⟨he, hb⟩ => ⟨he, k, hb.symm⟩
theorem wp_region_kept {P : Program} {id : Nat} {Q : Exit → Act → World → Prop} {a : Act} {w : World} {l : List Oper} (w0 : World) (hm : P.follows .mixedOrders = true) (hB : Region.lexB .any l.toArray = true)
    (hk : Keeps w0 w) (h : wpQuiet P l.toArray (fun w' => ∃ k : KW w0, w' = k.w) (fun a' => ∀ w', (∃ k : KW w0, w' = k.w) → Q .normal a' w') l a) : (Code.region id l.toArray true).wp P Q a w :=
  wp_region_quiet (C := fun w' => ∃ k : KW w0, w' = k.w) hm hB ⟨⟨_, hk.drew⟩, rfl⟩ (by simpa using h)
end Go.Proofs.Ytihmhpleiefodaa
