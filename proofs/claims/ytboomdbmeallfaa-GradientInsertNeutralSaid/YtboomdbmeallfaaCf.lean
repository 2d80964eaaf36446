/- Contracts of package color: Clamp, Premultiply, Scale, Unpremultiply, Valid. -/
import Derived.Test.YtboomdbmeallfaaCc
import Derived.Test.YtboomdbmeallfaaCe
namespace Go.Proofs.Ytboomdbmeallfaa
open Go.RowKit
set_option linter.unusedVariables false
set_option linter.unusedSimpArgs false
def u8b (n : Int) : Prop := 0 ≤ n ∧ n ≤ 255
theorem mem4 {P : Int → Prop} {a b c d n : Int} (ha : P a) (hb : P b) (hc : P c) (hd : P d) (h : n = a ∨ n = b ∨ n = c ∨ n = d) : P n := by
  rcases h with rfl | rfl | rfl | rfl <;> assumption
def eq4 (x y z t x' y' z' t' : Int) : Bool := (x == x') && ((y == y') && ((z == z') && (t == t')))
theorem eq4_refl (x y z t : Int) : eq4 x y z t x y z t = true := by unfold eq4; simp
theorem pxHeld : Try.prog.stoodInHeld 58 = false := by kernel_rfl
theorem pxGuard (op : BinOp) (x y : Operand) (xs ys : Array Value) (w : World) : (eqGuard op 58 x y (.agg xs) (.agg ys)).run Try.prog w = .ok () w := run_eqGuard_agg w op _ x y xs ys (by kernel_rfl)
theorem pxEql (x y z t x' y' z' t' : Int) (w : World) : (binOp .eql 58 (.agg #[.int .u8 x, .int .u8 y, .int .u8 z, .int .u8 t]) (.agg #[.int .u8 x', .int .u8 y', .int .u8 z', .int .u8 t'])).run Try.prog w = .ok (.bool (eq4 x y z t x' y' z' t')) w := by
  have hp := pxHeld
  have hu := Try.underlying58
  rw [run_eql_struct]
  simp [go_sem, hp, hu]
  unfold eq4
  by_cases h : x = x' <;> by_cases k : y = y' <;> by_cases l : z = z' <;> by_cases m : t = t' <;> simp [h, k, l, m]
theorem coHeld : Try.prog.stoodInHeld 28 = false := by kernel_rfl
theorem coGuard (op : BinOp) (x y : Operand) (xs ys : Array Value) (w : World) : (eqGuard op 28 x y (.agg xs) (.agg ys)).run Try.prog w = .ok () w := run_eqGuard_agg w op _ x y xs ys (by kernel_rfl)
theorem coEql (x y z t x' y' z' t' : Int) (w : World) : (binOp .eql 28 (.agg #[.int .u8 x, .int .u8 y, .int .u8 z, .int .u8 t]) (.agg #[.int .u8 x', .int .u8 y', .int .u8 z', .int .u8 t'])).run Try.prog w = .ok (.bool (eq4 x y z t x' y' z' t')) w := by
  have hp := coHeld
  have hu := Try.underlying28
  rw [run_eql_struct]
  simp [go_sem, hp, hu]
  unfold eq4
  by_cases h : x = x' <;> by_cases k : y = y' <;> by_cases l : z = z' <;> by_cases m : t = t' <;> simp [h, k, l, m]
def validP (p0 p1 p2 p3 : Int) : Bool := eq4 (min p0 p3) (min p1 p3) (min p2 p3) p3 p0 p1 p2 p3
end Go.Proofs.Ytboomdbmeallfaa
