/- Rows of stops that a call makes itself; contract of reference 31's Same. -/
import Derived.Test.YtboomdbmeallfaaGk
namespace Go.Proofs.Ytboomdbmeallfaa
open Go.RowKit
set_option linter.unusedVariables false
set_option linter.unusedSimpArgs false
def stV (s : St) : List Value := [.int .i64 s.1, .int .u8 s.2.1, .int .u8 s.2.2.1, .int .u8 s.2.2.2.1, .int .u8 s.2.2.2.2]
def rowS : List St → List Value
  | [] => []
  | s :: r => stV s ++ rowS r
theorem rowS_append : ∀ (a b : List St), rowS (a ++ b) = rowS a ++ rowS b
  | [], b => rfl
  | s :: r, b => by rw [List.cons_append, rowS, rowS, rowS_append r b, List.append_assoc]
theorem rowS_one (s : St) : rowS [s] = stV s := by simp [rowS]
theorem rowS_length : ∀ (a : List St), (rowS a).length = a.length * 5
  | [] => rfl
  | s :: r => by rw [rowS, List.length_append, rowS_length r, List.length_cons]; simp [stV]; omega
theorem rowS_get : ∀ (L : List St) (k i : Nat), k < L.length → i < 5 → (rowS L)[k * 5 + i]? = (stV (L.getD k st0))[i]?
  | [], k, i, hk, _ => by simp at hk
  | s :: r, 0, i, _, hi => by
    rw [rowS, Nat.zero_mul, Nat.zero_add, List.getElem?_append_left (by simp [stV]; omega)]; rfl
  | s :: r, k + 1, i, hk, hi => by
    rw [rowS, List.getElem?_append_right (by simp [stV]; omega), show (k + 1) * 5 + i - (stV s).length = k * 5 + i by simp [stV]; omega, rowS_get r k i (by simpa using hk) hi]
    rfl
theorem oneCell_stV (s : St) : ∀ u ∈ stV s, u.oneCell' = true := by
  intro u hu
  unfold stV at hu
  simp at hu
  rcases hu with rfl | rfl | rfl | rfl | rfl <;> rfl
theorem Sts.of_own {w : World} {base n : Nat} {e : TypeId} {v : Value} {L : List St} (h : w.ownsRow base e 5 v n (rowS L)) (hl : L.length = n) (ho : ∀ s ∈ L, okSt s) : ∃ A c, v = .slice A n c ∧ Sts w A n c L := by
  obtain ⟨A, c, rfl, h1, h2, h3, h4⟩ := SlA.of_own h
  refine ⟨A, c, rfl, hl, h1, h2, ho, fun hp => ?_⟩
  obtain ⟨b, o, rfl, hb, hx⟩ := h4 hp
  refine ⟨b, o, rfl, hb, fun k hk => ?_⟩
  have g : ∀ i, i < 5 → w.cell? ⟨b, o + (k * 5 + i), none⟩ = (stV (L.getD k st0))[i]? := fun i hi => (hx (k * 5 + i) (by omega)).trans (rowS_get L k i (by omega) hi)
  exact ⟨g 0 (by omega), g 1 (by omega), g 2 (by omega), g 3 (by omega), g 4 (by omega)⟩
theorem five_new (w : World) (s : St) (t : TypeId) : ∀ j x, (stV s)[j]? = some x → (w.alloc (.cells (stV s).toArray t)).cell? ((⟨w.heap.size, 0, none⟩ : Addr).add j) = some x := by
  intro j x hx
  unfold stV at hx ⊢
  match j, hx with
  | 0, hx => simp at hx; subst hx; simp [Addr.add]
  | 1, hx => simp at hx; subst hx; simp [Addr.add]
  | 2, hx => simp at hx; subst hx; simp [Addr.add]
  | 3, hx => simp at hx; subst hx; simp [Addr.add]
  | 4, hx => simp at hx; subst hx; simp [Addr.add]
theorem cs_info : (Try.prog.info? 31).map (fun i => (i.zero, i.size, i.bytes)) = some (some (.agg #[.int .i64 0, .int .u8 0, .int .u8 0, .int .u8 0, .int .u8 0]), 5, 16) := by kernel_rfl
theorem csGuard (op : BinOp) (x y : Operand) (xs ys : Array Value) (w : World) : (eqGuard op 31 x y (.agg xs) (.agg ys)).run Try.prog w = .ok () w := run_eqGuard_agg w op _ x y xs ys (by kernel_rfl)
def eq5 (s t : St) : Bool := (s.1 == t.1) && eq4 s.2.1 s.2.2.1 s.2.2.2.1 s.2.2.2.2 t.2.1 t.2.2.1 t.2.2.2.1 t.2.2.2.2
theorem eq5_refl (s : St) : eq5 s s = true := by unfold eq5; rw [eq4_refl]; simp
theorem eq5_iff (s t : St) : eq5 s t = true ↔ s = t := by
  obtain ⟨a, b, c, d, e⟩ := s
  obtain ⟨a', b', c', d', e'⟩ := t
  unfold eq5 eq4
  simp
theorem csHeld : Try.prog.stoodInHeld 31 = false := by kernel_rfl
theorem csEql (s t : St) (w : World) : (binOp .eql 31 (.agg #[.int .i64 s.1, .int .u8 s.2.1, .int .u8 s.2.2.1, .int .u8 s.2.2.2.1, .int .u8 s.2.2.2.2]) (.agg #[.int .i64 t.1, .int .u8 t.2.1, .int .u8 t.2.2.1, .int .u8 t.2.2.2.1, .int .u8 t.2.2.2.2])).run Try.prog w = .ok (.bool (eq5 s t)) w := by
  have hp := csHeld
  have hp2 := coHeld
  have hu := Try.underlying31
  have hu2 := Try.underlying28
  rw [run_eql_struct]
  simp [go_sem, hp, hu, hp2, hu2]
  unfold eq5 eq4
  by_cases h0 : s.1 = t.1 <;> by_cases h : s.2.1 = t.2.1 <;> by_cases k : s.2.2.1 = t.2.2.1 <;> by_cases l : s.2.2.2.1 = t.2.2.2.1 <;> by_cases m : s.2.2.2.2 = t.2.2.2.2 <;> simp [h0, h, k, l, m]
theorem csNeq (s t : St) (w : World) : (binOp .neq 31 (.agg #[.int .i64 s.1, .int .u8 s.2.1, .int .u8 s.2.2.1, .int .u8 s.2.2.2.1, .int .u8 s.2.2.2.2]) (.agg #[.int .i64 t.1, .int .u8 t.2.1, .int .u8 t.2.2.1, .int .u8 t.2.2.2.1, .int .u8 t.2.2.2.2])).run Try.prog w = .ok (.bool !(eq5 s t)) w := by
  have hp := csHeld
  have hp2 := coHeld
  have hu := Try.underlying31
  have hu2 := Try.underlying28
  rw [run_neq_struct]
  simp [go_sem, hp, hu, hp2, hu2]
  unfold eq5 eq4
  by_cases h0 : s.1 = t.1 <;> by_cases h : s.2.1 = t.2.1 <;> by_cases k : s.2.2.1 = t.2.2.1 <;> by_cases l : s.2.2.2.1 = t.2.2.2.1 <;> by_cases m : s.2.2.2.2 = t.2.2.2.2 <;> simp [h0, h, k, l, m]
set_option maxRecDepth 100000 in
set_option maxHeartbeats 2000000 in
theorem same_any (A B : Option Addr) (n c c2 : Nat) (L : List St) (w : World) (h : Sts w A n c L) (h2 : Sts w B n c2 L) :
    Calls Try.prog 24 #[.slice A n c, .slice B n c2] w fun e w' => e = .returned (.bool true) ∧ Keeps w w' := by
  have g3 := csGuard
  have g5 := csNeq
  have hmx := h.max
  have HA := Lib.hid h.2.2.2.2
  have HB := Lib.hid h2.2.2.2.2
  clear h h2
  go_enter Try.func24, Try.ntmps24
  go_wp2_with fail
  go_loopw [5] (fun i wr => ∃ j : Nat, j ≤ n ∧ i = .int .i64 j ∧ Keeps w wr) (fun i _ => n - (intOf i).toNat)
  case atStart => exact ⟨0, by omega, rfl, Keeps.refl _⟩
  case round =>
    obtain ⟨j, hj, rfl, hkw⟩ := hrel
    by_cases hlt : j < n
    · obtain ⟨b1, o1, rfl, hb1, hc1⟩ := HA.out (by omega)
      obtain ⟨b2, o2, rfl, hb2, hc2⟩ := HB.out (by omega)
      obtain ⟨c0, c1, c2, c3, c4⟩ := (hc1 j hlt).keep hb1 hkw
      obtain ⟨d0, d1, d2, d3, d4⟩ := (hc2 j hlt).keep hb2 hkw
      clear hc1 hc2 HA HB
      have q1 := eq5_refl (L.getD j st0)
      have hlt2 : (j : Int) < n := by omega
      generalize L.getD j st0 = y at *
      go_wp2_with fail
      go_quiet (fail)
      go_wp2_with fail
      go_roundw
      case rel => exact ⟨j + 1, by omega, by go_num, hkw.drewN _⟩
      case measure => simp [intOf]; omega
    · obtain rfl : j = n := by omega
      go_wp2_with fail
      go_ret
      exact ⟨rfl, hkw⟩
end Go.Proofs.Ytboomdbmeallfaa
