/- Contract of few; colors at the stops' offsets, before and behind all stops (plain laws). -/
import Derived.Test.YtboomdbmeallfaaGe
import Derived.Test.YtboomdbmeallfaaOs
namespace Go.Proofs.Ytboomdbmeallfaa
open Go.RowKit
set_option linter.unusedVariables false
set_option linter.unusedSimpArgs false
theorem coNeq (x y z t x' y' z' t' : Int) (w : World) : (binOp .neq 28 (.agg #[.int .u8 x, .int .u8 y, .int .u8 z, .int .u8 t]) (.agg #[.int .u8 x', .int .u8 y', .int .u8 z', .int .u8 t'])).run Try.prog w = .ok (.bool !(eq4 x y z t x' y' z' t')) w := by
  have hp := coHeld
  have hu := Try.underlying28
  rw [run_neq_struct]
  simp [go_sem, hp, hu]
  unfold eq4
  by_cases h : x = x' <;> by_cases k : y = y' <;> by_cases l : z = z' <;> by_cases m : t = t' <;> simp [h, k, l, m]
theorem few_yes (A : Option Addr) (n c : Nat) (w : World) (h : n ≤ 40) (hx : (n : Int) ≤ 9223372036854775807) :
    Calls Try.prog 15 #[.slice A n c] w fun e w' => e = .returned (.bool true) ∧ w = w' := by
  have t1 : decide ((n : Int) ≤ 40) = true := decide_eq_true (by omega)
  go_enter Try.func15, Try.ntmps15
  go_wp2
  go_ret
  exact ⟨by simp [t1], rfl⟩
theorem few_no (A : Option Addr) (n c : Nat) (w : World) (h : ¬ n ≤ 40) (hx : (n : Int) ≤ 9223372036854775807) :
    Calls Try.prog 15 #[.slice A n c] w fun e w' => e = .returned (.bool false) ∧ w = w' := by
  have t1 : decide ((n : Int) ≤ 40) = false := decide_eq_false (by omega)
  go_enter Try.func15, Try.ntmps15
  go_wp2
  go_ret
  exact ⟨by simp [t1], rfl⟩
theorem vFrom_mono : ∀ (L : List St) (a : Int), vFrom a L = true → ∀ i j, i ≤ j → j < L.length → (L.getD i st0).1 ≤ (L.getD j st0).1
  | [], _, _, i, j, _, hj => by simp at hj
  | s :: r, a, h, i, j, hij, hj => by
    unfold vFrom at h
    by_cases hb : s.1 < a ∨ 65536 < s.1
    · rw [if_pos hb] at h; cases h
    · rw [if_neg hb] at h
      cases j with
      | zero => obtain rfl : i = 0 := by omega
                exact Int.le_refl _
      | succ j =>
        have hj' : j < r.length := by simpa using hj
        cases i with
        | zero => simp only [List.getD_cons_zero, List.getD_cons_succ]; exact (vFrom_range r s.1 h j hj').1
        | succ i => simp only [List.getD_cons_succ]; exact vFrom_mono r s.1 h i j (by omega) hj'
theorem lead_is : ∀ (L : List St) (t : Int) (m : Nat), m ≤ L.length → (∀ k, k < m → (L.getD k st0).1 ≤ t) → (m < L.length → t < (L.getD m st0).1) → lead t L = m
  | [], t, m, h, _, _ => by unfold lead; simp at h; omega
  | s :: r, t, 0, _, _, h2 => by unfold lead; rw [if_pos (by simpa using h2 (by simp))]
  | s :: r, t, m + 1, h0, h1, h2 => by
    unfold lead
    have := h1 0 (by omega)
    simp only [List.getD_cons_zero] at this
    rw [if_neg (by omega), lead_is r t m (by simpa using h0) (fun k hk => by have := h1 (k + 1) (by omega); simpa using this) (fun hm => by have := h2 (by simpa using hm); simpa using this)]
theorem cAt_first (L : List St) (t : Int) (hv : vB L = true) (h : t < (L.getD 0 st0).1) : cAt L t = (L.getD 0 st0).2 := by
  have hl := lead_is L t 0 (Nat.zero_le _) (fun k hk => by omega) (fun _ => h)
  unfold cAt; rw [if_neg (by rw [hv]; decide), if_pos hl]
theorem cAt_last (L : List St) (t : Int) (hv : vB L = true) (h : (L.getD (L.length - 1) st0).1 ≤ t) : cAt L t = (L.getD (L.length - 1) st0).2 := by
  obtain ⟨n1, n2, hF, _⟩ := vB_range hv
  have hl := lead_is L t L.length (Nat.le_refl _) (fun k hk => Int.le_trans (vFrom_mono L 0 hF k (L.length - 1) (by omega) (by omega)) h) (fun hm => by omega)
  unfold cAt; rw [if_neg (by rw [hv]; decide), if_neg (by omega), if_pos hl]
theorem cAt_stop (L : List St) (i m : Nat) (hv : vB L = true) (hm : m < L.length) (him : i ≤ m) (he : (L.getD m st0).1 = (L.getD i st0).1) (hne : ∀ q, m < q → q < L.length → (L.getD q st0).1 ≠ (L.getD i st0).1) : cAt L (L.getD i st0).1 = (L.getD m st0).2 := by
  obtain ⟨n1, n2, hF, hR⟩ := vB_range hv
  have hM := vFrom_mono L 0 hF
  have hl := lead_is L (L.getD i st0).1 (m + 1) (by omega) (fun k hk => by have := hM k m (by omega) hm; omega) (fun hq => by
    have := hM m (m + 1) (by omega) hq
    have := hne (m + 1) (by omega) hq
    omega)
  unfold cAt; rw [if_neg (by rw [hv]; decide), if_neg (by omega), hl]
  by_cases hn : m + 1 = L.length
  · rw [if_pos hn, ← hn, Nat.add_sub_cancel]
  · rw [if_neg hn, Nat.add_sub_cancel]
    have hq := hM m (m + 1) (by omega) (by omega)
    have hq2 := hne (m + 1) (by omega) (by omega)
    unfold lerpS
    rw [he, Int.sub_self]
    rw [lc8_0 _ _ _ (by omega), lc8_0 _ _ _ (by omega), lc8_0 _ _ _ (by omega), lc8_0 _ _ _ (by omega)]
end Go.Proofs.Ytboomdbmeallfaa
