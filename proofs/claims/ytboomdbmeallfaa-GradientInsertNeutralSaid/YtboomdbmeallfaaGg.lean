/- Contracts of reference 31: SpreadOffset, Valid. -/
import Derived.Test.YtboomdbmeallfaaGf
namespace Go.Proofs.Ytboomdbmeallfaa
open Go.RowKit
set_option linter.unusedVariables false
set_option linter.unusedSimpArgs false
set_option maxRecDepth 100000 in
set_option maxHeartbeats 1000000 in
theorem rspread_any (t s : Int) (w : World) (l : -9223372036854775808 ≤ t) (u : t ≤ 9223372036854775807) :
    Calls Try.prog 23 #[.int .i64 t, .int .i64 s] w fun e w' => e = .returned (.int .i64 (spI t s)) ∧ w = w' := by
  have H1 := Lib.hid (fun w => rclamp_any t 0 65536 w)
  have H2 := Lib.hid (fun w => rmod_any t 65536 w (by omega))
  have H3 := Lib.hid (fun w => rmod_any t 131072 w (by omega))
  have b3 := modI_r t 131072 (by omega)
  obtain ⟨b31, b32⟩ := b3
  unfold spI
  generalize clI t 0 65536 = x1 at *
  generalize modI t 65536 = x2 at *
  generalize modI t 131072 = x3 at *
  clear l u
  by_cases k1 : s = 1
  · subst k1
    go_enter Try.func23, Try.ntmps23
    go_wp2_with (go_at_call 41; (with_reducible refine (H1.out _).mono ?_); rintro e w2 ⟨rfl, rfl⟩)
    go_ret
    exact ⟨rfl, rfl⟩
  · rw [if_neg k1]
    have t1 : (s == 1) = false := beq_eq_false_iff_ne.2 k1
    by_cases k2 : s = 2
    · subst k2
      go_enter Try.func23, Try.ntmps23
      go_wp2_with (go_at_call 42; (with_reducible refine (H2.out _).mono ?_); rintro e w2 ⟨rfl, rfl⟩)
      go_ret
      exact ⟨rfl, rfl⟩
    · rw [if_neg k2]
      have t2 : (s == 2) = false := beq_eq_false_iff_ne.2 k2
      by_cases k3 : s = 3
      · subst k3
        go_enter Try.func23, Try.ntmps23
        go_wp2_with (go_at_call 42; (with_reducible refine (H3.out _).mono ?_); rintro e w2 ⟨rfl, rfl⟩)
        go_ret
        exact ⟨rfl, rfl⟩
      · rw [if_neg k3]
        have t3 : (s == 3) = false := beq_eq_false_iff_ne.2 k3
        clear k1 k2 k3
        go_enter Try.func23, Try.ntmps23
        go_wp2_with fail
        go_ret
        exact ⟨rfl, rfl⟩
theorem vB_false {L : List St} (h : vFrom 0 L = false) : vB L = false := by unfold vB; rw [h]; split <;> rfl
theorem vFrom_bad {s : St} {r : List St} {x : Int} (h : s.1 < x ∨ 65536 < s.1) : vFrom x (s :: r) = false := by unfold vFrom; rw [if_pos h]
theorem vFrom_good {s : St} {r : List St} {x : Int} (h : ¬ (s.1 < x ∨ 65536 < s.1)) : vFrom x (s :: r) = vFrom s.1 r := by
  show (if _ then false else _) = _
  rw [if_neg h]
def prevI (L : List St) : Nat → Int
  | 0 => 0
  | j + 1 => (L.getD j st0).1
set_option maxRecDepth 100000 in
set_option maxHeartbeats 4000000 in
theorem rvalid31_any (A : Option Addr) (n c : Nat) (L : List St) (w : World) (h : Sts w A n c L) :
    Calls Try.prog 22 #[.slice A n c] w fun e w' => e = .returned (.bool (vB L)) ∧ Keeps w w' := by
  have hl := h.1
  have hmx := h.max
  have HT := Lib.hid h.2.2.2.2
  clear h
  go_enter Try.func22, Try.ntmps22
  go_wp2_with fail
  go_loopw [3] (fun i wr => ∃ (j : Nat), j ≤ n ∧ i = .int .i64 j ∧ Keeps w wr ∧ Hid (0 ≤ prevI L j ∧ vFrom 0 L = vFrom (prevI L j) (L.drop j))) (fun i _ => n - (intOf i).toNat)
  case atStart => exact ⟨0, by omega, rfl, Keeps.refl _, Lib.hid ⟨Int.le_refl _, rfl⟩⟩
  case round =>
    obtain ⟨j, hj, rfl, hkw, hR⟩ := hrel
    by_cases hlt : j < n
    · obtain ⟨b, o, rfl, hb, hc⟩ := HT.out (by omega)
      have hc := Lib.hid hc
      obtain ⟨c0, c1, c2, c3, c4⟩ := (hc.out j hlt).keep hb hkw
      clear c1 c2 c3 c4
      have hD := Lib.hid (drop_getD L j st0 (by omega))
      rw [hD.out] at hR
      by_cases hbad : (L.getD j st0).1 < prevI L j ∨ 65536 < (L.getD j st0).1
      · have hf := Lib.hid (vB_false (show vFrom 0 L = false by rw [hR.out.2, vFrom_bad hbad]))
        have hp := hR.out.1
        clear hR hD
        cases j with
        | zero =>
          rw [Nat.zero_mul, Nat.add_zero] at c0
          have hbad0 : (L.getD 0 st0).1 < 0 ∨ 65536 < (L.getD 0 st0).1 := hbad
          have hbad : (L.getD 0 st0).1 < 0 ∨ (¬ (L.getD 0 st0).1 < 0 ∧ 65536 < (L.getD 0 st0).1) := by omega
          clear hbad0
          generalize L.getD 0 st0 = s at *
          rw [show ((0 : Nat) : Int) = 0 from rfl]
          rcases hbad with hbad | ⟨hb0, hbad⟩
          · have t1 : decide (s.1 < 0) = true := decide_eq_true hbad
            go_wp2_with fail
            go_quiet (fail)
            go_wp2_with fail
            go_ret
            exact ⟨ret_b hf.out.symm, hkw.drewN _⟩
          · have t1 : decide (s.1 < 0) = false := decide_eq_false hb0
            have t2 : decide (65536 < s.1) = true := decide_eq_true hbad
            go_wp2_with fail
            go_quiet (fail)
            go_wp2_with fail
            go_ret
            exact ⟨ret_b hf.out.symm, hkw.drewN _⟩
        | succ j =>
          obtain ⟨d0, d1, d2, d3, d4⟩ := (hc.out j (by omega)).keep hb hkw
          clear d1 d2 d3 d4
          have hp : 0 ≤ (L.getD j st0).1 := hp
          have hbad : (L.getD (j + 1) st0).1 < (L.getD j st0).1 ∨ 65536 < (L.getD (j + 1) st0).1 := hbad
          generalize L.getD (j + 1) st0 = s at *
          generalize L.getD j st0 = p at *
          rw [show ((j + 1 : Nat) : Int) = (j : Int) + 1 by omega]
          have hj1 : (j : Int) + 1 < n := by omega
          have hj2 : (j : Int) + 1 - 1 = (j : Int) := by omega
          have t9 : decide (0 < (j : Int) + 1) = true := decide_eq_true (by omega)
          by_cases h1 : s.1 < 0
          · have t1 : decide (s.1 < 0) = true := decide_eq_true h1
            go_wp2_with fail
            go_quiet (fail)
            go_wp2_with fail
            go_ret
            exact ⟨ret_b hf.out.symm, hkw.drewN _⟩
          · have t1 : decide (s.1 < 0) = false := decide_eq_false h1
            by_cases h2 : 65536 < s.1
            · have t2 : decide (65536 < s.1) = true := decide_eq_true h2
              go_wp2_with fail
              go_quiet (fail)
              go_wp2_with fail
              go_ret
              exact ⟨ret_b hf.out.symm, hkw.drewN _⟩
            · have t2 : decide (65536 < s.1) = false := decide_eq_false h2
              have t3 : decide (s.1 < p.1) = true := decide_eq_true (by omega)
              go_wp2_with fail
              go_quiet (fail)
              go_wp2_with fail
              go_ret
              exact ⟨ret_b hf.out.symm, hkw.drewN _⟩
      · have hR2 := Lib.hid (show 0 ≤ prevI L (j + 1) ∧ vFrom 0 L = vFrom (prevI L (j + 1)) (L.drop (j + 1)) from ⟨by have := hR.out.1; show 0 ≤ (L.getD j st0).1; omega, by rw [hR.out.2, vFrom_good hbad]; rfl⟩)
        have hp := hR.out.1
        clear hR hD
        have hg : ¬ (L.getD j st0).1 < 0 ∧ ¬ 65536 < (L.getD j st0).1 := by omega
        have t1 : decide ((L.getD j st0).1 < 0) = false := decide_eq_false hg.1
        have t2 : decide (65536 < (L.getD j st0).1) = false := decide_eq_false hg.2
        cases j with
        | zero =>
          rw [Nat.zero_mul, Nat.add_zero] at c0
          generalize L.getD 0 st0 = s at *
          rw [show ((0 : Nat) : Int) = 0 from rfl]
          go_wp2_with fail
          go_quiet (fail)
          go_wp2_with fail
          go_roundw
          case rel => exact ⟨1, by omega, by go_num, hkw.drewN _, hR2⟩
          case measure => simp [intOf]; omega
        | succ j =>
          obtain ⟨d0, d1, d2, d3, d4⟩ := (hc.out j (by omega)).keep hb hkw
          clear d1 d2 d3 d4
          have hnb : ¬ (L.getD (j + 1) st0).1 < (L.getD j st0).1 := fun hx => hbad (Or.inl hx)
          have t3 : decide ((L.getD (j + 1) st0).1 < (L.getD j st0).1) = false := decide_eq_false hnb
          clear hbad hnb hg
          generalize L.getD (j + 1) st0 = s at *
          generalize L.getD j st0 = p at *
          rw [show ((j + 1 : Nat) : Int) = (j : Int) + 1 by omega]
          have hj1 : (j : Int) + 1 < n := by omega
          have hj2 : (j : Int) + 1 - 1 = (j : Int) := by omega
          have t9 : decide (0 < (j : Int) + 1) = true := decide_eq_true (by omega)
          go_wp2_with fail
          go_quiet (fail)
          go_wp2_with fail
          go_roundw
          case rel => exact ⟨j + 1 + 1, by omega, by go_num, hkw.drewN _, hR2⟩
          case measure => simp [intOf]; omega
    · obtain rfl : j = n := by omega
      have hv : vFrom 0 L = true := by rw [hR.out.2, List.drop_of_length_le (by omega)]; rfl
      have hf : vB L = (decide (1 ≤ (j : Int)) && decide ((j : Int) ≤ 16)) := by
        unfold vB
        rw [hv, hl]
        by_cases h1 : j < 1
        · rw [if_pos (Or.inl h1), decide_eq_false (by omega)]; rfl
        · by_cases h2 : 16 < j
          · rw [if_pos (Or.inr h2), decide_eq_false (show ¬ (j : Int) ≤ 16 by omega), Bool.and_false]
          · rw [if_neg (by omega), decide_eq_true (show 1 ≤ (j : Int) by omega), decide_eq_true (show (j : Int) ≤ 16 by omega)]; rfl
      have hf := Lib.hid hf
      clear hR hv HT hl
      go_wp2_with fail
      all_goals
        go_ret
        exact ⟨ret_b (by first | (rw [hf.out]; simp [*]; done) | (simp [*]; done) | (simp; omega)), hkw⟩
end Go.Proofs.Ytboomdbmeallfaa
