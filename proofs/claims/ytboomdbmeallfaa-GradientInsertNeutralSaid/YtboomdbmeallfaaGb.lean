/- Contract of gradient.SpreadOffset, and its laws. -/
import Derived.Test.YtboomdbmeallfaaGa
namespace Go.Proofs.Ytboomdbmeallfaa
open Go.RowKit
set_option linter.unusedVariables false
set_option linter.unusedSimpArgs false
def spI (t s : Int) : Int :=
  if s = 1 then clI t 0 65536 else if s = 2 then modI t 65536 else if s = 3 then min (modI t 131072) (131072 - modI t 131072) else 0
theorem modI_r (t b : Int) (hb : 1 ≤ b) : 0 ≤ modI t b ∧ modI t b < b := by
  unfold modI; rw [if_neg (by omega)]
  exact ⟨Int.emod_nonneg _ (by omega), Int.emod_lt_of_pos _ (by omega)⟩
theorem spI_bd (t s : Int) : 0 ≤ spI t s ∧ spI t s ≤ 65536 := by
  unfold spI
  have h1 := clI_in t 65536 (by omega)
  have h2 := modI_r t 65536 (by omega)
  have h3 := modI_r t 131072 (by omega)
  split
  · exact h1
  split
  · omega
  split <;> omega
theorem spI_rep (t : Int) : spI (t + 65536) 2 = spI t 2 := by
  show modI (t + 65536) 65536 = modI t 65536
  unfold modI; rw [if_neg (by omega), if_neg (by omega)]; omega
theorem spI_neg (t : Int) : spI (-t) 3 = spI t 3 := by
  show min (modI (-t) 131072) (131072 - modI (-t) 131072) = min (modI t 131072) (131072 - modI t 131072)
  unfold modI; rw [if_neg (by omega), if_neg (by omega)]; omega
theorem spI_per (t : Int) : spI (t + 131072) 3 = spI t 3 := by
  show min (modI (t + 131072) 131072) (131072 - modI (t + 131072) 131072) = min (modI t 131072) (131072 - modI t 131072)
  unfold modI; rw [if_neg (by omega), if_neg (by omega)]; omega
theorem spI_half (t : Int) : spI (t + 65536) 3 = 65536 - spI t 3 := by
  show min (modI (t + 65536) 131072) (131072 - modI (t + 65536) 131072) = 65536 - min (modI t 131072) (131072 - modI t 131072)
  unfold modI; rw [if_neg (by omega), if_neg (by omega)]; omega
theorem spI_pad (t : Int) (h : 0 ≤ t) (h1 : t ≤ 65536) : spI t 1 = t := by
  show clI t 0 65536 = t
  unfold clI; rw [if_neg (by omega), if_neg (by omega)]
set_option maxRecDepth 100000 in
set_option maxHeartbeats 1000000 in
theorem spread_any (t s : Int) (w : World) (l : -9223372036854775808 ≤ t) (u : t ≤ 9223372036854775807) :
    Calls Try.prog 13 #[.int .i64 t, .int .i64 s] w fun e w' => e = .returned (.int .i64 (spI t s)) ∧ w = w' := by
  have H1 := Lib.hid (fun w => clamp_any t 0 65536 w)
  have H2 := Lib.hid (fun w => mod_any t 65536 w (by omega))
  have H3 := Lib.hid (fun w => mod_any t 131072 w (by omega))
  have b3 := modI_r t 131072 (by omega)
  obtain ⟨b31, b32⟩ := b3
  unfold spI
  generalize clI t 0 65536 = x1 at *
  generalize modI t 65536 = x2 at *
  generalize modI t 131072 = x3 at *
  clear l u
  by_cases k1 : s = 1
  · subst k1
    go_enter Try.func13, Try.ntmps13
    go_wp2_with (go_at_call 36; (with_reducible refine (H1.out _).mono ?_); rintro e w2 ⟨rfl, rfl⟩)
    go_ret
    exact ⟨rfl, rfl⟩
  · rw [if_neg k1]
    have t1 : (s == 1) = false := beq_eq_false_iff_ne.2 k1
    by_cases k2 : s = 2
    · subst k2
      go_enter Try.func13, Try.ntmps13
      go_wp2_with (go_at_call 37; (with_reducible refine (H2.out _).mono ?_); rintro e w2 ⟨rfl, rfl⟩)
      go_ret
      exact ⟨rfl, rfl⟩
    · rw [if_neg k2]
      have t2 : (s == 2) = false := beq_eq_false_iff_ne.2 k2
      by_cases k3 : s = 3
      · subst k3
        go_enter Try.func13, Try.ntmps13
        go_wp2_with (go_at_call 37; (with_reducible refine (H3.out _).mono ?_); rintro e w2 ⟨rfl, rfl⟩)
        go_ret
        exact ⟨rfl, rfl⟩
      · rw [if_neg k3]
        have t3 : (s == 3) = false := beq_eq_false_iff_ne.2 k3
        clear k1 k2 k3
        go_enter Try.func13, Try.ntmps13
        go_wp2_with fail
        go_ret
        exact ⟨rfl, rfl⟩
end Go.Proofs.Ytboomdbmeallfaa
