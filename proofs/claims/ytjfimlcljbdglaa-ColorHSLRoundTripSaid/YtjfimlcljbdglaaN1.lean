/- Contracts of reference 01: numbers in base 2^32, as slices. -/
import Derived.Test.YtjfimlcljbdglaaChecked
import Derived.Test.YtjfimlcljbdglaaSl
import Derived.Test.YtjfimlcljbdglaaBs
namespace Go.Proofs.Ytjfimlcljbdglaa
open Go.RowKit
set_option linter.unusedVariables false
set_option linter.unusedSimpArgs false

set_option maxRecDepth 100000 in
set_option maxHeartbeats 400000 in
theorem digit_any (D : List Nat) (A : Option Addr) (n c : Nat) (i : Int) (w : World) (h : Dg w A n c D) (hi : -1 ≤ i) (hi2 : i ≤ 9223372036854775807) :
    Calls Try.prog 89 #[.slice A n c, .int .i64 i] w fun e w' => e = .returned (.int .u64 (if 0 ≤ i then (D.getD i.toNat 0 : Int) else 0)) ∧ w = w' := by
  have hn := h.max
  by_cases h0 : i < 0
  · rw [if_neg (by omega)]
    have t0 : decide (i < 0) = true := decide_eq_true h0
    go_enter Try.func89, Try.ntmps89
    go_wp2
    go_ret
    exact ⟨rfl, rfl⟩
  · rw [if_pos (by omega)]
    obtain ⟨k, rfl⟩ := Int.eq_ofNat_of_zero_le (show 0 ≤ i by omega)
    have t0 : decide ((k : Int) < 0) = false := decide_eq_false h0
    rw [Int.toNat_natCast]
    by_cases hk : k < n
    · obtain ⟨b, o, rfl, hb, hc⟩ := h.at_ hk
      have hd := isD.getD h.2 k
      generalize D.getD k 0 = d at *
      have t1 : decide ((n : Int) ≤ k) = false := decide_eq_false (by omega)
      clear h
      go_enter Try.func89, Try.ntmps89
      go_wp2
      go_ret
      exact ⟨rfl, rfl⟩
    · have e : D.getD k 0 = 0 := by
        rw [List.getD_eq_getElem?_getD, List.getElem?_eq_none (by rw [h.len]; omega)]; rfl
      rw [e]
      have t1 : decide ((n : Int) ≤ k) = true := decide_eq_true (by omega)
      clear e
      go_enter Try.func89, Try.ntmps89
      go_wp2
      go_ret
      exact ⟨rfl, rfl⟩
theorem digit_nat (D : List Nat) (A : Option Addr) (n c k : Nat) (w w0 : World) (h : Dg w0 A n c D) (hk : Keeps w0 w) (hi : (k : Int) ≤ 9223372036854775807) :
    Calls Try.prog 89 #[.slice A n c, .int .i64 (k : Int)] w fun e w' => e = .returned (.int .u64 ((D.getD k 0 : Nat) : Int)) ∧ w = w' := by
  have := digit_any D A n c k w (h.keep hk) (by omega) hi
  rwa [if_pos (by omega), Int.toNat_natCast] at this
end Go.Proofs.Ytjfimlcljbdglaa
