/- Contracts of the hexadecimal functions: one digit. -/
import Derived.Test.YtjfimlcljbdglaaChecked
import Derived.Test.YtjfimlcljbdglaaHx
import Derived.Laws.BitsAllLaws
import Derived.StillTailTactics
namespace Go.Proofs.Ytjfimlcljbdglaa
open Go.RowKit
set_option linter.unusedVariables false
set_option linter.unusedSimpArgs false

theorem ret_int' {k : IntKind} {a b : Int} (h : a = b) : Ending.returned (.int k a) = .returned (.int k b) := by rw [h]
def digitsS : ByteArray := ⟨#[48, 49, 50, 51, 52, 53, 54, 55, 56, 57, 97, 98, 99, 100, 101, 102]⟩
theorem digits_get : ∀ k, k < 16 → (bytesOf digitsS).getD k 0 = hexD k := by decide
theorem digits_size : digitsS.size = 16 := rfl
theorem index_digit (w : World) (k : IntKind) (i : Nat) (h : i < 16) :
    (Instr.index 9 (.string ⟨#[48, 49, 50, 51, 52, 53, 54, 55, 56, 57, 97, 98, 99, 100, 101, 102]⟩) (.int k (i : Int))).run Try.prog w = .ok (.int .u8 ((hexD i : Nat) : Int)) w := by
  have e := run_index_string (P := Try.prog) w 9 digitsS k i Try.underlying9
  rw [dif_pos ⟨by omega, by rw [digits_size]; omega⟩] at e
  have h2 := digits_get i h
  have e2 : (bytesOf digitsS).getD i 0 = (digitsS[i]'(by rw [digits_size]; exact h)).toNat := by
    unfold bytesOf
    rw [List.getD_eq_getElem?_getD, List.getElem?_map, List.getElem?_eq_getElem (by exact h)]
    rfl
  rw [← h2, e2]
  exact e
set_option maxHeartbeats 400000 in
theorem value_any (c : Nat) (w : World) (h : c < 256) :
    Calls Try.prog 64 #[.int .u8 (c : Int)] w fun e w' => e = .returned (.int .i64 (hexV c)) ∧ w = w' := by
  rcases hexV_is c with ⟨h1, h2, h3⟩ | ⟨h1, h2, h3⟩ | h3
  · rw [h3]
    clear h3
    go_enter Try.func64, Try.ntmps64
    go_wp2
    go_ret
    exact ⟨ret_int' (by omega), rfl⟩
  · rw [h3]
    clear h3
    have t1 : decide ((97 : Int) ≤ c) = false := decide_eq_false (by omega)
    go_enter Try.func64, Try.ntmps64
    go_wp2
    go_ret
    exact ⟨rfl, rfl⟩
  · have h4 : c < 48 ∨ (57 < c ∧ c < 97) ∨ 102 < c := by unfold hexV at h3; split at h3 <;> (try split at h3) <;> omega
    rw [h3]
    clear h3
    rcases h4 with h4 | ⟨h4, h5⟩ | h4
    all_goals
      go_enter Try.func64, Try.ntmps64
      go_wp2
      go_ret
      exact ⟨rfl, rfl⟩
set_option maxHeartbeats 400000 in
theorem digit_any4 (c : Nat) (w : World) (h : c < 256) :
    Calls Try.prog 65 #[.int .u8 (c : Int)] w fun e w' => e = .returned (.int .i64 (hexV c)) ∧ w = w' := by
  go_enter Try.func65, Try.ntmps65
  go_wp2
  go_loop [3] (fun t => ∃ k : Nat, k ≤ 16 ∧ t = .int .i64 k ∧ Hid (∀ j, j < k → hexD j ≠ c)) (fun t => 16 - (intOf t).toNat)
  case atStart => exact ⟨0, by omega, rfl, fun j hj => by omega⟩
  case round =>
    obtain ⟨k, hk, rfl, hz⟩ := hrel
    by_cases hlt : k < 16
    · have ri := fun w => index_digit w .i64 k hlt
      have hV := Lib.hid (hexV_D hlt)
      have hb := hexD_bd hlt
      by_cases he : hexD k = c
      · have hE := Lib.hid (show hexV c = k by rw [← he]; exact hV.out)
        generalize hexD k = d at *
        subst he
        have t1 : (((d : Nat) : Int) == d) = true := beq_self_eq_true _
        go_wp2
        go_ret
        exact ⟨ret_int' hE.out.symm, rfl⟩
      · have t1 : (((hexD k : Nat) : Int) == c) = false := beq_eq_false_iff_ne.2 (by omega)
        have he' := Lib.hid he
        clear he
        go_wp2
        go_round
        case rel => exact ⟨k + 1, by omega, by go_num, fun j hj => by
          rcases Nat.lt_or_ge j k with h | h
          · exact hz j h
          · rw [show j = k by omega]; exact he'.out⟩
        case measure => simp [intOf]; omega
    · obtain rfl : k = 16 := by omega
      have hE := Lib.hid (show hexV c = -1 by
        rcases hexV_is c with ⟨h1, h2, h3⟩ | ⟨h1, h2, h3⟩ | h3
        · exact absurd (hexD_V (by omega)) (hz _ (by omega))
        · exact absurd (hexD_V (by omega)) (hz _ (by omega))
        · exact h3)
      clear hz
      go_wp2
      go_ret
      exact ⟨ret_int' hE.out.symm, rfl⟩
end Go.Proofs.Ytjfimlcljbdglaa
