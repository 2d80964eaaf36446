/- Contracts of reference 01: Cmp. -/
import Derived.Test.YtjfimlcljbdglaaN4
namespace Go.Proofs.Ytjfimlcljbdglaa
open Go.RowKit
set_option linter.unusedVariables false
set_option linter.unusedSimpArgs false

def cmpN (a b : Nat) : Int := if a < b then -1 else if b < a then 1 else 0
theorem cmpN_lt {a b : Nat} (h : a < b) : cmpN a b = -1 := by unfold cmpN; rw [if_pos h]
theorem cmpN_gt {a b : Nat} (h : b < a) : cmpN a b = 1 := by unfold cmpN; rw [if_neg (by omega), if_pos h]
theorem cmpN_eq {a b : Nat} (h : a = b) : cmpN a b = 0 := by unfold cmpN; rw [if_neg (by omega), if_neg (by omega)]
set_option maxRecDepth 100000 in
set_option maxHeartbeats 1000000 in
theorem cmp1_any (D E : List Nat) (A B : Option Addr) (n c m c2 : Nat) (w : World) (h : Dg w A n c D) (h2 : Dg w B m c2 E) (hsm : n ≤ 1000) (hsm2 : m ≤ 1000) :
    Calls Try.prog 93 #[.slice A n c, .slice B m c2] w fun e w' => e = .returned (.int .i64 (cmpN (nv D) (nv E))) ∧ w = w' := by
  have hl := Lib.hid h.len
  have hl2 := Lib.hid h2.len
  have HD := Lib.hid h
  have HE := Lib.hid h2
  clear h h2
  by_cases hnm : n < m
  all_goals
    go_enter Try.func93, Try.ntmps93
    go_wp2
    go_loop [5] (fun t => ∃ i : Int, -1 ≤ i ∧ i < max n m ∧ t = .int .i64 i ∧ Hid (∀ j : Nat, i < j → D.getD j 0 = E.getD j 0)) (fun t => (intOf t + 1).toNat)
    case atStart => exact ⟨_, by omega, by omega, rfl, fun j hj => by
      rw [List.getD_eq_getElem?_getD, List.getD_eq_getElem?_getD, List.getElem?_eq_none (by rw [hl.out]; omega), List.getElem?_eq_none (by rw [hl2.out]; omega)]⟩
    case round =>
      obtain ⟨i, hi0, hi1, rfl, hz⟩ := hrel
      by_cases hlt : 0 ≤ i
      · obtain ⟨k, rfl⟩ := Int.eq_ofNat_of_zero_le hlt
        have G1 := Lib.hid (fun w' hk => digit_nat D A n c k w' w HD.out hk (by omega))
        have G2 := Lib.hid (fun w' hk => digit_nat E B m c2 k w' w HE.out hk (by omega))
        have hK := Keeps.refl w
        have hlt' : Hid (D.getD k 0 < E.getD k 0 → nv D < nv E) := nv_cmp_lt HD.out.2 k (fun j hj => hz j (by omega))
        have hgt' : Hid (E.getD k 0 < D.getD k 0 → nv E < nv D) := nv_cmp_lt HE.out.2 k (fun j hj => (hz j (by omega)).symm)
        have hz' : Hid (D.getD k 0 = E.getD k 0 → ∀ j : Nat, (k : Int) - 1 < j → D.getD j 0 = E.getD j 0) := fun he j hj => by
          rcases Nat.lt_or_ge k j with h | h
          · exact hz j (by omega)
          · rw [show j = k by omega]; exact he
        clear hz
        generalize D.getD k 0 = p at *
        generalize E.getD k 0 = q at *
        by_cases h1 : p < q
        · have R := Lib.hid (cmpN_lt (hlt'.out h1))
          go_wp2_with (first | (go_at_call 89; (with_reducible refine (G1.out _ (by assumption)).mono ?_); rintro e w1 ⟨rfl, rfl⟩) | (go_at_call 89; (with_reducible refine (G2.out _ (by assumption)).mono ?_); rintro e w1 ⟨rfl, rfl⟩))
          go_ret
          exact ⟨by rw [R.out]; rfl, rfl⟩
        · by_cases h2 : q < p
          · have R := Lib.hid (cmpN_gt (hgt'.out h2))
            go_wp2_with (first | (go_at_call 89; (with_reducible refine (G1.out _ (by assumption)).mono ?_); rintro e w1 ⟨rfl, rfl⟩) | (go_at_call 89; (with_reducible refine (G2.out _ (by assumption)).mono ?_); rintro e w1 ⟨rfl, rfl⟩))
            go_ret
            exact ⟨by rw [R.out]; rfl, rfl⟩
          · go_wp2_with (first | (go_at_call 89; (with_reducible refine (G1.out _ (by assumption)).mono ?_); rintro e w1 ⟨rfl, rfl⟩) | (go_at_call 89; (with_reducible refine (G2.out _ (by assumption)).mono ?_); rintro e w1 ⟨rfl, rfl⟩))
            go_round
            case rel => exact ⟨_, by omega, by omega, rfl, hz'.out (by omega)⟩
            case measure => first | (simp [intOf]; done) | (simp [intOf]; omega)
      · have R := Lib.hid (cmpN_eq (nv_ext fun j => hz j (by omega)))
        go_wp2
        go_ret
        exact ⟨by rw [R.out]; rfl, rfl⟩
end Go.Proofs.Ytjfimlcljbdglaa
