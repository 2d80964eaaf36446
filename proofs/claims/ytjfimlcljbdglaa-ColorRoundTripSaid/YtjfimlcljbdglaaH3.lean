/- Contracts of the hexadecimal functions: EncodeHex of reference 04, plain laws of decoding. -/
import Derived.Test.YtjfimlcljbdglaaH2
namespace Go.Proofs.Ytjfimlcljbdglaa
open Go.RowKit
set_option linter.unusedVariables false
set_option linter.unusedSimpArgs false
theorem unhex_snoc {l D : List Nat} (a b : Nat) (m : List Nat) (h : unhex l = some D) : unhex (l ++ a :: b :: m) = if hexV a < 0 ∨ hexV b < 0 then none else (unhex m).map (D ++ (16 * hexV a + hexV b).toNat :: ·) := by
  induction l using unhex.induct generalizing D with
  | case1 => simp [unhex] at h; subst h; rfl
  | case2 => simp [unhex] at h
  | case3 x y l hn => simp [unhex, hn] at h
  | case4 x y l hn ih =>
    simp only [unhex, if_neg hn] at h
    cases h1 : unhex l with
    | none => rw [h1] at h; simp at h
    | some E =>
      rw [h1] at h
      simp at h
      subst h
      simp only [List.cons_append, unhex, if_neg hn, ih h1]
      split
      · rfl
      · simp [Option.map_map]; rfl
/-- Where the decoding of L stands before byte 2 j. -/
def UnR (L : List Nat) (j : Nat) (D : List Nat) : Prop := D.length = j ∧ unhex (L.take (2 * j)) = some D ∧ ∀ d ∈ D, d < 256
theorem UnR.zero (L : List Nat) : UnR L 0 [] := ⟨rfl, rfl, by simp⟩
theorem take_two {L : List Nat} {j : Nat} (h : 2 * j + 1 < L.length) : L = L.take (2 * j) ++ L.getD (2 * j) 0 :: L.getD (2 * j + 1) 0 :: L.drop (2 * (j + 1)) := by
  have e1 : L.getD (2 * j) 0 = L[2 * j]'(by omega) := by simp [show 2 * j < L.length by omega]
  have e2 : L.getD (2 * j + 1) 0 = L[2 * j + 1]'(by omega) := by simp [h]
  rw [e1, e2, show 2 * (j + 1) = 2 * j + 1 + 1 by omega, ← List.drop_eq_getElem_cons h, ← List.drop_eq_getElem_cons (by omega), List.take_append_drop]
theorem take_two' {L : List Nat} {j : Nat} (h : 2 * j + 1 < L.length) : L.take (2 * (j + 1)) = L.take (2 * j) ++ [L.getD (2 * j) 0, L.getD (2 * j + 1) 0] := by
  rw [show 2 * (j + 1) = 2 * j + 1 + 1 by omega, take_snoc' rfl h, take_snoc' rfl (by omega), List.append_assoc]; rfl
theorem UnR.bad {L D : List Nat} {j : Nat} (h : UnR L j D) (hl : 2 * j + 1 < L.length) (hb : hexV (L.getD (2 * j) 0) < 0 ∨ hexV (L.getD (2 * j + 1) 0) < 0) : unhex L = none := by
  rw [take_two hl, unhex_snoc _ _ _ h.2.1, if_pos hb]
theorem UnR.step {L D : List Nat} {j : Nat} (h : UnR L j D) (hl : 2 * j + 1 < L.length) {x y : Nat} (hx : hexV (L.getD (2 * j) 0) = x) (hy : hexV (L.getD (2 * j + 1) 0) = y) : UnR L (j + 1) (D ++ [16 * x + y]) := by
  have := hexV_lt (L.getD (2 * j) 0)
  have := hexV_lt (L.getD (2 * j + 1) 0)
  refine ⟨by rw [List.length_append, h.1]; rfl, ?_, ?_⟩
  · rw [take_two' hl, unhex_snoc _ _ _ h.2.1, hx, hy, if_neg (by omega)]
    simp [unhex]; omega
  · intro d hd
    rcases List.mem_append.1 hd with hd | hd
    · exact h.2.2 d hd
    · simp at hd; omega
theorem UnR.done {L D : List Nat} {j : Nat} (h : UnR L j D) (hl : L.length = 2 * j) : unhex L = some D := by
  have := h.2.1
  rwa [List.take_of_length_le (by omega)] at this
theorem or_shift : ∀ x y : Nat, x < 16 → y < 16 → bits .or .i64 ((x : Int) * 16) y = 16 * x + y := by
  intro x y hx hy
  have : ∀ x : Nat, x < 16 → ∀ y : Nat, y < 16 → bits .or .i64 ((x : Int) * 16) y = 16 * x + y := by decide
  exact this x hx y hy

set_option maxRecDepth 100000 in
set_option maxHeartbeats 1000000 in
theorem encode4_any (D : List Nat) (A : Option Addr) (n c : Nat) (w : World) (h : By w A n c D) (hsm : n ≤ 100000) :
    Calls Try.prog 47 #[.slice A n c] w fun e w' => e = .returned (.string (strB (hexS D))) ∧ Keeps w w' := by
  have hl := Lib.hid h.len
  have HD := Lib.hid h
  obtain ⟨i0, hi, hz0, hz1, hz2⟩ := info_parts u8_info
  have hK := Keeps.refl w
  clear h
  go_enter Try.func47, Try.ntmps47
  go_wp2
  go_loopw [3, 4] (fun v i wr => ∃ j : Nat, j ≤ n ∧ i = .int .i64 j ∧ wr.ownsRow w.heap.size 5 1 v (2 * j) (d8 (hexS (D.take j))) ∧ Keeps w wr) (fun _ i _ => n - (intOf i).toNat)
  case atStart => exact ⟨0, by omega, rfl, World.ownsRow_lit w #[] 0 (Nat.le_refl _) (by unfold maxLen; omega) (by simp), by exact (Keeps.refl _).alloc _⟩
  case round =>
    obtain ⟨j, hj, rfl, hown, hkw⟩ := hrel
    by_cases hlt : j < n
    · obtain ⟨b, o, rfl, hb, hc0⟩ := HD.out.at_ (k := j) hlt
      have hc := (hkw.cell (p := ⟨b, o + j, none⟩) hb).trans hc0
      have hT1 := Lib.hid (hexS_snoc hl.out hlt)
      have b1 := by_getD HD.out.2 j
      have HC0 := Lib.hid hc0
      have hb' : b < wr.heap.size := Nat.lt_of_lt_of_le hb hkw.size
      clear hc0
      generalize D.getD j 0 = d at *
      have r1 := fun w => index_digit w .u8 (d / 16) (by omega)
      have r2 := fun w => index_digit w .u8 (d % 16) (by omega)
      rw [show ((d / 16 : Nat) : Int) = (d : Int) / 16 by omega] at r1
      rw [show ((d % 16 : Nat) : Int) = (d : Int) % 16 by omega] at r2
      have d1 : (d : Int).tdiv 16 = (d : Int) / 16 := Int.tdiv_eq_ediv_of_nonneg (by omega)
      have d2 : (d : Int).tmod 16 = (d : Int) % 16 := Int.tmod_eq_emod_of_nonneg (by omega)
      have d3 : IntKind.u8.wrap ((d : Int) / 16) = (d : Int) / 16 := wraps_u8 _ (by omega) (by omega)
      go_wp2_with fail
      have hown' := World.ownsRow.drew hown
      go_region_held3 (fun w' => w'.cell? ⟨b, o + j, none⟩ = some (.int .u8 (d : Int))) (first | exact hc | exact ((Keeps.drew (Keeps.alloc (Keeps.refl wr) _)).cell (p := ⟨b, o + j, none⟩) hb').trans hc | exact ((by assumption : Keeps w _).cell (p := ⟨b, o + j, none⟩) hb).trans HC0.out | fail "KEEP")
        (first | (refine step_append_own _ rfl (.tmp 12) (.tmp 25) 55 rfl w.heap.size 5 i0 (.int .u8 0) 1 1 Try.underlying55 hi hz0 hz1 hz2 rfl (by decide) _ _ _ rfl (hown'.alloc _) ⟨wr.heap.size, 0, none⟩ 2 2 [.int .u8 ((hexD (d / 16) : Nat) : Int), .int .u8 ((hexD (d % 16) : Nat) : Int)] rfl rfl (two_new wr.drew _ _ _) (by intro u hu; simp at hu; rcases hu with rfl | rfl <;> rfl) (by unfold maxLen; omega) (by omega) (by have := hkw.size; simp; omega) ?_; intro v1 w1 hown1 hgrow1; have hk1 := below_own' hkw rfl hown hgrow1 (Keeps.alloc (Keeps.drew (Keeps.refl wr)) _); clear hgrow1; rw [d8_snoc2, ← hT1.out, show 2 * j + 2 = 2 * (j + 1) by omega] at hown1) | fail "ARM")
      all_goals (go_wp2)
      all_goals (
        refine ⟨⟨j + 1, by omega, by go_num, by assumption, by assumption⟩, ?_⟩
        simp [intOf]; omega)
    · obtain rfl : j = n := by omega
      rw [List.take_of_length_le (by rw [hl.out]; exact Nat.le_refl _)] at hown
      obtain ⟨A', c', ev, hB⟩ := By.of_own hown (hexS_bd HD.out.2)
      subst ev
      have hcv := run_str (P := Try.prog) wr 55 5 9 Try.underlying55 Try.underlying5 Try.underlying9 hB
      clear hown hB HD
      go_wp2
      go_ret
      exact ⟨rfl, hkw⟩
end Go.Proofs.Ytjfimlcljbdglaa
