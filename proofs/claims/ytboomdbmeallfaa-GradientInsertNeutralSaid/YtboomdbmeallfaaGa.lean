/- Slices of color stops; contract of gradient.Valid. -/
import Derived.Test.YtboomdbmeallfaaCm
import Derived.Test.YtboomdbmeallfaaSl
namespace Go.Proofs.Ytboomdbmeallfaa
open Go.RowKit
set_option linter.unusedVariables false
set_option linter.unusedSimpArgs false
abbrev St := Int × Int × Int × Int × Int
def st0 : St := (0, 0, 0, 0, 0)
def StAt (w : World) (b o : Nat) (s : St) : Prop :=
  w.cell? ⟨b, o, none⟩ = some (.int .i64 s.1) ∧ w.cell? ⟨b, o + 1, none⟩ = some (.int .u8 s.2.1) ∧ w.cell? ⟨b, o + 2, none⟩ = some (.int .u8 s.2.2.1) ∧ w.cell? ⟨b, o + 3, none⟩ = some (.int .u8 s.2.2.2.1) ∧ w.cell? ⟨b, o + 4, none⟩ = some (.int .u8 s.2.2.2.2)
def okSt (s : St) : Prop := u8b s.2.1 ∧ u8b s.2.2.1 ∧ u8b s.2.2.2.1 ∧ u8b s.2.2.2.2
/-- The slice '.slice A n c' reads as the stops L. -/
def Sts (w : World) (A : Option Addr) (n c : Nat) (L : List St) : Prop :=
  L.length = n ∧ n ≤ c ∧ c ≤ maxLen ∧ (∀ s ∈ L, okSt s) ∧ (0 < n → ∃ b o, A = some ⟨b, o, none⟩ ∧ b < w.heap.size ∧ ∀ k, k < n → StAt w b (o + k * 5) (L.getD k st0))
theorem StAt.keep {w w' : World} {b o : Nat} {s : St} (h : StAt w b o s) (hb : b < w.heap.size) (hk : Keeps w w') : StAt w' b o s := by
  obtain ⟨h0, h1, h2, h3, h4⟩ := h
  exact ⟨(hk.cell hb).trans h0, (hk.cell hb).trans h1, (hk.cell hb).trans h2, (hk.cell hb).trans h3, (hk.cell hb).trans h4⟩
theorem Sts.keep {w w' : World} {A : Option Addr} {n c : Nat} {L : List St} (h : Sts w A n c L) (hk : Keeps w w') : Sts w' A n c L := by
  obtain ⟨h1, h2, h3, h5, h4⟩ := h
  refine ⟨h1, h2, h3, h5, fun hn => ?_⟩
  obtain ⟨b, o, e, hb, hc⟩ := h4 hn
  exact ⟨b, o, e, Nat.lt_of_lt_of_le hb hk.size, fun k hk' => (hc k hk').keep hb hk⟩
theorem Sts.ok {w : World} {A : Option Addr} {n c : Nat} {L : List St} (h : Sts w A n c L) (k : Nat) : okSt (L.getD k st0) := by
  by_cases hk : k < L.length
  · rw [List.getD_eq_getElem?_getD, List.getElem?_eq_getElem hk]; exact h.2.2.2.1 _ (List.getElem_mem hk)
  · rw [List.getD_eq_getElem?_getD, List.getElem?_eq_none (by omega)]; exact ⟨⟨by decide, by decide⟩, ⟨by decide, by decide⟩, ⟨by decide, by decide⟩, ⟨by decide, by decide⟩⟩
theorem Sts.max {w : World} {A : Option Addr} {n c : Nat} {L : List St} (h : Sts w A n c L) : (n : Int) ≤ 9223372036854775807 := by
  have h1 := h.2.1; have h2 := h.2.2.1; unfold maxLen at h2; omega
theorem drop_getD {α : Type} (L : List α) (j : Nat) (x : α) (h : j < L.length) : L.drop j = L.getD j x :: L.drop (j + 1) := by
  rw [List.drop_eq_getElem_cons h, List.getD_eq_getElem?_getD, List.getElem?_eq_getElem h]; rfl
/-- Valid, from an offset on. -/
def vFrom (a : Int) : List St → Bool
  | [] => true
  | s :: r => if s.1 < a ∨ 65536 < s.1 then false else vFrom s.1 r
def vB (L : List St) : Bool := if L.length < 1 ∨ 16 < L.length then false else vFrom 0 L
set_option maxRecDepth 100000 in
set_option maxHeartbeats 1000000 in
theorem valid31_any (A : Option Addr) (n c : Nat) (L : List St) (w : World) (h : Sts w A n c L) :
    Calls Try.prog 16 #[.slice A n c] w fun e w' => e = .returned (.bool (vB L)) ∧ Keeps w w' := by
  have hl := h.1
  have hmx := h.max
  have HS := Lib.hid h
  clear h
  by_cases hn : n < 1 ∨ 16 < n
  · have e : vB L = false := by unfold vB; rw [if_pos (by omega)]
    rw [e]
    rcases hn with hn | hn
    all_goals
      go_enter Try.func16, Try.ntmps16
      go_wp2
      go_ret
      exact ⟨rfl, Keeps.refl _⟩
  · have e : vB L = vFrom 0 L := by unfold vB; rw [if_neg (by omega)]
    have n1 : 1 ≤ n := by omega
    have n2 : n ≤ 16 := by omega
    clear hn
    have hE := Lib.hid e
    clear e
    obtain ⟨b, o, rfl, hb, hc⟩ := HS.out.2.2.2.2 (by omega)
    have hc := Lib.hid hc
    go_enter Try.func16, Try.ntmps16
    go_wp2_with fail
    go_loopw [3, 16] (fun a i wr => ∃ (j : Nat) (x : Int), j ≤ n ∧ i = .int .i64 j ∧ a = .int .i64 x ∧ Keeps w wr ∧ Hid (vFrom 0 L = vFrom x (L.drop j))) (fun _ i _ => n - (intOf i).toNat)
    case atStart => exact ⟨0, 0, by omega, rfl, rfl, Keeps.refl _, Lib.hid rfl⟩
    case round =>
      obtain ⟨j, x, hj, rfl, rfl, hkw, hR⟩ := hrel
      by_cases hlt : j < n
      · obtain ⟨c0, c1, c2, c3, c4⟩ := (hc.out j hlt).keep hb hkw
        have hD := Lib.hid (drop_getD L j st0 (by omega))
        rw [hD.out] at hR
        generalize L.getD j st0 = s at *
        by_cases hbad : s.1 < x ∨ 65536 < s.1
        · have hf := Lib.hid (show vB L = false by rw [hE.out, hR.out]; unfold vFrom; rw [if_pos hbad])
          rcases hbad with hbad | hbad
          all_goals
            go_wp2_with fail
            all_goals
              go_ret
              exact ⟨ret_b hf.out.symm, hkw.alloc _⟩
        · have hR2 := Lib.hid (show vFrom 0 L = vFrom s.1 (L.drop (j + 1)) by rw [hR.out]; show (if s.1 < x ∨ 65536 < s.1 then false else _) = _; rw [if_neg hbad])
          have g1 : x ≤ s.1 := by omega
          have g2 : s.1 ≤ 65536 := by omega
          clear hbad
          go_wp2_with fail
          go_roundw
          case rel => exact ⟨j + 1, s.1, by omega, by go_num, rfl, hkw.alloc _, hR2⟩
          case measure => simp [intOf]; omega
      · obtain rfl : j = n := by omega
        have hf := Lib.hid (show vB L = true by rw [hE.out, hR.out, List.drop_of_length_le (by omega)]; rfl)
        go_wp2_with fail
        go_ret
        exact ⟨ret_b hf.out.symm, hkw⟩
end Go.Proofs.Ytboomdbmeallfaa
