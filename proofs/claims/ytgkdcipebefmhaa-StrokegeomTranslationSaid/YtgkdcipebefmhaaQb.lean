/- Contracts of polygon.Valid and of what it calls; slices of slices of points. -/
import Derived.Test.YtgkdcipebefmhaaQa
import Derived.Test.YtgkdcipebefmhaaKk
import Derived.Test.YtgkdcipebefmhaaRx
namespace Go.Proofs.Ytgkdcipebefmhaa
open Go.RowKit
set_option linter.unusedVariables false
set_option linter.unusedSimpArgs false
/-- The index of the first point that is not valid, from k on, or -1. -/
def idxV : Nat → List Pt → Int
  | _, [] => -1
  | k, p :: r => if vP p = true then idxV (k + 1) r else (k : Int)
theorem idxV_all : ∀ (L : List Pt) (k : Nat), (0 ≤ idxV k L) = (L.all vP = false)
  | [], k => by simp [idxV]
  | p :: r, k => by
    unfold idxV
    rw [List.all_cons]
    cases h : vP p with
    | true => simp [idxV_all r (k + 1)]
    | false => simp
set_option maxHeartbeats 400000 in
theorem pv1_any (p : Pt) (w : World) :
    Calls Try.prog 86 #[.agg #[.int .i64 p.1, .int .i64 p.2]] w fun e w' => e = .returned (.bool (!vP p)) ∧ Keeps w w' := by
  obtain ⟨x, y⟩ := p
  unfold vP
  have K := Lib.hid (fun w => valid_any x y w)
  generalize validB x y = v at *
  go_enter Try.func86, Try.ntmps86
  go_wp2_with (go_at_call 50; (with_reducible refine (K.out _).mono ?_); rintro e w1 ⟨rfl, hk⟩)
  go_ret
  exact ⟨rfl, ((Keeps.refl _).alloc _).trans hk⟩
set_option maxRecDepth 100000 in
set_option maxHeartbeats 1000000 in
theorem idxf_any (A : Option Addr) (n c : Nat) (L : List Pt) (w : World) (h : Pts w A n c L) :
    Calls Try.prog 95 #[.slice A n c, .func (.func 86) #[] #[]] w fun e w' => e = .returned (.int .i64 (idxV 0 L)) ∧ Keeps w w' := by
  have hl := h.1
  have hmx := h.max
  have HS := Lib.hid h
  clear h
  go_enter Try.func95, Try.ntmps95
  go_wp2_with fail
  go_loopw [8] (fun i wr => ∃ (j : Nat), j ≤ n ∧ i = .int .i64 j ∧ Keeps w wr ∧ Hid (idxV 0 L = idxV j (L.drop j))) (fun i _ => n - (intOf i).toNat)
  case atStart => exact ⟨0, by omega, rfl, Keeps.refl _, Lib.hid rfl⟩
  case round =>
    obtain ⟨j, hj, rfl, hkw, hR⟩ := hrel
    by_cases hlt : j < n
    · obtain ⟨b, o, rfl, hb, hc⟩ := HS.out.2.2.2.2 (by omega)
      obtain ⟨c0, c1⟩ := (hc j hlt).keep hb hkw
      have hD := Lib.hid (drop_getDQ L j pt0 (by omega))
      rw [hD.out] at hR
      have K := Lib.hid (fun w => pv1_any (L.getD j pt0) w)
      generalize L.getD j pt0 = s at *
      have hlt2 : (j : Int) < n := by omega
      clear hc
      cases hv : vP s with
      | false =>
        rw [hv] at K
        have hf := Lib.hid (show idxV 0 L = (j : Int) by rw [hR.out]; unfold idxV; rw [if_neg (by simp [hv])])
        clear hv
        go_wp2_with (go_at_call 86; (with_reducible refine (K.out _).mono ?_); rintro e w1 ⟨rfl, hk⟩)
        go_ret
        exact ⟨ret_i64 hf.out.symm, hkw.trans hk⟩
      | true =>
        rw [hv] at K
        have hR2 := Lib.hid (show idxV 0 L = idxV (j + 1) (L.drop (j + 1)) by rw [hR.out, idxV, if_pos hv])
        clear hv
        go_wp2_with (go_at_call 86; (with_reducible refine (K.out _).mono ?_); rintro e w1 ⟨rfl, hk⟩)
        go_roundw
        case rel => exact ⟨j + 1, by omega, by go_num, hkw.trans hk, hR2⟩
        case measure => simp [intOf]; omega
    · obtain rfl : j = n := by omega
      have hf := Lib.hid (show idxV 0 L = -1 by rw [hR.out, List.drop_of_length_le (by omega)]; rfl)
      go_wp2_with fail
      go_ret
      exact ⟨ret_i64 hf.out.symm, hkw⟩
set_option maxHeartbeats 400000 in
theorem contf_any (A : Option Addr) (n c : Nat) (L : List Pt) (w : World) (h : Pts w A n c L) :
    Calls Try.prog 85 #[.slice A n c, .func (.func 86) #[] #[]] w fun e w' => e = .returned (.bool (!L.all vP)) ∧ Keeps w w' := by
  have K := Lib.hid (idxf_any A n c L w h)
  have hi := Lib.hid (idxV_all L 0)
  generalize idxV 0 L = x at *
  go_enter Try.func85, Try.ntmps85
  go_wp2_with (go_at_call 95; (with_reducible refine K.out.mono ?_); rintro e w1 ⟨rfl, hk⟩)
  go_ret
  refine ⟨ret_bool ?_, hk⟩
  have := hi.out
  cases h : L.all vP <;> simp_all
/-! ### Slices of slices of points -/
def Rws (w : World) (A : Option Addr) (n c : Nat) (LL : List (List Pt)) : Prop :=
  LL.length = n ∧ n ≤ c ∧ c ≤ maxLen ∧ (0 < n → ∃ b o, A = some ⟨b, o, none⟩ ∧ b < w.heap.size ∧ ∀ k, k < n → ∃ Ak nk ck, w.cell? ⟨b, o + k, none⟩ = some (.slice Ak nk ck) ∧ Pts w Ak nk ck (LL.getD k []) ∧ nk ≤ 4611686018427387904)
theorem Rws.keep {w w' : World} {A : Option Addr} {n c : Nat} {LL : List (List Pt)} (h : Rws w A n c LL) (hk : Keeps w w') : Rws w' A n c LL := by
  obtain ⟨h1, h2, h3, h4⟩ := h
  refine ⟨h1, h2, h3, fun hn => ?_⟩
  obtain ⟨b, o, e, hb, hc⟩ := h4 hn
  refine ⟨b, o, e, Nat.lt_of_lt_of_le hb hk.size, fun k hk' => ?_⟩
  obtain ⟨Ak, nk, ck, h5, h6, h7⟩ := hc k hk'
  exact ⟨Ak, nk, ck, (hk.cell hb).trans h5, h6.keep hk, h7⟩
theorem Rws.max {w : World} {A : Option Addr} {n c : Nat} {LL : List (List Pt)} (h : Rws w A n c LL) : (n : Int) ≤ 9223372036854775807 := by
  have h1 := h.2.1; have h2 := h.2.2.1; unfold maxLen at h2; omega
/-- At most 4096 points with those ahead, all valid. -/
def vRows (a : Nat) : List (List Pt) → Bool
  | [] => true
  | r :: rs => if 4096 < a + r.length ∨ r.all vP = false then false else vRows (a + r.length) rs
theorem vRows_one (L : List Pt) : vRows 0 [L] = validL L := by
  unfold vRows validL vRows
  rw [Nat.zero_add]
  by_cases h : L.length ≤ 4096
  · rw [decide_eq_true h]
    cases hv : L.all vP with
    | true => rw [if_neg (by simp; omega)]; rfl
    | false => rw [if_pos (Or.inr rfl)]; rfl
  · rw [decide_eq_false h, if_pos (Or.inl (by omega))]; rfl
theorem Rws.one {w : World} {A : Option Addr} {n c : Nat} {L : List Pt} (h : Pts w A n c L) (hn : n ≤ 4611686018427387904) (t : TypeId) : Rws (w.alloc (.cells #[.slice A n c] t)) (some ⟨w.heap.size, 0, none⟩) 1 1 [L] := by
  refine ⟨rfl, Nat.le_refl _, by unfold maxLen; omega, fun _ => ⟨_, _, rfl, by simp, fun k hk => ?_⟩⟩
  obtain rfl : k = 0 := by omega
  exact ⟨A, n, c, by simp [go_sem], h.keep ((Keeps.refl _).alloc _), hn⟩
set_option maxRecDepth 100000 in
set_option maxHeartbeats 1000000 in
theorem pvalid_any (A : Option Addr) (n c : Nat) (LL : List (List Pt)) (w : World) (h : Rws w A n c LL) :
    Calls Try.prog 73 #[.slice A n c] w fun e w' => e = .returned (.bool (vRows 0 LL)) ∧ Keeps w w' := by
  have hl := h.1
  have hmx := h.max
  have HS := Lib.hid h
  clear h
  go_enter Try.func73, Try.ntmps73
  go_wp2_with fail
  go_loopw [3, 8] (fun a i wr => ∃ (j x : Nat), j ≤ n ∧ i = .int .i64 j ∧ a = .int .i64 x ∧ x ≤ 4096 ∧ Keeps w wr ∧ Hid (vRows 0 LL = vRows x (LL.drop j))) (fun _ i _ => n - (intOf i).toNat)
  case atStart => exact ⟨0, 0, by omega, rfl, rfl, by omega, Keeps.refl _, Lib.hid rfl⟩
  case round =>
    obtain ⟨j, x, hj, rfl, rfl, hx, hkw, hR⟩ := hrel
    by_cases hlt : j < n
    · obtain ⟨b, o, rfl, hb, hc⟩ := HS.out.2.2.2 (by omega)
      obtain ⟨Ak, nk, ck, c0, hP, hnk⟩ := hc j hlt
      have c0 := (hkw.cell hb).trans c0
      have hP := hP.keep hkw
      have hnl := hP.1
      have hnm := hP.2.1
      have hni : (nk : Int) ≤ 4611686018427387904 := by omega
      have hxi : (x : Int) ≤ 4096 := by omega
      have hD := Lib.hid (drop_getDQ LL j [] (by omega))
      rw [hD.out] at hR
      have K := Lib.hid (contf_any Ak nk ck _ wr hP)
      clear hP hc
      generalize LL.getD j [] = s at *
      have hlt2 : (j : Int) < n := by omega
      by_cases hbig : 4096 < x + nk
      · have hf := Lib.hid (show vRows 0 LL = false by rw [hR.out, vRows, if_pos (Or.inl (by omega))])
        have hbig2 : (4096 : Int) < x + nk := by omega
        clear hbig
        go_wp2_with fail
        go_ret
        exact ⟨ret_bool hf.out.symm, hkw⟩
      · have hbig2 : (x : Int) + nk ≤ 4096 := by omega
        have hx2 : x + nk ≤ 4096 := by omega
        clear hbig
        cases hv : s.all vP with
        | false =>
          rw [hv] at K
          have hf := Lib.hid (show vRows 0 LL = false by rw [hR.out, vRows, if_pos (Or.inr hv)])
          clear hv
          go_wp2_with (go_at_call 85; (with_reducible refine K.out.mono ?_); rintro e w1 ⟨rfl, hk⟩)
          go_ret
          exact ⟨ret_bool hf.out.symm, hkw.trans hk⟩
        | true =>
          rw [hv] at K
          have hR2 := Lib.hid (show vRows 0 LL = vRows (x + nk) (LL.drop (j + 1)) by rw [hR.out, vRows, if_neg (by rw [hv]; simp; omega), hnl])
          clear hv
          go_wp2_with (go_at_call 85; (with_reducible refine K.out.mono ?_); rintro e w1 ⟨rfl, hk⟩)
          go_roundw
          case rel => exact ⟨j + 1, x + nk, by omega, by go_num, by go_num, hx2, hkw.trans hk, hR2⟩
          case measure => simp [intOf]; omega
    · obtain rfl : j = n := by omega
      have hf := Lib.hid (show vRows 0 LL = true by rw [hR.out, List.drop_of_length_le (by omega)]; rfl)
      go_wp2_with fail
      go_ret
      exact ⟨ret_bool hf.out.symm, hkw⟩
end Go.Proofs.Ytgkdcipebefmhaa
