/- Contracts of reference 16: copied, Orient. -/
import Derived.Test.YtgkdcipebefmhaaQg
namespace Go.Proofs.Ytgkdcipebefmhaa
open Go.RowKit
attribute [local go_sem ↓] Go.wp_at_zero Go.wp_at_succ
set_option linter.unusedVariables false
set_option linter.unusedSimpArgs false
theorem takeP_succ (o : List Pt) (k : Nat) (h : k < o.length) : o.take (k + 1) = o.take k ++ [o.getD k pt0] := by
  rw [List.take_succ_eq_append_getElem h, List.getD_eq_getElem?_getD, List.getElem?_eq_getElem h]; rfl
theorem revT_get (L : List Pt) (q : Nat) (h1 : 1 ≤ q) (h2 : q < L.length) : (revT L).getD q pt0 = L.getD (L.length - q) pt0 := by
  unfold revT
  rw [List.getD_eq_getElem?_getD, List.getElem?_append_right (by simp; omega), List.getElem?_reverse (by simp; omega), List.getElem?_drop, List.getD_eq_getElem?_getD]
  congr 2
  simp; omega
theorem two_newA (w : World) (s : Pt) (t : TypeId) (H : Nat) (hH : w.heap.size = H) : ∀ j x, (ptV s)[j]? = some x → (w.alloc (.cells (ptV s).toArray t)).cell? ((⟨H, 0, none⟩ : Addr).add j) = some x := hH ▸ two_new w s t
set_option maxRecDepth 100000 in
set_option maxHeartbeats 2000000 in
theorem rcopied_any (A : Option Addr) (n c : Nat) (L : List Pt) (w : World) (h : Pts w A n c L) (hn : n ≤ 1000000000000) :
    Calls Try.prog 62 #[.slice A n c] w (OwnP w L) := by
  obtain ⟨i0, hi, hz0, hz1, hz2⟩ := info_parts pt_info
  have hl := h.1
  have hmx := h.max
  have HA := Lib.hid h
  clear h
  unfold OwnP
  rw [hl]
  go_enter Try.func62, Try.ntmps62
  go_wp2_with fail
  go_loopw [3, 4] (fun v i wr => ∃ j : Nat, j ≤ n ∧ i = .int .i64 j ∧ Keeps w wr ∧ wr.ownsRow w.heap.size 28 2 v j (rowP (L.take j))) (fun _ i _ => n - (intOf i).toNat)
  case atStart => exact ⟨0, by omega, rfl, (Keeps.refl _).alloc _, World.ownsRow_lit w #[] 0 (Nat.le_refl _) (by unfold maxLen; omega) (by simp)⟩
  case round =>
    obtain ⟨j, hj, rfl, hkw, hown⟩ := hrel
    by_cases hlt : j < n
    · obtain ⟨b, o, rfl, hb, hC⟩ := HA.out.2.2.2.2 (by omega)
      obtain ⟨c0, c1⟩ := (hC j hlt).keep hb hkw
      have hT := Lib.hid (takeP_succ L j (by omega))
      have hlt2 : (j : Int) < n := by omega
      clear hC
      generalize L.getD j pt0 = p at *
      go_wp2_with (at_builtin; refine wpList_append_own _ rfl _ _ 32 rfl w.heap.size 28 i0 (.agg #[.int .i64 0, .int .i64 0]) 2 16 Try.underlying32 hi hz0 hz1 hz2 rfl (by decide) _ _ _ rfl ((hown).alloc _) ⟨wr.heap.size, 0, none⟩ 1 1 (ptV p) rfl rfl (two_newA wr _ _ _ (by simp)) (oneCell_ptV _) (by unfold maxLen; omega) (by omega) (by have := (hkw).size; simp at this ⊢; omega) ?_; intro v1 w1 hown1 hgrow1 hz9; clear hz9; have hk1 := below_own (hkw) rfl (hown) hgrow1; clear hgrow1; rw [← rowP_one, ← rowP_append] at hown1)
      go_roundw
      case rel => exact ⟨j + 1, by omega, by go_num, hk1, by rw [hT.out]; exact hown1⟩
      case measure => simp [intOf]; omega
    · obtain rfl : j = n := by omega
      rw [List.take_of_length_le (by omega)] at hown
      have hown := Lib.hid hown
      go_wp2_with fail
      go_ret
      exact ⟨_, rfl, hown.out, hkw⟩
set_option maxRecDepth 100000 in
set_option maxHeartbeats 2000000 in
theorem rorient_any (A : Option Addr) (n c : Nat) (L : List Pt) (w : World) (h : Pts w A n c L) (hn : n ≤ 1000000000000) :
    Calls Try.prog 48 #[.slice A n c] w (OwnP w (orient L)) := by
  obtain ⟨i0, hi, hz0, hz1, hz2⟩ := info_parts pt_info
  have hl := h.1
  have hmx := h.max
  have K1 := Lib.hid (rdarea_any A n c L w h (by omega))
  have K2 := Lib.hid (fun w1 (hk : Keeps w w1) => rcopied_any A n c L w1 (h.keep hk) hn)
  have HA := Lib.hid h
  clear h
  rcases Int.lt_trichotomy (area L) 0 with h0 | h0 | h0
  · have h2 : 2 ≤ n := by
      rcases Nat.lt_or_ge L.length 2 with h3 | h3
      · have := area_short h3; omega
      · omega
    have hE : orient L = revT L := by unfold orient; rw [if_neg (by omega), if_pos h0]
    unfold OwnP
    rw [hE, revT_length, hl]
    have hrl := revT_length L
    have hg := Lib.hid (revT_get L)
    have hr0 := Lib.hid (show (revT L).take 1 = [L.getD 0 pt0] by
      unfold revT
      rw [List.take_append_of_le_length (by simp; omega), List.take_take, Nat.min_self, takeP_succ L 0 (by omega)]; rfl)
    rw [hl] at hg hrl
    have hrl := Lib.hid hrl
    have t1 : decide (0 < area L) = false := decide_eq_false (by omega)
    have t2 : decide (area L < 0) = true := decide_eq_true h0
    clear hE
    generalize revT L = R at *
    generalize area L = x at *
    obtain ⟨b, o, rfl, hb, hC⟩ := HA.out.2.2.2.2 (by omega)
    have hC := Lib.hid hC
    have hC0 := hC.out 0 (by omega)
    have HC0 := Lib.hid (show ∀ w1, Keeps w w1 → w1.cell? ⟨b, o, none⟩ = some (.int .i64 (L.getD 0 pt0).1) ∧ w1.cell? ⟨b, o + 1, none⟩ = some (.int .i64 (L.getD 0 pt0).2) from fun w1 hk => by have := hC0.keep hb hk; rw [Nat.zero_mul, Nat.add_zero] at this; exact this)
    have hn0 : (0 : Int) < n := by omega
    have hn1 : 0 < n := by omega
    clear hC0 h0 h2
    generalize L.getD 0 pt0 = p at *
    go_enter Try.func48, Try.ntmps48
    go_wp2_with (first | (go_at_call 17; (with_reducible refine K1.out.mono ?_); rintro e wa ⟨rfl, hk⟩; obtain ⟨z0, z1⟩ := HC0.out _ (hk.alloc (.cells #[] 28)); have hkA := hk.alloc (.cells #[] 28); have hoo : (wa.alloc (.cells #[] 28)).ownsRow w.heap.size 28 2 (.slice (some ⟨wa.heap.size, 0, none⟩) 0 0) 0 (rowP []) := own_base (World.ownsRow_lit (e := 28) (size := 2) wa #[] 0 (Nat.le_refl _) (by unfold maxLen; omega) (by simp)) hk.size) | (at_builtin; refine wpList_append_own _ rfl _ _ 32 rfl w.heap.size 28 i0 (.agg #[.int .i64 0, .int .i64 0]) 2 16 Try.underlying32 hi hz0 hz1 hz2 rfl (by decide) _ _ _ rfl ((hoo).alloc _) ⟨wa.heap.size + 1, 0, none⟩ 1 1 (ptV p) rfl rfl (two_newA (wa.alloc (.cells #[] 28)) _ _ _ (by simp)) (oneCell_ptV _) (by unfold maxLen; omega) (by omega) (by have := (hkA).size; simp at this ⊢; omega) ?_; intro v1 w1 hown1 hgrow1 hz9; clear hz9; have hk1 := below_own (hkA) rfl (hoo) hgrow1; clear hgrow1; rw [← rowP_one, ← rowP_append] at hown1))
    clear hoo z0 z1 K1 hk hkA
    go_loopw [4, 5] (fun v i wr => ∃ k : Nat, k + 1 ≤ n ∧ i = .int .i64 ((n : Int) - 1 - k) ∧ Keeps w wr ∧ wr.ownsRow w.heap.size 28 2 v (k + 1) (rowP (R.take (k + 1)))) (fun _ i _ => (intOf i).toNat)
    case atStart => exact ⟨0, by omega, by go_num, hk1, by rw [hr0.out]; exact hown1⟩
    case round =>
      clear hk1 hown1
      obtain ⟨k, hk, rfl, hkw, hown⟩ := hrel
      by_cases hlt : k + 1 < n
      · obtain ⟨q, hq⟩ : ∃ q : Nat, (n : Int) - 1 - k = q := ⟨n - 1 - k, by omega⟩
        rw [hq]
        have hq2 : n - (k + 1) = q := by omega
        have hqn : q < n := by omega
        obtain ⟨c0, c1⟩ := (hC.out q hqn).keep hb hkw
        have hT := Lib.hid ((takeP_succ R (k + 1) (by rw [hrl.out]; omega)).trans (congrArg (fun x => R.take (k + 1) ++ [x]) ((hg.out (k + 1) (by omega) hlt).trans (by rw [hq2]))))
        have hqi : (q : Int) < n := by omega
        have hq0 : (0 : Int) < q := by omega
        have hq1 : 0 < q := by omega
        have hqq := Lib.hid hq
        clear hq hq2
        generalize L.getD q pt0 = y at *
        go_wp2_with (at_builtin; refine wpList_append_own _ rfl _ _ 32 rfl w.heap.size 28 i0 (.agg #[.int .i64 0, .int .i64 0]) 2 16 Try.underlying32 hi hz0 hz1 hz2 rfl (by decide) _ _ _ rfl ((hown).alloc _) ⟨wr.heap.size, 0, none⟩ 1 1 (ptV y) rfl rfl (two_newA wr _ _ _ (by simp)) (oneCell_ptV _) (by unfold maxLen; omega) (by omega) (by have := (hkw).size; simp at this ⊢; omega) ?_; intro v1 w1 hown1 hgrow1 hz9; clear hz9; have hk1 := below_own (hkw) rfl (hown) hgrow1; clear hgrow1; rw [← rowP_one, ← rowP_append] at hown1)
        go_roundw
        case rel => exact ⟨k + 1, by omega, by have := hqq.out; congr 1; omega, hk1, by rw [hT.out]; exact hown1⟩
        case measure => simp [intOf]; omega
      · have hkn : k + 1 = n := by omega
        have hz : (n : Int) - 1 - k = 0 := by omega
        rw [hz]
        rw [hkn, List.take_of_length_le (by rw [hrl.out]; omega)] at hown
        have hown := Lib.hid hown
        clear hkn hz
        go_wp2_with fail
        go_ret
        exact ⟨_, rfl, hown.out, hkw⟩
  · have hE : orient L = [] := by unfold orient; rw [if_neg (by omega), if_neg (by omega)]
    rw [hE]
    have t1 : decide (0 < area L) = false := decide_eq_false (by omega)
    have t2 : decide (area L < 0) = false := decide_eq_false (by omega)
    clear hE
    generalize area L = x at *
    go_enter Try.func48, Try.ntmps48
    go_wp2_with (first | (go_at_call 17; (with_reducible refine K1.out.mono ?_); rintro e w1 ⟨rfl, hk⟩))
    go_ret
    exact ⟨_, rfl, own_base (World.ownsRow_lit w1 #[] 0 (Nat.le_refl _) (by unfold maxLen; omega) (by simp)) hk.size, hk.alloc _⟩
  · have hE : orient L = L := by unfold orient; rw [if_pos h0]
    rw [hE]
    have t1 : decide (0 < area L) = true := decide_eq_true h0
    clear hE
    generalize area L = x at *
    go_enter Try.func48, Try.ntmps48
    go_wp2_with (first | (go_at_call 17; (with_reducible refine K1.out.mono ?_); rintro e w1 ⟨rfl, hk⟩; have hk := Lib.hid hk) | (go_at_call 62; (with_reducible refine (K2.out _ hk.out).mono ?_); rintro e w2 ⟨v, rfl, hown, hk2⟩; have hown := Lib.hid hown; have hk2 := Lib.hid hk2))
    go_ret
    exact ⟨_, rfl, own_base hown.out hk.out.size, hk.out.trans hk2.out⟩
end Go.Proofs.Ytgkdcipebefmhaa
