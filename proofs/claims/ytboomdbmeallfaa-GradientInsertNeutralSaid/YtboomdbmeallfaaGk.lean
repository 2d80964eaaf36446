/- Contracts of Table (the errors, both), of reference 31's Table and Colors. -/
import Derived.Test.YtboomdbmeallfaaGj
namespace Go.Proofs.Ytboomdbmeallfaa
open Go.RowKit
set_option linter.unusedVariables false
set_option linter.unusedSimpArgs false
set_option maxRecDepth 100000 in
theorem tab_inv (A : Option Addr) (m c : Nat) (L : List St) (n : Int) (w : World) (h : Sts w A m c L) (hv : vB L = false) :
    Calls Try.prog 28 #[.slice A m c, .int .i64 n] w fun e w' => e = .returned (.tuple #[.slice none 0 0, .int .i64 2]) ∧ Keeps w w' := by
  have K1 := Lib.hid (fun w' (hk : Keeps w w') => valid31_any A m c L w' (h.keep hk))
  rw [hv] at K1
  have hk0 := Keeps.refl w
  clear h
  go_enter Try.func28, Try.ntmps28
  go_wp2_with (go_at_call 16; (with_reducible refine (K1.out _ hk0).mono ?_); rintro e w1 ⟨rfl, hk1⟩)
  go_ret2
  exact ⟨rfl, hk1⟩
set_option maxRecDepth 100000 in
theorem tab_low (A : Option Addr) (m c : Nat) (L : List St) (n : Int) (w : World) (h : Sts w A m c L) (hv : vB L = true) (hn : n < 1) :
    Calls Try.prog 28 #[.slice A m c, .int .i64 n] w fun e w' => e = .returned (.tuple #[.slice none 0 0, .int .i64 2]) ∧ Keeps w w' := by
  have K1 := Lib.hid (fun w' (hk : Keeps w w') => valid31_any A m c L w' (h.keep hk))
  rw [hv] at K1
  have hk0 := Keeps.refl w
  clear h
  go_enter Try.func28, Try.ntmps28
  go_wp2_with (go_at_call 16; (with_reducible refine (K1.out _ hk0).mono ?_); rintro e w1 ⟨rfl, hk1⟩)
  go_ret2
  exact ⟨rfl, hk1⟩
set_option maxRecDepth 100000 in
theorem tab_high (A : Option Addr) (m c : Nat) (L : List St) (n : Int) (w : World) (h : Sts w A m c L) (hv : vB L = true) (hn : 4096 < n) :
    Calls Try.prog 28 #[.slice A m c, .int .i64 n] w fun e w' => e = .returned (.tuple #[.slice none 0 0, .int .i64 5]) ∧ Keeps w w' := by
  have K1 := Lib.hid (fun w' (hk : Keeps w w') => valid31_any A m c L w' (h.keep hk))
  rw [hv] at K1
  have hk0 := Keeps.refl w
  clear h
  go_enter Try.func28, Try.ntmps28
  go_wp2_with (go_at_call 16; (with_reducible refine (K1.out _ hk0).mono ?_); rintro e w1 ⟨rfl, hk1⟩)
  go_ret2
  exact ⟨rfl, hk1⟩
set_option maxRecDepth 100000 in
theorem rtab_inv (A : Option Addr) (m c : Nat) (L : List St) (n : Int) (w : World) (h : Sts w A m c L) (hv : vB L = false) :
    Calls Try.prog 29 #[.slice A m c, .int .i64 n] w fun e w' => e = .returned (.tuple #[.slice none 0 0, .int .i64 2]) ∧ Keeps w w' := by
  have K1 := Lib.hid (fun w' (hk : Keeps w w') => rvalid31_any A m c L w' (h.keep hk))
  rw [hv] at K1
  have hk0 := Keeps.refl w
  clear h
  go_enter Try.func29, Try.ntmps29
  go_wp2_with (go_at_call 22; (with_reducible refine (K1.out _ hk0).mono ?_); rintro e w1 ⟨rfl, hk1⟩)
  go_ret2
  exact ⟨rfl, hk1⟩
set_option maxRecDepth 100000 in
theorem rtab_low (A : Option Addr) (m c : Nat) (L : List St) (n : Int) (w : World) (h : Sts w A m c L) (hv : vB L = true) (hn : n < 1) :
    Calls Try.prog 29 #[.slice A m c, .int .i64 n] w fun e w' => e = .returned (.tuple #[.slice none 0 0, .int .i64 2]) ∧ Keeps w w' := by
  have K1 := Lib.hid (fun w' (hk : Keeps w w') => rvalid31_any A m c L w' (h.keep hk))
  rw [hv] at K1
  have hk0 := Keeps.refl w
  clear h
  go_enter Try.func29, Try.ntmps29
  go_wp2_with (go_at_call 22; (with_reducible refine (K1.out _ hk0).mono ?_); rintro e w1 ⟨rfl, hk1⟩)
  go_ret2
  exact ⟨rfl, hk1⟩
set_option maxRecDepth 100000 in
theorem rtab_high (A : Option Addr) (m c : Nat) (L : List St) (n : Int) (w : World) (h : Sts w A m c L) (hv : vB L = true) (hn : 4096 < n) :
    Calls Try.prog 29 #[.slice A m c, .int .i64 n] w fun e w' => e = .returned (.tuple #[.slice none 0 0, .int .i64 5]) ∧ Keeps w w' := by
  have K1 := Lib.hid (fun w' (hk : Keeps w w') => rvalid31_any A m c L w' (h.keep hk))
  rw [hv] at K1
  have hk0 := Keeps.refl w
  clear h
  go_enter Try.func29, Try.ntmps29
  go_wp2_with (go_at_call 22; (with_reducible refine (K1.out _ hk0).mono ?_); rintro e w1 ⟨rfl, hk1⟩)
  go_ret2
  exact ⟨rfl, hk1⟩
theorem chunk_app (xs : List Value) (j : Nat) (hl : xs.length = j * 4) (f : Nat → Col) (h : ∀ k, k < j → Chunk xs k (f k)) :
    ∀ k, k < j + 1 → Chunk (xs ++ [.int .u8 (f j).1, .int .u8 (f j).2.1, .int .u8 (f j).2.2.1, .int .u8 (f j).2.2.2]) k (f k) := by
  intro k hk
  unfold Chunk
  by_cases hkj : k = j
  · subst hkj
    rw [List.getElem?_append_right (by omega), List.getElem?_append_right (by omega), List.getElem?_append_right (by omega), List.getElem?_append_right (by omega)]
    rw [show k * 4 - xs.length = 0 by omega, show k * 4 + 1 - xs.length = 1 by omega, show k * 4 + 2 - xs.length = 2 by omega, show k * 4 + 3 - xs.length = 3 by omega]
    exact ⟨rfl, rfl, rfl, rfl⟩
  · obtain ⟨h0, h1, h2, h3⟩ := h k (by omega)
    rw [List.getElem?_append_left (by omega), List.getElem?_append_left (by omega), List.getElem?_append_left (by omega), List.getElem?_append_left (by omega)]
    exact ⟨h0, h1, h2, h3⟩
theorem four_new (w : World) (u0 u1 u2 u3 : Value) (t : TypeId) : ∀ j x, [u0, u1, u2, u3][j]? = some x → (w.alloc (.cells #[u0, u1, u2, u3] t)).cell? ((⟨w.heap.size, 0, none⟩ : Addr).add j) = some x := by
  intro j x hx
  match j, hx with
  | 0, hx => simp at hx; subst hx; simp [Addr.add]
  | 1, hx => simp at hx; subst hx; simp [Addr.add]
  | 2, hx => simp at hx; subst hx; simp [Addr.add]
  | 3, hx => simp at hx; subst hx; simp [Addr.add]
theorem Cols.of_own {w : World} {base n : Nat} {e : TypeId} {v : Value} {xs : List Value} {f : Nat → Col} (h : w.ownsRow base e 4 v n xs) (hn : n ≤ 4096) (hc : ∀ k, k < n → Chunk xs k (f k)) : ∃ A c, v = .slice A n c ∧ Cols w A n f := by
  obtain ⟨A, c, rfl, h1, h2, h3, h4⟩ := SlA.of_own h
  refine ⟨A, c, rfl, hn, fun hp => ?_⟩
  obtain ⟨b, o, rfl, hb, hx⟩ := h4 hp
  refine ⟨b, o, rfl, hb, fun k hk => ?_⟩
  obtain ⟨q0, q1, q2, q3⟩ := hc k hk
  exact ⟨(hx (k * 4) (by omega)).trans q0, (hx (k * 4 + 1) (by omega)).trans q1, (hx (k * 4 + 2) (by omega)).trans q2, (hx (k * 4 + 3) (by omega)).trans q3⟩
theorem tabI_0 (L : List St) (n : Nat) (h1 : 1 ≤ n) : tabI L n 0 = cAt L 0 := by
  unfold tabI
  rw [show ((0 : Nat) : Int) * 65536 = 0 from rfl]
  by_cases hb : (n : Int) - 1 = 0
  · rw [hb, dvr_zero]
  · rw [dvr_none _ (by omega)]
set_option maxRecDepth 100000 in
set_option maxHeartbeats 4000000 in
theorem rtable_any (A : Option Addr) (m c : Nat) (L : List St) (n : Nat) (w : World) (h : Sts w A m c L) (hv : vB L = true) (n1 : 1 ≤ n) (n2 : n ≤ 4096) :
    Calls Try.prog 29 #[.slice A m c, .int .i64 (n : Int)] w fun e w' => ∃ A' c', e = .returned (.tuple #[.slice A' n c', .int .i64 0]) ∧ Cols w' A' n (tabI L n) ∧ Keeps w w' := by
  have K1 := Lib.hid (fun w' (hk : Keeps w w') => rvalid31_any A m c L w' (h.keep hk))
  rw [hv] at K1
  have GC := Lib.hid (fun (t : Int) (l : -9223372036854775808 ≤ t) (u : t ≤ 9223372036854775807) w' (hk : Keeps w w') => rcolorAt_any A m c L t w' (h.keep hk) l u)
  have K0 : Hid (∀ w', Keeps w w' → Calls Try.prog 19 #[.slice A m c, .int .i64 0] w' fun e w'' => e = .returned (colV (tabI L n 0)) ∧ Keeps w' w'') := Lib.hid (by rw [tabI_0 L n n1]; exact GC.out 0 (by omega) (by omega))
  obtain ⟨i0, hi, hz0, hz1, hz2⟩ := info_parts co_info
  have hk0 := Keeps.refl w
  have hn0 : (1 : Int) ≤ n := by omega
  have hn1 : (n : Int) ≤ 4096 := by omega
  clear h
  have hc0 : Hid (∀ k, k < 1 → Chunk [.int .u8 (tabI L n 0).1, .int .u8 (tabI L n 0).2.1, .int .u8 (tabI L n 0).2.2.1, .int .u8 (tabI L n 0).2.2.2] k (tabI L n k)) := Lib.hid (by intro k hk; obtain rfl := Nat.lt_one_iff.1 hk; exact ⟨rfl, rfl, rfl, rfl⟩)
  generalize tabI L n 0 = y0 at K0 hc0
  unfold colV at K0
  go_enter Try.func29, Try.ntmps29
  go_wp2_with (first | (go_at_call 22; (with_reducible refine (K1.out _ hk0).mono ?_); rintro e w1 ⟨rfl, hk1⟩; replace hk0 := hk0.trans hk1; clear hk1) | (go_at_call 19; (with_reducible refine (K0.out _ hk0).mono ?_); rintro e w2 ⟨rfl, hk2⟩; replace hk0 := hk0.trans hk2; clear hk2))
  have hown0 := World.ownsRow_lit w2 #[.int .u8 y0.1, .int .u8 y0.2.1, .int .u8 y0.2.2.1, .int .u8 y0.2.2.2] 1 (base := w.heap.size) (e := 28) (size := 4) hk0.size (by unfold maxLen; omega) (by simp)
  go_loopw [6, 7] (fun v i wr => ∃ (j : Nat) (xs : List Value), 1 ≤ j ∧ j ≤ n ∧ i = .int .i64 j ∧ Keeps w wr ∧ wr.ownsRow w.heap.size 28 4 v j xs ∧ Hid (∀ k, k < j → Chunk xs k (tabI L n k))) (fun _ i _ => n - (intOf i).toNat)
  case atStart => exact ⟨1, _, Nat.le_refl _, n1, rfl, hk0.alloc _, hown0, hc0⟩
  case round =>
    clear hown0 hc0 K0 hk0
    obtain ⟨j, xs, hj1, hj, rfl, hkw, hown, hC⟩ := hrel
    by_cases hlt : j < n
    · have bd := tab_bd j n hlt n2
      have G2 := Lib.hid (fun w => rdvr_any ((j : Int) * 65536) ((n : Int) - 1) w (by omega) (by omega) (by omega) (by omega))
      have G3 : Hid (∀ w', Keeps w w' → Calls Try.prog 19 #[.slice A m c, .int .i64 (dvr ((j : Int) * 65536) ((n : Int) - 1))] w' fun e w'' => e = .returned (colV (tabI L n j)) ∧ Keeps w' w'') := Lib.hid (GC.out _ (by omega) (by omega))
      have hset := Lib.hid (chunk_app xs j hown.1 (tabI L n) hC.out)
      have hlt2 : (j : Int) < n := by omega
      clear hC
      generalize tabI L n j = y at *
      generalize dvr ((j : Int) * 65536) ((n : Int) - 1) = x at *
      unfold colV at G3
      go_wp2_with (first | (go_at_call 44; (with_reducible refine (G2.out _).mono ?_); rintro e w3 ⟨rfl, hk3⟩; replace hk3 : Keeps wr w3 := hk3) | (go_at_call 19; (with_reducible refine (G3.out _ (hkw.trans hk3)).mono ?_); rintro e w4 ⟨rfl, hk4⟩; have ho4 := own4_keep hown (hk3.trans hk4); have hk5 := hkw.trans (hk3.trans hk4)) | (at_builtin; refine wpList_append_own _ rfl _ _ 40 rfl w.heap.size 28 i0 (.agg #[.int .u8 0, .int .u8 0, .int .u8 0, .int .u8 0]) 4 4 Try.underlying40 hi hz0 hz1 hz2 rfl (by decide) _ _ _ rfl (ho4.alloc _) ⟨w4.heap.size, 0, none⟩ 1 1 [.int .u8 y.1, .int .u8 y.2.1, .int .u8 y.2.2.1, .int .u8 y.2.2.2] rfl rfl (four_new _ _ _ _ _ _) (by intro u hu; simp at hu; rcases hu with rfl | rfl | rfl | rfl <;> rfl) (by unfold maxLen; omega) (by omega) (by have := hk5.size; simp; omega) ?_; intro v1 w6 hown1 hgrow1 _; have hk6 := below_own hk5 rfl ho4 hgrow1; clear hgrow1))
      go_roundw
      case rel => exact ⟨j + 1, _, by omega, by omega, by go_num, hk6, hown1, hset⟩
      case measure => simp [intOf]; omega
    · obtain rfl : j = n := by omega
      obtain ⟨A', c', rfl, hcols⟩ := Cols.of_own hown n2 hC.out
      have hcols := Lib.hid hcols
      clear hown hC
      go_wp2_with fail
      go_ret2
      exact ⟨_, _, rfl, hcols.out, hkw⟩
set_option maxRecDepth 100000 in
set_option maxHeartbeats 2000000 in
theorem colors_any (A B : Option Addr) (n c c2 : Nat) (f : Nat → Col) (w : World) (h : Cols w A n f) (h2 : Cols w B n f) :
    Calls Try.prog 30 #[.slice A n c, .slice B n c2] w fun e w' => e = .returned (.bool true) ∧ Keeps w w' := by
  have g3 := coGuard
  have g5 := coNeq
  have hmx : (n : Int) ≤ 4096 := by have := h.1; omega
  have HA := Lib.hid h.2
  have HB := Lib.hid h2.2
  clear h h2
  go_enter Try.func30, Try.ntmps30
  go_wp2_with fail
  go_loopw [5] (fun i wr => ∃ j : Nat, j ≤ n ∧ i = .int .i64 j ∧ Keeps w wr) (fun i _ => n - (intOf i).toNat)
  case atStart => exact ⟨0, by omega, rfl, Keeps.refl _⟩
  case round =>
    obtain ⟨j, hj, rfl, hkw⟩ := hrel
    by_cases hlt : j < n
    · obtain ⟨b1, o1, rfl, hb1, hc1⟩ := HA.out (by omega)
      obtain ⟨b2, o2, rfl, hb2, hc2⟩ := HB.out (by omega)
      obtain ⟨c0, c1, c2, c3⟩ := (hc1 j hlt).keep hb1 hkw
      obtain ⟨d0, d1, d2, d3⟩ := (hc2 j hlt).keep hb2 hkw
      clear hc1 hc2 HA HB
      have q1 := eq4_refl (f j).1 (f j).2.1 (f j).2.2.1 (f j).2.2.2
      have hlt2 : (j : Int) < n := by omega
      generalize f j = y at *
      go_wp2_with fail
      go_quiet (fail)
      go_wp2_with fail
      go_roundw
      case rel => exact ⟨j + 1, by omega, by go_num, hkw.drewN _⟩
      case measure => simp [intOf]; omega
    · obtain rfl : j = n := by omega
      go_wp2_with fail
      go_ret
      exact ⟨rfl, hkw⟩
end Go.Proofs.Ytboomdbmeallfaa
