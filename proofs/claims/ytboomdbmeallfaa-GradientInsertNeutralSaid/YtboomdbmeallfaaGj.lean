/- Contract of gradient.Table at valid stops. -/
import Derived.Test.YtboomdbmeallfaaGi
import Derived.Laws.OwnMore
namespace Go.Proofs.Ytboomdbmeallfaa
open Go.RowKit
set_option linter.unusedVariables false
set_option linter.unusedSimpArgs false
abbrev Col := Int × Int × Int × Int
def col0 : Col := (0, 0, 0, 0)
def ColAt (w : World) (b o : Nat) (c : Col) : Prop :=
  w.cell? ⟨b, o, none⟩ = some (.int .u8 c.1) ∧ w.cell? ⟨b, o + 1, none⟩ = some (.int .u8 c.2.1) ∧ w.cell? ⟨b, o + 2, none⟩ = some (.int .u8 c.2.2.1) ∧ w.cell? ⟨b, o + 3, none⟩ = some (.int .u8 c.2.2.2)
/-- The slice '.slice A n c' reads as the colors f 0, f 1, .. -/
def Cols (w : World) (A : Option Addr) (n : Nat) (f : Nat → Col) : Prop :=
  n ≤ 4096 ∧ (0 < n → ∃ b o, A = some ⟨b, o, none⟩ ∧ b < w.heap.size ∧ ∀ k, k < n → ColAt w b (o + k * 4) (f k))
theorem ColAt.keep {w w' : World} {b o : Nat} {c : Col} (h : ColAt w b o c) (hb : b < w.heap.size) (hk : Keeps w w') : ColAt w' b o c := by
  obtain ⟨h0, h1, h2, h3⟩ := h
  exact ⟨(hk.cell hb).trans h0, (hk.cell hb).trans h1, (hk.cell hb).trans h2, (hk.cell hb).trans h3⟩
theorem Cols.keep {w w' : World} {A : Option Addr} {n : Nat} {f : Nat → Col} (h : Cols w A n f) (hk : Keeps w w') : Cols w' A n f := by
  refine ⟨h.1, fun hn => ?_⟩
  obtain ⟨b, o, e, hb, hc⟩ := h.2 hn
  exact ⟨b, o, e, Nat.lt_of_lt_of_le hb hk.size, fun k hk' => (hc k hk').keep hb hk⟩
/-- A row of 4-cell elements of the call's own: its cells. -/
theorem row4 {w : World} {B n g : Nat} {e : TypeId} {xs : List Value} (h : w.ownsRow B e 4 (.slice (some ⟨g, 0, none⟩) n n) n xs) (i : Nat) (hi : i < n * 4) : g < w.heap.size ∧ w.cell? ⟨g, i, none⟩ = xs[i]? ∧ w.frozen? ⟨g, i, none⟩ = false ∧ ∃ u, w.cell? ⟨g, i, none⟩ = some u := by
  have hx := h.1
  rcases h.2 with ⟨h', _⟩ | ⟨g', cap', cur, h', hb, hg, hnc, hcm, hcs, htake⟩
  · simp at h'
  · simp only [Value.slice.injEq, Option.some.injEq, Addr.mk.injEq, and_true, true_and] at h'
    obtain ⟨rfl, rfl⟩ := h'
    have e1 : w.cell? ⟨g, i, none⟩ = xs[i]? := by
      rw [cell_of_row w g i cur e (0, 0) hg, ← htake, List.getElem?_take, if_pos hi]; simp
    refine ⟨(Array.getElem?_eq_some_iff.1 hg).1, e1, ?_, ?_⟩
    · unfold World.frozen?; rw [hg]; simp
    · rw [e1, List.getElem?_eq_getElem (by omega)]; exact ⟨_, rfl⟩
def Chunk (xs : List Value) (k : Nat) (c : Col) : Prop := xs[k * 4]? = some (.int .u8 c.1) ∧ xs[k * 4 + 1]? = some (.int .u8 c.2.1) ∧ xs[k * 4 + 2]? = some (.int .u8 c.2.2.1) ∧ xs[k * 4 + 3]? = some (.int .u8 c.2.2.2)
theorem chunk_set (xs : List Value) (n j : Nat) (hl : xs.length = n * 4) (hj : j < n) (f : Nat → Col) (h : ∀ k, k < j → Chunk xs k (f k)) :
    ∀ k, k < j + 1 → Chunk ((((xs.set (j * 4) (.int .u8 (f j).1)).set (j * 4 + 1) (.int .u8 (f j).2.1)).set (j * 4 + 2) (.int .u8 (f j).2.2.1)).set (j * 4 + 3) (.int .u8 (f j).2.2.2)) k (f k) := by
  intro k hk
  unfold Chunk
  simp only [List.getElem?_set, List.length_set]
  by_cases hkj : k = j
  · subst hkj
    simp [show k * 4 < xs.length by omega, show k * 4 + 1 < xs.length by omega, show k * 4 + 2 < xs.length by omega, show k * 4 + 3 < xs.length by omega]
  · obtain ⟨h0, h1, h2, h3⟩ := h k (by omega)
    have q : ∀ a b : Nat, a < 4 → b < 4 → ¬ (j * 4 + a = k * 4 + b) := fun a b ha hb => by omega
    have q0 : ∀ b : Nat, b < 4 → ¬ (j * 4 = k * 4 + b) := fun b hb => by omega
    have r0 : ∀ a : Nat, a < 4 → ¬ (j * 4 + a = k * 4) := fun a hb => by omega
    have s0 : ¬ (j * 4 = k * 4) := by omega
    rw [if_neg (r0 3 (by omega)), if_neg (r0 2 (by omega)), if_neg (r0 1 (by omega)), if_neg s0, if_neg (q 3 1 (by omega) (by omega)), if_neg (q 2 1 (by omega) (by omega)), if_neg (q 1 1 (by omega) (by omega)), if_neg (q0 1 (by omega)),
      if_neg (q 3 2 (by omega) (by omega)), if_neg (q 2 2 (by omega) (by omega)), if_neg (q 1 2 (by omega) (by omega)), if_neg (q0 2 (by omega)), if_neg (q 3 3 (by omega) (by omega)), if_neg (q 2 3 (by omega) (by omega)), if_neg (q 1 3 (by omega) (by omega)), if_neg (q0 3 (by omega))]
    exact ⟨h0, h1, h2, h3⟩
theorem Keeps.toRow {w0 w : World} {B n g : Nat} {e : TypeId} {xs : List Value} {size : Nat} (h : w.ownsRow B e size (.slice (some ⟨g, 0, none⟩) n n) n xs) (hB : w0.heap.size ≤ B) : w0.heap.size ≤ g := by
  rcases h.2 with ⟨h', _⟩ | ⟨g', cap', cur, h', hb, _⟩
  · simp at h'
  · simp only [Value.slice.injEq, Option.some.injEq, Addr.mk.injEq, and_true, true_and] at h'
    obtain ⟨rfl, rfl⟩ := h'
    omega
theorem own4_keep {w w' : World} {B n size : Nat} {e : TypeId} {v : Value} {xs : List Value} (h : w.ownsRow B e size v n xs) (hk : Keeps w w') : w'.ownsRow B e size v n xs := own_keep h hk
theorem set_off (w : World) (g a b : Nat) (u : Value) (h : a ≠ b) : (w.setCell ⟨g, a, none⟩ u).cell? ⟨g, b, none⟩ = w.cell? ⟨g, b, none⟩ :=
  World.cell?_setCell_other _ _ _ _ (fun e => by injection e with _ e2 _; omega)
def tabI (L : List St) (n i : Nat) : Col := cAt L (dvr ((i : Int) * 65536) ((n : Int) - 1))
theorem co_info : (Try.prog.info? 28).map (fun i => (i.zero, i.size, i.bytes)) = some (some (.agg #[.int .u8 0, .int .u8 0, .int .u8 0, .int .u8 0]), 4, 4) := by kernel_rfl
theorem tab_bd (i n : Nat) (hi : i < n) (hn : n ≤ 4096) : -1152921504606846976 ≤ dvr ((i : Int) * 65536) ((n : Int) - 1) ∧ dvr ((i : Int) * 65536) ((n : Int) - 1) ≤ 1152921504606846976 := by
  by_cases hb : (n : Int) - 1 = 0
  · rw [hb, dvr_zero]; omega
  · exact (dvr_Q _ _ hb (by omega)).2
set_option maxRecDepth 100000 in
set_option maxHeartbeats 4000000 in
theorem table_any (A : Option Addr) (m c : Nat) (L : List St) (n : Nat) (w : World) (h : Sts w A m c L) (hv : vB L = true) (n1 : 1 ≤ n) (n2 : n ≤ 4096) :
    Calls Try.prog 28 #[.slice A m c, .int .i64 (n : Int)] w fun e w' => ∃ A', e = .returned (.tuple #[.slice A' n n, .int .i64 0]) ∧ Cols w' A' n (tabI L n) ∧ Keeps w w' := by
  have K1 := Lib.hid (fun w' (hk : Keeps w w') => valid31_any A m c L w' (h.keep hk))
  rw [hv] at K1
  have GC := Lib.hid (fun (t : Int) (l : -9223372036854775808 ≤ t) (u : t ≤ 9223372036854775807) w' (hk : Keeps w w') => colorAt_any A m c L t w' (h.keep hk) l u)
  obtain ⟨i0, hi, hz0, hz1, hz2⟩ := info_parts co_info
  have hk0 := Keeps.refl w
  clear h
  go_enter Try.func28, Try.ntmps28
  go_wp2_with (first | (go_at_call 16; (with_reducible refine (K1.out _ hk0).mono ?_); rintro e w1 ⟨rfl, hk1⟩; replace hk0 := hk0.trans hk1; clear hk1)      | ((with_reducible refine wpList_make_full _ rfl _ _ 40 rfl w.heap.size 28 i0 (.agg #[.int .u8 0, .int .u8 0, .int .u8 0, .int .u8 0]) 4 Try.underlying40 hi hz0 hz1 .i64 .i64 _ _ n rfl rfl (by omega) (by omega) (by rw [hz2]; omega) (by unfold maxLen; omega) hk0.size ?_); intro w2 hown hgrow; replace hk0 := hk0.trans (Below.grown (Below.refl _ _) hgrow (Nat.le_refl _) (fun k hk => by cases hk) : Keeps w1 w2); clear hgrow))
  have hgw := Keeps.toRow (w0 := w) hown (Nat.le_refl _)
  generalize w1.heap.size = g at *
  have hn0 : (1 : Int) ≤ n := by omega
  have hn1 : (n : Int) ≤ 4096 := by omega
  go_loopw [21] (fun i wr => ∃ (j : Nat) (xs : List Value), j ≤ n ∧ i = .int .i64 j ∧ Keeps w wr ∧ wr.ownsRow w.heap.size 28 4 (.slice (some ⟨g, 0, none⟩) n n) n xs ∧ Hid (∀ k, k < j → Chunk xs k (tabI L n k))) (fun i _ => n - (intOf i).toNat)
  case atStart => exact ⟨0, _, by omega, rfl, hk0, hown, Lib.hid (fun k hk => by omega)⟩
  case round =>
    clear hown hk0
    obtain ⟨j, xs, hj, rfl, hkw, hown, hC⟩ := hrel
    by_cases hlt : j < n
    · have bd := tab_bd j n hlt n2
      have G2 := Lib.hid (fun w => dvr_any ((j : Int) * 65536) ((n : Int) - 1) w (by omega) (by omega) (by omega) (by omega))
      have G3 : Hid (∀ w', Keeps w w' → Calls Try.prog 17 #[.slice A m c, .int .i64 (dvr ((j : Int) * 65536) ((n : Int) - 1))] w' fun e w'' => e = .returned (colV (tabI L n j)) ∧ Keeps w' w'') := Lib.hid (GC.out _ (by omega) (by omega))
      have hset := Lib.hid (chunk_set xs n j hown.1 hlt (tabI L n) hC.out)
      have hlt2 : (j : Int) < n := by omega
      clear hC
      generalize tabI L n j = y at *
      generalize dvr ((j : Int) * 65536) ((n : Int) - 1) = x at *
      unfold colV at G3
      have n01 := fun (w : World) (u : Value) => set_off w g (j * 4) (j * 4 + 1) u (by omega)
      have n02 := fun (w : World) (u : Value) => set_off w g (j * 4) (j * 4 + 2) u (by omega)
      have n03 := fun (w : World) (u : Value) => set_off w g (j * 4) (j * 4 + 3) u (by omega)
      have n12 := fun (w : World) (u : Value) => set_off w g (j * 4 + 1) (j * 4 + 2) u (by omega)
      have n13 := fun (w : World) (u : Value) => set_off w g (j * 4 + 1) (j * 4 + 3) u (by omega)
      have n23 := fun (w : World) (u : Value) => set_off w g (j * 4 + 2) (j * 4 + 3) u (by omega)
      go_wp2_with (first | (go_at_call 43; (with_reducible refine (G2.out _).mono ?_); rintro e w3 ⟨rfl, hk3⟩; replace hk3 : Keeps wr w3 := hk3) | (go_at_call 17; (with_reducible refine (G3.out _ (hkw.trans hk3)).mono ?_); rintro e w4 ⟨rfl, hk4⟩; have ho4 := Lib.hid (own4_keep hown (hk3.trans hk4)); have hk5 := Lib.hid (hkw.trans (hk3.trans hk4)); obtain ⟨-, -, f0, u0, e0⟩ := row4 ho4.out (j * 4) (by omega); obtain ⟨-, -, f1, u1, e1⟩ := row4 ho4.out (j * 4 + 1) (by omega); obtain ⟨-, -, f2, u2, e2⟩ := row4 ho4.out (j * 4 + 2) (by omega); obtain ⟨-, -, f3, u3, e3⟩ := row4 ho4.out (j * 4 + 3) (by omega)))
      go_roundw
      case rel => exact ⟨j + 1, _, by omega, by go_num, (((hk5.out.setNew (p := ⟨g, _, none⟩) hgw _).setNew (p := ⟨g, _, none⟩) hgw _).setNew (p := ⟨g, _, none⟩) hgw _).setNew (p := ⟨g, _, none⟩) hgw _, (World.ownsRow.stored (World.ownsRow.stored (World.ownsRow.stored (World.ownsRow.stored ho4.out (j * 4) _).1 (j * 4 + 1) _).1 (j * 4 + 2) _).1 (j * 4 + 3) _).1, hset⟩
      case measure => simp [intOf]; omega
    · obtain rfl : j = n := by omega
      have hcols : Cols wr (some ⟨g, 0, none⟩) j (tabI L j) := ⟨n2, fun _ => ⟨g, 0, rfl, (row4 hown 0 (by omega)).1, fun k hk => by
        obtain ⟨q0, q1, q2, q3⟩ := hC.out k hk
        rw [Nat.zero_add]
        exact ⟨(row4 hown (k * 4) (by omega)).2.1.trans q0, (row4 hown (k * 4 + 1) (by omega)).2.1.trans q1, (row4 hown (k * 4 + 2) (by omega)).2.1.trans q2, (row4 hown (k * 4 + 3) (by omega)).2.1.trans q3⟩⟩⟩
      have hcols := Lib.hid hcols
      clear hown hC
      go_wp2_with fail
      go_ret2
      exact ⟨_, rfl, hcols.out, hkw⟩
end Go.Proofs.Ytboomdbmeallfaa
