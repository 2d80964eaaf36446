/- Contract of gradient.InsertStop. -/
import Derived.Test.YtboomdbmeallfaaGs
import Derived.Test.YtboomdbmeallfaaGw
import Derived.Test.YtboomdbmeallfaaGy
import Derived.RegionTactic
import Derived.Deep.RegionHeld3
namespace Go.Proofs.Ytboomdbmeallfaa
section
open Go.RowKit
set_option linter.unusedVariables false
set_option linter.unusedSimpArgs false
theorem Keeps.heapAt {w0 w : World} (h : Keeps w0 w) {k : Nat} (hk : k < w0.heap.size) : w.heap[k]? = w0.heap[k]? := Below.block h k hk
theorem rev5_all (B g cap n : Nat) (M : List St) (w : World) (hown : w.ownsRow B 31 5 (.slice (some ⟨g, 0, none⟩) n cap) n (rowS M)) (hM : M.length = n) (hn : n ≤ 1000000000000) :
    Calls Try.prog 47 #[.slice (some ⟨g, 0, none⟩) n cap] w fun e w' => e = .returned (.tuple #[]) ∧
      w'.ownsRow B 31 5 (.slice (some ⟨g, 0, none⟩) n cap) n (rowS M.reverse) ∧ ∀ w0, Keeps w0 w → w0.heap.size ≤ B → Keeps w0 w' := by
  have h := rev5_any B g cap n 0 n cap M w hown hM (by omega) hn
  rw [List.take_zero, List.drop_zero, List.nil_append, Nat.zero_mul] at h
  exact h
theorem rowS_set1 : ∀ (M : List St) (x : Int) (a : Nat), a < M.length → (rowS M).set (a * 5) (.int .i64 x) = rowS (M.set a (x, (M.getD a st0).2))
  | [], x, a, h => by simp at h
  | y :: r, x, 0, _ => by simp [rowS, stV]
  | y :: r, x, a + 1, h => by
    have ih := rowS_set1 r x a (by simpa using h)
    rw [List.set_cons_succ, rowS, rowS, List.getD_cons_succ, ← ih, List.set_append_right _ _ (by simp [stV]; omega)]
    congr 2
    simp [stV]; omega
/-- the first j stops flipped -/
def flipTo (L : List St) (j : Nat) : List St := (L.take j).map flip5 ++ L.drop j
theorem flipTo_0 (L : List St) : flipTo L 0 = L := by simp [flipTo]
theorem flipTo_all (L : List St) (j : Nat) (h : L.length ≤ j) : flipTo L j = L.map flip5 := by simp [flipTo, List.take_of_length_le h, List.drop_of_length_le h]
theorem flipTo_len (L : List St) (j : Nat) : (flipTo L j).length = L.length := by simp [flipTo]; omega
theorem flipTo_get (L : List St) (j : Nat) (h : j < L.length) : (flipTo L j).getD j st0 = L.getD j st0 := by
  unfold flipTo
  rw [List.getD_eq_getElem?_getD, List.getElem?_append_right (by simp; omega), List.length_map, List.length_take, Nat.min_eq_left (by omega), Nat.sub_self, List.getElem?_drop, Nat.add_zero, List.getD_eq_getElem?_getD]
theorem flipTo_set (L : List St) (j : Nat) (h : j < L.length) : (flipTo L j).set j (65536 - (L.getD j st0).1, (L.getD j st0).2) = flipTo L (j + 1) := by
  unfold flipTo
  have e1 : ((L.take j).map flip5).length = j := by simp; omega
  rw [List.set_append_right _ _ (by omega), e1, Nat.sub_self, take_succ' L j h, List.map_append, drop_getD L j st0 h]
  simp [flip5]
theorem Sts.nil (w : World) : Sts w none 0 0 [] := ⟨rfl, Nat.le_refl _, Nat.zero_le _, (fun s hs => by cases hs), fun h => absurd h (by simp)⟩
set_option maxRecDepth 100000 in
set_option maxHeartbeats 4000000 in
theorem grev5_any (A : Option Addr) (n c : Nat) (L : List St) (w : World) (h : Sts w A n c L) :
    Calls Try.prog 34 #[.slice A n c] w fun e w' => ∃ A' c', e = .returned (.slice A' (mirS L).length c') ∧ Sts w' A' (mirS L).length c' (mirS L) ∧ Keeps w w' := by
  have hl := h.1
  have KV := Lib.hid (fun w' (hk : Keeps w w') => valid31_any A n c L w' (h.keep hk))
  have HA := Lib.hid h
  have hk0 := Keeps.refl w
  clear h
  cases hv : vB L with
  | false =>
    rw [hv] at KV
    have e : mirS L = [] := by unfold mirS; rw [hv, if_neg (by decide)]
    rw [e]
    clear e hv HA
    go_enter Try.func34, Try.ntmps34
    go_wp2_with (go_at_call 16; (with_reducible refine (KV.out _ hk0).mono ?_); rintro e w1 ⟨rfl, hk⟩)
    go_ret
    exact ⟨_, _, rfl, Sts.nil _, hk⟩
  | true =>
    rw [hv] at KV
    have e : mirS L = revS L := by unfold mirS; rw [hv, if_pos rfl]
    rw [e, revS_length, hl]
    obtain ⟨n1, n2, -, hrg⟩ := vB_range hv
    have hRg := Lib.hid hrg
    have hRo := Lib.hid (revS_ok L HA.out.2.2.2.1)
    have hRl := Lib.hid ((revS_length L).trans hl)
    have hRe := Lib.hid (show L.reverse.map flip5 = revS L from rfl)
    have hn1 : 0 < n := by omega
    have hn16 : n ≤ 16 := by omega
    have hMl : L.reverse.length = n := by simp; omega
    have hMr := Lib.hid (fun k (hk : k < n) => show 0 ≤ (L.reverse.getD k st0).1 ∧ (L.reverse.getD k st0).1 ≤ 65536 from by
      rw [List.getD_eq_getElem?_getD, List.getElem?_reverse (by omega), ← List.getD_eq_getElem?_getD]
      exact hrg _ (by omega))
    have KC := Lib.hid (fun w' (hk : Keeps w w') => clone5_any A n c L w' (HA.out.keep hk) (by omega))
    clear e hv hrg n1 n2 hRg
    go_enter Try.func34, Try.ntmps34
    go_wp2_with (first | (go_at_call 16; (with_reducible refine (KV.out _ hk0).mono ?_); rintro e w1 ⟨rfl, hk1⟩) | (go_at_call 46; (with_reducible refine (KC.out _ hk1).mono ?_); rintro e w2 ⟨v, rfl, hown, hk2⟩; obtain ⟨g, cap, rfl, hnc, hBg, -⟩ := own_slice hown hn1) | (go_at_call 47; (with_reducible refine (rev5_all w1.heap.size g cap n L w2 hown hl (by omega)).mono ?_); rintro e w3 ⟨rfl, hown3, hk3⟩))
    have hk4 := hk3 w (hk1.trans hk2) hk1.size
    have hs1 := hk1.size
    generalize L.reverse = M at *
    have hO3 := Lib.hid hown3
    clear hown hown3 hk3 hk2 KC KV
    rename World => w9
    go_loopw [14] (fun i wr => ∃ j : Nat, j ≤ n ∧ i = .int .i64 j ∧ Hid (wr.ownsRow w1.heap.size 31 5 (.slice (some ⟨g, 0, none⟩) n cap) n (rowS (flipTo M j))) ∧ Keeps w wr) (fun i _ => n - (intOf i).toNat)
    case atStart => exact ⟨0, by omega, rfl, by rw [flipTo_0]; exact hO3, hk4⟩
    case round =>
      obtain ⟨j, hj, rfl, hO, hkr⟩ := hrel
      rename World => wr
      by_cases hlt : j < n
      · have hlt2 : (j : Int) < n := by omega
        obtain ⟨m0, m1⟩ := hMr.out j hlt
        have hOg := hO.out
        obtain ⟨hg1, hg2⟩ := rowBase hOg
        obtain ⟨-, c0, f0, -⟩ := rowAt hOg (j * 5) (by omega)
        have c1 := rowS_get (flipTo M j) j 0 (by rw [flipTo_len]; omega) (by omega)
        rw [Nat.add_zero, flipTo_get M j (by omega)] at c1
        rw [c1] at c0
        have hS := Lib.hid ((rowS_set1 (flipTo M j) (65536 - (M.getD j st0).1) j (by rw [flipTo_len]; omega)).trans (by rw [flipTo_get M j (by omega), flipTo_set M j (by omega)]))
        generalize M.getD j st0 = y at *
        simp only [stV, List.getElem?_cons_zero] at c0
        clear c1 hOg
        go_wp2_with fail
        go_roundw
        case rel => exact ⟨j + 1, by omega, by go_num, by rw [← hS.out]; exact Lib.hid (World.ownsRow.stored hO.out (j * 5) _).1, hkr.setNew (p := ⟨g, j * 5, none⟩) (by simp; omega) _⟩
        case measure => simp [intOf]; omega
      · obtain rfl : j = n := by omega
        rw [flipTo_all M j (by omega)] at hO
        have hO2 := hO.out
        rw [hRe.out] at hO2
        obtain ⟨A', c', e, hS⟩ := Sts.of_own hO2 hRl.out hRo.out
        obtain ⟨rfl, rfl⟩ : some ⟨g, 0, none⟩ = A' ∧ cap = c' := by simpa using e
        have hS := Lib.hid hS
        clear hO2 e
        go_wp2_with fail
        go_ret
        exact ⟨_, _, rfl, hS.out, hkr⟩
/-- slices.Insert of one stop, all three ways -/
theorem sins_any (B n i vb : Nat) (v : Value) (M : List St) (s : St) (w : World) (hown : w.ownsRow B 31 5 v n (rowS M)) (hM : M.length = n) (hn : n ≤ 1000) (hi : i ≤ n) (hB : B ≤ w.heap.size)
    (hv : w.heap[vb]? = some (.cells (stV s).toArray 31 (0, 0))) (hvg : v.ownBlock ≠ some vb) :
    Calls Try.prog 45 #[v, .int .i64 i, .slice (some ⟨vb, 0, none⟩) 1 1] w fun e w' => ∃ v', e = .returned v' ∧ w'.ownsRow B 31 5 v' (n + 1) (rowS (M.take i ++ s :: M.drop i)) ∧ ∀ w0, Keeps w0 w → w0.heap.size ≤ B → Keeps w0 w' := by
  by_cases hin : i = n
  · subst hin
    have h := sinsE5_any B i vb v M s w hown hM hn hB hv
    rw [List.take_of_length_le (by omega), List.drop_of_length_le (by omega)]
    exact h
  · obtain ⟨g, cap, rfl, hnc, hBg, -⟩ := own_slice hown (by omega)
    have hne : vb ≠ g := fun e => hvg (by simp [Value.ownBlock, e])
    by_cases hroom : n + 1 ≤ cap
    · exact sinsR5_any B g cap n i vb M s w hown hM hn (by omega) hroom hv hne
    · exact sinsG5_any B g cap n i vb M s w hown hM hn (by omega) (by omega) hB hv
theorem sins0_any (B vb : Nat) (v : Value) (M : List St) (s : St) (w : World) (hown : w.ownsRow B 31 5 v 0 (rowS M)) (hM : M.length = 0) (hB : B ≤ w.heap.size)
    (hv : w.heap[vb]? = some (.cells (stV s).toArray 31 (0, 0))) (hvg : v.ownBlock ≠ some vb) :
    Calls Try.prog 45 #[v, .int .i64 0, .slice (some ⟨vb, 0, none⟩) 1 1] w fun e w' => ∃ v', e = .returned v' ∧ w'.ownsRow B 31 5 v' (0 + 1) (rowS (M.take 0 ++ s :: M.drop 0)) ∧ ∀ w0, Keeps w0 w → w0.heap.size ≤ B → Keeps w0 w' :=
  sins_any B 0 0 vb v M s w hown hM (by omega) (by omega) hB hv hvg
end

section
open Go.RowKit
set_option linter.unusedVariables false
set_option linter.unusedSimpArgs false
set_option maxRecDepth 100000 in
set_option maxHeartbeats 4000000 in
theorem ginsE_any (A : Option Addr) (n c : Nat) (L : List St) (s : St) (w : World) (h : Sts w A n c L) (hs : okSt s) (hbad : (0 < L.length ∧ vB L = false) ∨ s.1 < 0 ∨ 65536 < s.1) :
    Calls Try.prog 31 #[.slice A n c, .agg #[.int .i64 s.1, .int .u8 s.2.1, .int .u8 s.2.2.1, .int .u8 s.2.2.2.1, .int .u8 s.2.2.2.2]] w (RetI w L s) := by
  have HS := Lib.hid (show ∀ w', Keeps (w.alloc (.cells #[.int .i64 s.1, .int .u8 s.2.1, .int .u8 s.2.2.1, .int .u8 s.2.2.2.1, .int .u8 s.2.2.2.2] 31)) w' → w'.cell? ⟨w.heap.size, 0, none⟩ = some (.int .i64 s.1) ∧ w'.frozen? ⟨w.heap.size, 0, none⟩ = false ∧ w'.cell? ⟨w.heap.size, 1, none⟩ = some (.int .u8 s.2.1) ∧ w'.frozen? ⟨w.heap.size, 1, none⟩ = false ∧ w'.cell? ⟨w.heap.size, 2, none⟩ = some (.int .u8 s.2.2.1) ∧ w'.frozen? ⟨w.heap.size, 2, none⟩ = false ∧ w'.cell? ⟨w.heap.size, 3, none⟩ = some (.int .u8 s.2.2.2.1) ∧ w'.frozen? ⟨w.heap.size, 3, none⟩ = false ∧ w'.cell? ⟨w.heap.size, 4, none⟩ = some (.int .u8 s.2.2.2.2) ∧ w'.frozen? ⟨w.heap.size, 4, none⟩ = false from fun w' hk => ⟨(hk.cell (p := ⟨w.heap.size, 0, none⟩) (by first | (simp; done) | (simp; omega))).trans (by simp [go_sem]), (hk.frozen (p := ⟨w.heap.size, 0, none⟩) (by first | (simp; done) | (simp; omega))).trans (by simp [go_sem]), (hk.cell (p := ⟨w.heap.size, 1, none⟩) (by first | (simp; done) | (simp; omega))).trans (by simp [go_sem]), (hk.frozen (p := ⟨w.heap.size, 1, none⟩) (by first | (simp; done) | (simp; omega))).trans (by simp [go_sem]), (hk.cell (p := ⟨w.heap.size, 2, none⟩) (by first | (simp; done) | (simp; omega))).trans (by simp [go_sem]), (hk.frozen (p := ⟨w.heap.size, 2, none⟩) (by first | (simp; done) | (simp; omega))).trans (by simp [go_sem]), (hk.cell (p := ⟨w.heap.size, 3, none⟩) (by first | (simp; done) | (simp; omega))).trans (by simp [go_sem]), (hk.frozen (p := ⟨w.heap.size, 3, none⟩) (by first | (simp; done) | (simp; omega))).trans (by simp [go_sem]), (hk.cell (p := ⟨w.heap.size, 4, none⟩) (by first | (simp; done) | (simp; omega))).trans (by simp [go_sem]), (hk.frozen (p := ⟨w.heap.size, 4, none⟩) (by first | (simp; done) | (simp; omega))).trans (by simp [go_sem])⟩)
  have HB := Lib.hid (show Keeps w (w.alloc (.cells #[.int .i64 s.1, .int .u8 s.2.1, .int .u8 s.2.2.1, .int .u8 s.2.2.2.1, .int .u8 s.2.2.2.2] 31)) from (by (repeat (first | (with_reducible exact Keeps.refl _) | (with_reducible assumption) | (with_reducible refine Keeps.drewN ?_ _) | (with_reducible refine Keeps.drew ?_) | (with_reducible refine Keeps.alloc ?_ _) | (with_reducible refine Keeps.setNew ?_ ?_ _))) <;> (dsimp only; omega)))
  have hk0 := Keeps.refl (w.alloc (.cells #[.int .i64 s.1, .int .u8 s.2.1, .int .u8 s.2.2.1, .int .u8 s.2.2.2.1, .int .u8 s.2.2.2.2] 31))
  have hl := h.1
  have hmx := h.max
  have KV := Lib.hid (fun w' (hk : Keeps w w') => valid31_any A n c L w' (h.keep hk))
  have hk := hk0
  have hE := Lib.hid (insE_bad hbad)
  clear h
  by_cases hn : 0 < n
  · have hn2 : (0 : Int) < n := by omega
    cases hv : vB L with
    | false =>
      rw [hv] at KV
      clear hbad hv
      go_enter Try.func31, Try.ntmps31
      go_wp2_with (go_at_call 16; (with_reducible refine (keepk (KV.out _ (HB.out.trans hk)) hk).mono ?_); rintro e wv ⟨rfl, hk⟩; have hj := Keeps.trans HB.out hk; have hk := hk; obtain ⟨y0, y1, y2, y3, y4, y5, y6, y7, y8, y9⟩ := HS.out _ hk)
      go_ret2
      exact RetI.none hE.out rfl (HB.out.trans hk)
    | true =>
      rw [hv] at KV
      have hb2 : s.1 < 0 ∨ 65536 < s.1 := by rcases hbad with h1 | h1
                                             · rw [hv] at h1; exact absurd h1.2 (by decide)
                                             · exact h1
      clear hbad hv
      rcases hb2 with hb2 | hb2
      · have q1 : decide (s.1 < 0) = true := decide_eq_true hb2
        go_enter Try.func31, Try.ntmps31
        go_wp2_with (go_at_call 16; (with_reducible refine (keepk (KV.out _ (HB.out.trans hk)) hk).mono ?_); rintro e wv ⟨rfl, hk⟩; have hj := Keeps.trans HB.out hk; have hk := hk; obtain ⟨y0, y1, y2, y3, y4, y5, y6, y7, y8, y9⟩ := HS.out _ hk)
        go_ret2
        exact RetI.none hE.out rfl (HB.out.trans hk)
      · have q0 : ¬ s.1 < 0 := by omega
        have q1 : decide (s.1 < 0) = false := decide_eq_false q0
        go_enter Try.func31, Try.ntmps31
        go_wp2_with (go_at_call 16; (with_reducible refine (keepk (KV.out _ (HB.out.trans hk)) hk).mono ?_); rintro e wv ⟨rfl, hk⟩; have hj := Keeps.trans HB.out hk; have hk := hk; obtain ⟨y0, y1, y2, y3, y4, y5, y6, y7, y8, y9⟩ := HS.out _ hk)
        go_ret2
        exact RetI.none hE.out rfl (HB.out.trans hk)
  · obtain rfl : n = 0 := by omega
    have hb2 : s.1 < 0 ∨ 65536 < s.1 := by rcases hbad with h1 | h1
                                           · omega
                                           · exact h1
    clear hbad
    rcases hb2 with hb2 | hb2
    · have q1 : decide (s.1 < 0) = true := decide_eq_true hb2
      go_enter Try.func31, Try.ntmps31
      go_wp2_with (go_at_call 16; (with_reducible refine (keepk (KV.out _ (HB.out.trans hk)) hk).mono ?_); rintro e wv ⟨rfl, hk⟩; have hj := Keeps.trans HB.out hk; have hk := hk; obtain ⟨y0, y1, y2, y3, y4, y5, y6, y7, y8, y9⟩ := HS.out _ hk)
      go_ret2
      exact RetI.none hE.out rfl (HB.out.trans hk)
    · have q0 : ¬ s.1 < 0 := by omega
      have q1 : decide (s.1 < 0) = false := decide_eq_false q0
      go_enter Try.func31, Try.ntmps31
      go_wp2_with (go_at_call 16; (with_reducible refine (keepk (KV.out _ (HB.out.trans hk)) hk).mono ?_); rintro e wv ⟨rfl, hk⟩; have hj := Keeps.trans HB.out hk; have hk := hk; obtain ⟨y0, y1, y2, y3, y4, y5, y6, y7, y8, y9⟩ := HS.out _ hk)
      go_ret2
      exact RetI.none hE.out rfl (HB.out.trans hk)
set_option maxRecDepth 100000 in
set_option maxHeartbeats 4000000 in
theorem ginsF_any (A : Option Addr) (n c : Nat) (L : List St) (s : St) (w : World) (h : Sts w A n c L) (hs : okSt s) (hgood : ¬ ((0 < L.length ∧ vB L = false) ∨ s.1 < 0 ∨ 65536 < s.1)) (h16 : L.length = 16) :
    Calls Try.prog 31 #[.slice A n c, .agg #[.int .i64 s.1, .int .u8 s.2.1, .int .u8 s.2.2.1, .int .u8 s.2.2.2.1, .int .u8 s.2.2.2.2]] w (RetI w L s) := by
  have HS := Lib.hid (show ∀ w', Keeps (w.alloc (.cells #[.int .i64 s.1, .int .u8 s.2.1, .int .u8 s.2.2.1, .int .u8 s.2.2.2.1, .int .u8 s.2.2.2.2] 31)) w' → w'.cell? ⟨w.heap.size, 0, none⟩ = some (.int .i64 s.1) ∧ w'.frozen? ⟨w.heap.size, 0, none⟩ = false ∧ w'.cell? ⟨w.heap.size, 1, none⟩ = some (.int .u8 s.2.1) ∧ w'.frozen? ⟨w.heap.size, 1, none⟩ = false ∧ w'.cell? ⟨w.heap.size, 2, none⟩ = some (.int .u8 s.2.2.1) ∧ w'.frozen? ⟨w.heap.size, 2, none⟩ = false ∧ w'.cell? ⟨w.heap.size, 3, none⟩ = some (.int .u8 s.2.2.2.1) ∧ w'.frozen? ⟨w.heap.size, 3, none⟩ = false ∧ w'.cell? ⟨w.heap.size, 4, none⟩ = some (.int .u8 s.2.2.2.2) ∧ w'.frozen? ⟨w.heap.size, 4, none⟩ = false from fun w' hk => ⟨(hk.cell (p := ⟨w.heap.size, 0, none⟩) (by first | (simp; done) | (simp; omega))).trans (by simp [go_sem]), (hk.frozen (p := ⟨w.heap.size, 0, none⟩) (by first | (simp; done) | (simp; omega))).trans (by simp [go_sem]), (hk.cell (p := ⟨w.heap.size, 1, none⟩) (by first | (simp; done) | (simp; omega))).trans (by simp [go_sem]), (hk.frozen (p := ⟨w.heap.size, 1, none⟩) (by first | (simp; done) | (simp; omega))).trans (by simp [go_sem]), (hk.cell (p := ⟨w.heap.size, 2, none⟩) (by first | (simp; done) | (simp; omega))).trans (by simp [go_sem]), (hk.frozen (p := ⟨w.heap.size, 2, none⟩) (by first | (simp; done) | (simp; omega))).trans (by simp [go_sem]), (hk.cell (p := ⟨w.heap.size, 3, none⟩) (by first | (simp; done) | (simp; omega))).trans (by simp [go_sem]), (hk.frozen (p := ⟨w.heap.size, 3, none⟩) (by first | (simp; done) | (simp; omega))).trans (by simp [go_sem]), (hk.cell (p := ⟨w.heap.size, 4, none⟩) (by first | (simp; done) | (simp; omega))).trans (by simp [go_sem]), (hk.frozen (p := ⟨w.heap.size, 4, none⟩) (by first | (simp; done) | (simp; omega))).trans (by simp [go_sem])⟩)
  have HB := Lib.hid (show Keeps w (w.alloc (.cells #[.int .i64 s.1, .int .u8 s.2.1, .int .u8 s.2.2.1, .int .u8 s.2.2.2.1, .int .u8 s.2.2.2.2] 31)) from (by (repeat (first | (with_reducible exact Keeps.refl _) | (with_reducible assumption) | (with_reducible refine Keeps.drewN ?_ _) | (with_reducible refine Keeps.drew ?_) | (with_reducible refine Keeps.alloc ?_ _) | (with_reducible refine Keeps.setNew ?_ ?_ _))) <;> (dsimp only; omega)))
  have hk0 := Keeps.refl (w.alloc (.cells #[.int .i64 s.1, .int .u8 s.2.1, .int .u8 s.2.2.1, .int .u8 s.2.2.2.1, .int .u8 s.2.2.2.2] 31))
  have hl := h.1
  have hmx := h.max
  have KV := Lib.hid (fun w' (hk : Keeps w w') => valid31_any A n c L w' (h.keep hk))
  have hk := hk0
  have hE := Lib.hid (insE_full hgood h16)
  clear h
  obtain rfl : n = 16 := by omega
  have hv : vB L = true := by cases e : vB L with
                              | true => rfl
                              | false => exact absurd (Or.inl ⟨by omega, e⟩) hgood
  have q0 : ¬ s.1 < 0 := fun h => hgood (Or.inr (Or.inl h))
  have q2 : ¬ 65536 < s.1 := fun h => hgood (Or.inr (Or.inr h))
  rw [hv] at KV
  clear hgood hv h16
  go_enter Try.func31, Try.ntmps31
  go_wp2_with (go_at_call 16; (with_reducible refine (keepk (KV.out _ (HB.out.trans hk)) hk).mono ?_); rintro e wv ⟨rfl, hk⟩; have hj := Keeps.trans HB.out hk; have hk := hk; obtain ⟨y0, y1, y2, y3, y4, y5, y6, y7, y8, y9⟩ := HS.out _ hk)
  go_ret2
  exact RetI.none hE.out rfl (HB.out.trans hk)
set_option maxRecDepth 100000 in
set_option maxHeartbeats 4000000 in
theorem ginsG_any (A : Option Addr) (n c : Nat) (L : List St) (s : St) (w : World) (h : Sts w A n c L) (hs : okSt s) (hgood : ¬ ((0 < L.length ∧ vB L = false) ∨ s.1 < 0 ∨ 65536 < s.1)) (h16 : L.length ≠ 16) :
    Calls Try.prog 31 #[.slice A n c, .agg #[.int .i64 s.1, .int .u8 s.2.1, .int .u8 s.2.2.1, .int .u8 s.2.2.2.1, .int .u8 s.2.2.2.2]] w (RetI w L s) := by
  have HS := Lib.hid (show ∀ w', Keeps (w.alloc (.cells #[.int .i64 s.1, .int .u8 s.2.1, .int .u8 s.2.2.1, .int .u8 s.2.2.2.1, .int .u8 s.2.2.2.2] 31)) w' → w'.cell? ⟨w.heap.size, 0, none⟩ = some (.int .i64 s.1) ∧ w'.frozen? ⟨w.heap.size, 0, none⟩ = false ∧ w'.cell? ⟨w.heap.size, 1, none⟩ = some (.int .u8 s.2.1) ∧ w'.frozen? ⟨w.heap.size, 1, none⟩ = false ∧ w'.cell? ⟨w.heap.size, 2, none⟩ = some (.int .u8 s.2.2.1) ∧ w'.frozen? ⟨w.heap.size, 2, none⟩ = false ∧ w'.cell? ⟨w.heap.size, 3, none⟩ = some (.int .u8 s.2.2.2.1) ∧ w'.frozen? ⟨w.heap.size, 3, none⟩ = false ∧ w'.cell? ⟨w.heap.size, 4, none⟩ = some (.int .u8 s.2.2.2.2) ∧ w'.frozen? ⟨w.heap.size, 4, none⟩ = false from fun w' hk => ⟨(hk.cell (p := ⟨w.heap.size, 0, none⟩) (by first | (simp; done) | (simp; omega))).trans (by simp [go_sem]), (hk.frozen (p := ⟨w.heap.size, 0, none⟩) (by first | (simp; done) | (simp; omega))).trans (by simp [go_sem]), (hk.cell (p := ⟨w.heap.size, 1, none⟩) (by first | (simp; done) | (simp; omega))).trans (by simp [go_sem]), (hk.frozen (p := ⟨w.heap.size, 1, none⟩) (by first | (simp; done) | (simp; omega))).trans (by simp [go_sem]), (hk.cell (p := ⟨w.heap.size, 2, none⟩) (by first | (simp; done) | (simp; omega))).trans (by simp [go_sem]), (hk.frozen (p := ⟨w.heap.size, 2, none⟩) (by first | (simp; done) | (simp; omega))).trans (by simp [go_sem]), (hk.cell (p := ⟨w.heap.size, 3, none⟩) (by first | (simp; done) | (simp; omega))).trans (by simp [go_sem]), (hk.frozen (p := ⟨w.heap.size, 3, none⟩) (by first | (simp; done) | (simp; omega))).trans (by simp [go_sem]), (hk.cell (p := ⟨w.heap.size, 4, none⟩) (by first | (simp; done) | (simp; omega))).trans (by simp [go_sem]), (hk.frozen (p := ⟨w.heap.size, 4, none⟩) (by first | (simp; done) | (simp; omega))).trans (by simp [go_sem])⟩)
  have HB := Lib.hid (show Keeps w (w.alloc (.cells #[.int .i64 s.1, .int .u8 s.2.1, .int .u8 s.2.2.1, .int .u8 s.2.2.2.1, .int .u8 s.2.2.2.2] 31)) from (by (repeat (first | (with_reducible exact Keeps.refl _) | (with_reducible assumption) | (with_reducible refine Keeps.drewN ?_ _) | (with_reducible refine Keeps.drew ?_) | (with_reducible refine Keeps.alloc ?_ _) | (with_reducible refine Keeps.setNew ?_ ?_ _))) <;> (dsimp only; omega)))
  have hk0 := Keeps.refl (w.alloc (.cells #[.int .i64 s.1, .int .u8 s.2.1, .int .u8 s.2.2.1, .int .u8 s.2.2.2.1, .int .u8 s.2.2.2.2] 31))
  have hl := h.1
  have hmx := h.max
  have KV := Lib.hid (fun w' (hk : Keeps w w') => valid31_any A n c L w' (h.keep hk))
  have hk := hk0
  obtain ⟨i0, hi, hz0, hz1, hz2⟩ := info_parts cs_info
  have hE := Lib.hid (insE_good hgood h16)
  have HA := Lib.hid h
  have hOk := Lib.hid (ins_ok s L hs h.2.2.2.1)
  have hLen := Lib.hid (ins_length s L)
  have q0 : ¬ s.1 < 0 := fun h => hgood (Or.inr (Or.inl h))
  have q2 : ¬ 65536 < s.1 := fun h => hgood (Or.inr (Or.inr h))
  have q1 : decide (s.1 < 0) = false := decide_eq_false q0
  have q3 : decide (65536 < s.1) = false := decide_eq_false q2
  clear q0 q2
  have hpl := lead_len L s.1
  have hple := Lib.hid (lead_le L s.1)
  have hpst := Lib.hid (lead_stop L s.1)
  have hIns := Lib.hid (show L.take (lead s.1 L) ++ s :: L.drop (lead s.1 L) = ins s L from rfl)
  rw [hl] at hpl hpst
  have hfin : ∀ (v : Value) (w' : World) (B : Nat), Hid (w'.ownsRow B 31 5 v (n + 1) (rowS (ins s L))) → Keeps w w' → RetI w L s (.returned (.tuple #[v, .int .i64 0])) w' := by
    intro v w' B hown hk
    obtain ⟨A', c', rfl, hS⟩ := Sts.of_own hown.out (by rw [hLen.out, hl]) hOk.out
    unfold RetI
    rw [hE.out.1, hE.out.2, hLen.out, hl]
    exact ⟨_, _, rfl, hS, hk⟩
  have hFin := Lib.hid hfin
  clear h hfin hE hOk hLen
  have hn16 : n ≤ 16 := by
    by_cases h0 : 0 < n
    · cases e : vB L with
      | true => have := (vB_range e).2.1; omega
      | false => exact absurd (Or.inl ⟨by omega, e⟩) hgood
    · omega
  have q4 : decide (16 ≤ (n : Int)) = false := decide_eq_false (by omega)
  have q5 : ¬ (16 ≤ (n : Int)) := by omega
  have KVt : 0 < n → vB L = true := fun h0 => by
    cases e : vB L with
    | true => rfl
    | false => exact absurd (Or.inl ⟨by omega, e⟩) hgood
  have hW0s : ((w.alloc (.cells #[.int .i64 s.1, .int .u8 s.2.1, .int .u8 s.2.2.1, .int .u8 s.2.2.2.1, .int .u8 s.2.2.2.2] 31))).heap.size = w.heap.size + 1 := by simp
  have HSc := Lib.hid (show ∀ w', Keeps ((w.alloc (.cells #[.int .i64 s.1, .int .u8 s.2.1, .int .u8 s.2.2.1, .int .u8 s.2.2.2.1, .int .u8 s.2.2.2.2] 31))) w' → w'.cell? ⟨w.heap.size, 0, none⟩ = some (.int .i64 s.1) ∧ w'.cell? ⟨w.heap.size, 1, none⟩ = some (.int .u8 s.2.1) ∧ w'.cell? ⟨w.heap.size, 2, none⟩ = some (.int .u8 s.2.2.1) ∧ w'.cell? ⟨w.heap.size, 3, none⟩ = some (.int .u8 s.2.2.2.1) ∧ w'.cell? ⟨w.heap.size, 4, none⟩ = some (.int .u8 s.2.2.2.2) from fun w' hk => by
    obtain ⟨y0, -, y1, -, y2, -, y3, -, y4, -⟩ := HS.out w' hk
    exact ⟨y0, y1, y2, y3, y4⟩)
  have HA2 := Lib.hid (fun w' (hk : Keeps ((w.alloc (.cells #[.int .i64 s.1, .int .u8 s.2.1, .int .u8 s.2.2.1, .int .u8 s.2.2.2.1, .int .u8 s.2.2.2.2] 31))) w') => HA.out.keep (HB.out.trans hk))
  have hpn : lead s.1 L ≤ n := by omega
  generalize hp : lead s.1 L = p at *
  have hp := Lib.hid hp
  go_enter Try.func31, Try.ntmps31
  by_cases hn : 0 < n
  · have hn2 : (0 : Int) < n := by omega
    rw [KVt hn] at KV
    clear hgood h16 KVt
    go_wp2_with (go_at_call 16; (with_reducible refine (keepk (KV.out _ (HB.out.trans hk)) hk).mono ?_); rintro e wv ⟨rfl, hk⟩; have hj := Keeps.trans HB.out hk; have hk := hk; obtain ⟨y0, y1, y2, y3, y4, y5, y6, y7, y8, y9⟩ := HS.out _ hk)
    generalize ((w.alloc (.cells #[.int .i64 s.1, .int .u8 s.2.1, .int .u8 s.2.2.1, .int .u8 s.2.2.2.1, .int .u8 s.2.2.2.2] 31))) = W0 at *
    clear HS hj y0 y1 y2 y3 y4 y5 y6 y7 y8 y9 KV HA hk0
    go_loopw [6] (fun i wr => ∃ j : Nat, j ≤ p ∧ i = .int .i64 j ∧ Keeps W0 wr) (fun i _ => n - (intOf i).toNat)
    case atStart => exact ⟨0, by omega, rfl, hk⟩
    case round =>
      clear hk
      obtain ⟨j, hj, rfl, hk⟩ := hrel
      rename World => wr
      obtain ⟨x0, x1, x2, x3, x4⟩ := HSc.out wr hk
      by_cases hjp : j < p
      · have hlt : j < n := by omega
        have hlt2 : (j : Int) < n := by omega
        have t1 : decide ((j : Int) < n) = true := decide_eq_true hlt2
        have hle := hple.out j hjp
        have t2 : decide ((L.getD j st0).1 ≤ s.1) = true := decide_eq_true hle
        obtain ⟨b, o, rfl, hb, hC⟩ := (HA2.out wr hk).2.2.2.2 (by omega)
        obtain ⟨c0, c1, c2, c3, c4⟩ := hC j hlt
        clear hC c1 c2 c3 c4
        generalize L.getD j st0 = y at *
        go_wp2_with fail
        go_quiet (fail)
        go_wp2_with fail
        go_roundw
        case rel => exact ⟨j + 1, by omega, by go_num, hk.drewN _⟩
        case measure => simp [intOf]; omega
      · obtain rfl : j = p := by omega
        have KC := Lib.hid (fun w' (hk : Keeps W0 w') => (clone5_any A n c L w' (HA2.out w' hk) (by omega)).mono (R' := fun e w2 => ∃ v, e = .returned v ∧ w2.ownsRow w'.heap.size 31 5 v n (rowS L) ∧ Keeps w' w2 ∧ Keeps W0 w2 ∧ W0.heap.size ≤ w'.heap.size) (fun e w2 ⟨v, a1, a2, a3⟩ => ⟨v, a1, a2, a3, hk.trans a3, hk.size⟩))
        have hnn : n ≤ 1000 := by omega
        have hjn : j ≤ n := by omega
        have hNV := Lib.hid (fun w0 : World => show (w0.alloc (.cells #[.int .i64 s.1, .int .u8 s.2.1, .int .u8 s.2.2.1, .int .u8 s.2.2.2.1, .int .u8 s.2.2.2.2] 31)).heap[w0.heap.size]? = some (.cells (stV s).toArray 31 (0, 0)) from Go.heap_alloc_new w0 _)
        have hNW := Lib.hid (fun w0 : World => show (w0.alloc (.cells #[.int .i64 s.1, .int .u8 s.2.1, .int .u8 s.2.2.1, .int .u8 s.2.2.2.1, .int .u8 s.2.2.2.2] 31)).drew.heap[w0.heap.size]? = some (.cells (stV s).toArray 31 (0, 0)) from Go.heap_alloc_new w0 _)
        by_cases hjn1 : j < n
        · have hlt2 : (j : Int) < n := by omega
          have t1 : decide ((j : Int) < n) = true := decide_eq_true hlt2
          have hgt := hpst.out hjn1
          have t2 : decide ((L.getD j st0).1 ≤ s.1) = false := decide_eq_false (by omega)
          obtain ⟨b, o, rfl, hb, hC⟩ := (HA2.out wr hk).2.2.2.2 (by omega)
          obtain ⟨c0, c1, c2, c3, c4⟩ := hC j hjn1
          clear hC c1 c2 c3 c4
          generalize L.getD j st0 = y at *
          go_wp2_with fail
          go_quiet (fail)
          go_wp2_with fail
          refine name_world (fun W hW => ?_)
          have hk : Keeps W0 W := by rw [hW]; exact hk.drewN _
          clear hW
          go_region_held3 (fun w' => w'.cell? ⟨w.heap.size, 0, none⟩ = some (.int .i64 s.1) ∧ w'.cell? ⟨w.heap.size, 1, none⟩ = some (.int .u8 s.2.1) ∧ w'.cell? ⟨w.heap.size, 2, none⟩ = some (.int .u8 s.2.2.1) ∧ w'.cell? ⟨w.heap.size, 3, none⟩ = some (.int .u8 s.2.2.2.1) ∧ w'.cell? ⟨w.heap.size, 4, none⟩ = some (.int .u8 s.2.2.2.2)) (first | exact HSc.out _ hk | exact HSc.out _ hk.drew | exact HSc.out _ (hk.drew.alloc _) | exact HSc.out _ (hk.alloc _) | exact HSc.out _ (hk.alloc _).drew | go_keep) (first | (go_at_call 46; (with_reducible refine (KC.out _ (by first | exact hk | exact hk.drew | exact hk.drew.alloc _ | exact hk.alloc _ | exact (hk.alloc _).drew)).mono ?_); rintro e w2 ⟨v, rfl, hown, hk2, hk, hsz⟩) | (go_at_call 45; (first | (with_reducible refine (sins_any _ n j w2.heap.size v L s _ (own_keep hown ((Keeps.refl _).alloc _)) hl hnn hjn (Nat.le_trans hk2.size (by simp)) (hNV.out _) (fun e => absurd (hown.lt _ e).2 (Nat.lt_irrefl _))).mono ?_) | (with_reducible refine (sins_any _ n j W.heap.size v L s _ hown hl hnn hjn hk2.size ((Keeps.heapAt hk2 (by simp)).trans (hNW.out W)) (fun e => absurd (hown.lt W.heap.size e).1 (by simp))).mono ?_) | fail "NOFIT"); rintro e w3 ⟨v', rfl, hown3, hk3⟩; rw [hIns.out] at hown3; replace hk := hk3 W0 (by first | exact hk | exact hk.alloc _) hsz; have hkF := HB.out.trans hk; have hRet := Lib.hid (hFin.out _ _ _ (Lib.hid hown3) hkF)) | fail "ARM")
          all_goals
            go_wp2
            go_ret2
            exact hRet.out
        · obtain rfl : j = n := by omega
          have t1 : decide ((j : Int) < j) = false := decide_eq_false (by omega)
          go_wp2_with fail
          go_quiet (fail)
          go_wp2_with fail
          refine name_world (fun W hW => ?_)
          have hk : Keeps W0 W := by rw [hW]; exact hk.drewN _
          clear hW
          go_region_held3 (fun w' => w'.cell? ⟨w.heap.size, 0, none⟩ = some (.int .i64 s.1) ∧ w'.cell? ⟨w.heap.size, 1, none⟩ = some (.int .u8 s.2.1) ∧ w'.cell? ⟨w.heap.size, 2, none⟩ = some (.int .u8 s.2.2.1) ∧ w'.cell? ⟨w.heap.size, 3, none⟩ = some (.int .u8 s.2.2.2.1) ∧ w'.cell? ⟨w.heap.size, 4, none⟩ = some (.int .u8 s.2.2.2.2)) (first | exact HSc.out _ hk | exact HSc.out _ hk.drew | exact HSc.out _ (hk.drew.alloc _) | exact HSc.out _ (hk.alloc _) | exact HSc.out _ (hk.alloc _).drew | go_keep) (first | (go_at_call 46; (with_reducible refine (KC.out _ (by first | exact hk | exact hk.drew | exact hk.drew.alloc _ | exact hk.alloc _ | exact (hk.alloc _).drew)).mono ?_); rintro e w2 ⟨v, rfl, hown, hk2, hk, hsz⟩) | (go_at_call 45; (first | (with_reducible refine (sins_any _ j j w2.heap.size v L s _ (own_keep hown ((Keeps.refl _).alloc _)) hl hnn hjn (Nat.le_trans hk2.size (by simp)) (hNV.out _) (fun e => absurd (hown.lt _ e).2 (Nat.lt_irrefl _))).mono ?_) | (with_reducible refine (sins_any _ j j W.heap.size v L s _ hown hl hnn hjn hk2.size ((Keeps.heapAt hk2 (by simp)).trans (hNW.out W)) (fun e => absurd (hown.lt W.heap.size e).1 (by simp))).mono ?_) | fail "NOFIT"); rintro e w3 ⟨v', rfl, hown3, hk3⟩; rw [hIns.out] at hown3; replace hk := hk3 W0 (by first | exact hk | exact hk.alloc _) hsz; have hkF := HB.out.trans hk; have hRet := Lib.hid (hFin.out _ _ _ (Lib.hid hown3) hkF)) | fail "ARM")
          all_goals
            go_wp2
            go_ret2
            exact hRet.out
  · obtain rfl : n = 0 := by omega
    obtain rfl : p = 0 := by omega
    clear hgood h16 KVt hple hpst KV
    go_wp2_with fail
    generalize ((w.alloc (.cells #[.int .i64 s.1, .int .u8 s.2.1, .int .u8 s.2.2.1, .int .u8 s.2.2.2.1, .int .u8 s.2.2.2.2] 31))) = W0 at *
    clear HS HA hk0
    go_loopw [6] (fun i wr => i = .int .i64 0 ∧ Keeps W0 wr) (fun _ _ => 0)
    case atStart => exact ⟨rfl, hk⟩
    case round =>
      clear hk
      obtain ⟨rfl, hk⟩ := hrel
      rename World => wr
      obtain ⟨x0, x1, x2, x3, x4⟩ := HSc.out wr hk
      have KC := Lib.hid (fun w' (hk : Keeps W0 w') => (clone5_any A 0 c L w' (HA2.out w' hk) (by omega)).mono (R' := fun e w2 => ∃ v, e = .returned v ∧ w2.ownsRow w'.heap.size 31 5 v 0 (rowS L) ∧ Keeps w' w2 ∧ Keeps W0 w2 ∧ W0.heap.size ≤ w'.heap.size) (fun e w2 ⟨v, a1, a2, a3⟩ => ⟨v, a1, a2, a3, hk.trans a3, hk.size⟩))
      have hnn : 0 ≤ 1000 := by omega
      have hjn : 0 ≤ 0 := by omega
      have hNV := Lib.hid (fun w0 : World => show (w0.alloc (.cells #[.int .i64 s.1, .int .u8 s.2.1, .int .u8 s.2.2.1, .int .u8 s.2.2.2.1, .int .u8 s.2.2.2.2] 31)).heap[w0.heap.size]? = some (.cells (stV s).toArray 31 (0, 0)) from Go.heap_alloc_new w0 _)
      have hNW := Lib.hid (fun w0 : World => show (w0.alloc (.cells #[.int .i64 s.1, .int .u8 s.2.1, .int .u8 s.2.2.1, .int .u8 s.2.2.2.1, .int .u8 s.2.2.2.2] 31)).drew.heap[w0.heap.size]? = some (.cells (stV s).toArray 31 (0, 0)) from Go.heap_alloc_new w0 _)
      go_wp2_with fail
      go_quiet (fail)
      go_wp2_with fail
      refine name_world (fun W hW => ?_)
      have hk : Keeps W0 W := by rw [hW]; exact hk.drewN _
      clear hW
      go_region_held3 (fun w' => w'.cell? ⟨w.heap.size, 0, none⟩ = some (.int .i64 s.1) ∧ w'.cell? ⟨w.heap.size, 1, none⟩ = some (.int .u8 s.2.1) ∧ w'.cell? ⟨w.heap.size, 2, none⟩ = some (.int .u8 s.2.2.1) ∧ w'.cell? ⟨w.heap.size, 3, none⟩ = some (.int .u8 s.2.2.2.1) ∧ w'.cell? ⟨w.heap.size, 4, none⟩ = some (.int .u8 s.2.2.2.2)) (first | exact HSc.out _ hk | exact HSc.out _ hk.drew | exact HSc.out _ (hk.drew.alloc _) | exact HSc.out _ (hk.alloc _) | exact HSc.out _ (hk.alloc _).drew | go_keep) (first | (go_at_call 46; (with_reducible refine (KC.out _ (by first | exact hk | exact hk.drew | exact hk.drew.alloc _ | exact hk.alloc _ | exact (hk.alloc _).drew)).mono ?_); rintro e w2 ⟨v, rfl, hown, hk2, hk, hsz⟩) | (go_at_call 45; (first | (with_reducible refine (sins0_any _ w2.heap.size v L s _ (own_keep hown ((Keeps.refl _).alloc _)) hl (Nat.le_trans hk2.size (by simp)) (hNV.out _) (fun e => absurd (hown.lt _ e).2 (Nat.lt_irrefl _))).mono ?_) | (with_reducible refine (sins0_any _ W.heap.size v L s _ hown hl hk2.size ((Keeps.heapAt hk2 (by simp)).trans (hNW.out W)) (fun e => absurd (hown.lt W.heap.size e).1 (by simp))).mono ?_) | fail "NOFIT"); rintro e w3 ⟨v', rfl, hown3, hk3⟩; rw [hIns.out] at hown3; replace hk := hk3 W0 (by first | exact hk | exact hk.alloc _) hsz; have hkF := HB.out.trans hk; have hRet := Lib.hid (hFin.out _ _ _ (Lib.hid hown3) hkF)) | fail "ARM")
      all_goals
        go_wp2
        go_ret2
        exact hRet.out
theorem gins_any (A : Option Addr) (n c : Nat) (L : List St) (s : St) (w : World) (h : Sts w A n c L) (hs : okSt s) :
    Calls Try.prog 31 #[.slice A n c, .agg #[.int .i64 s.1, .int .u8 s.2.1, .int .u8 s.2.2.1, .int .u8 s.2.2.2.1, .int .u8 s.2.2.2.2]] w (RetI w L s) := by
  by_cases hb : (0 < L.length ∧ vB L = false) ∨ s.1 < 0 ∨ 65536 < s.1
  · exact ginsE_any A n c L s w h hs hb
  · by_cases h16 : L.length = 16
    · exact ginsF_any A n c L s w h hs hb h16
    · exact ginsG_any A n c L s w h hs hb h16
end
end Go.Proofs.Ytboomdbmeallfaa
