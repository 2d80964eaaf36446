/- Contract of polygon.Orient. -/
import Derived.Test.YtdodgnpjlicnoaaGreatQd
import Derived.RegionTactic
import Derived.Deep.RegionWith
namespace Go.Proofs.YtdodgnpjlicnoaaGreat
section
open Go.RowKit
attribute [local go_sem ↓] Go.wp_at_zero Go.wp_at_succ
set_option linter.unusedVariables false
set_option linter.unusedSimpArgs false
theorem rowP_set : ∀ (M : List Pt) (s : Pt) (a : Nat), a < M.length → (((rowP M).set (a * 2) (.int .i64 s.1)).set (a * 2 + 1) (.int .i64 s.2)) = rowP (M.set a s)
  | [], s, a, h => by simp at h
  | x :: r, s, 0, _ => by simp [rowP, ptV]
  | x :: r, s, a + 1, h => by
    have ih := rowP_set r s a (by simpa using h)
    rw [List.set_cons_succ, rowP, rowP, ← ih]
    have q : ∀ (l : List Value) (i : Nat) (v : Value), (ptV x ++ l).set ((a + 1) * 2 + i) v = ptV x ++ l.set (a * 2 + i) v := fun l i v => by
      rw [List.set_append_right _ _ (by simp [ptV]; omega)]
      congr 2
      simp [ptV]; omega
    have q0 := q (rowP r) 0 (.int .i64 s.1)
    simp only [Nat.add_zero] at q0
    rw [q0, q]
theorem getD_set (X : List Pt) (a k : Nat) (p : Pt) (h : a < X.length) : (X.set a p).getD k pt0 = if k = a then p else X.getD k pt0 := by
  simp only [List.getD_eq_getElem?_getD, List.getElem?_set]
  by_cases e : a = k
  · subst e; simp [h]
  · rw [if_neg e, if_neg (fun h => e h.symm)]
def revAt (M : List Pt) (o m a k : Nat) : Pt := if o ≤ k ∧ k - o < m ∧ (k - o < a ∨ m - a ≤ k - o) then M.getD (o + (m - 1 - (k - o))) pt0 else M.getD k pt0
theorem rev_step (M X : List Pt) (o m a q : Nat) (hX : ∀ k, X.getD k pt0 = revAt M o m a k) (hl : X.length = M.length) (hm : M.length = o + m) (hq : a + q + 1 = m) (hlt : a < q) :
    ∀ k, ((X.set (o + a) (X.getD (o + q) pt0)).set (o + q) (X.getD (o + a) pt0)).getD k pt0 = revAt M o m (a + 1) k := by
  intro k
  rw [getD_set _ _ _ _ (by simp; omega), getD_set _ _ _ _ (by omega), hX, hX, hX]
  unfold revAt
  by_cases h1 : k = o + q
  · subst h1
    rw [if_pos rfl, if_neg (by omega), if_pos (by omega)]
    congr 1; omega
  · rw [if_neg h1]
    by_cases h2 : k = o + a
    · subst h2
      rw [if_pos rfl, if_neg (by omega), if_pos (by omega)]
      congr 1; omega
    · rw [if_neg h2]
      by_cases h3 : o ≤ k ∧ k - o < m ∧ (k - o < a ∨ m - a ≤ k - o)
      · rw [if_pos h3, if_pos (by omega)]
      · rw [if_neg h3, if_neg (by omega)]
theorem rev_end (M X : List Pt) (o m a : Nat) (hX : ∀ k, X.getD k pt0 = revAt M o m a k) (hl : X.length = M.length) (hm : M.length = o + m) (ha : m ≤ 2 * a + 1) (ha2 : a ≤ m) : X = M.take o ++ (M.drop o).reverse := by
  have e : (M.take o).length = o := by simp; omega
  have e2 : (M.drop o).length = m := by simp; omega
  apply List.ext_getElem?
  intro k
  by_cases hk : k < X.length
  · have h1 := hX k
    rw [List.getD_eq_getElem?_getD, List.getElem?_eq_getElem hk] at h1
    rw [List.getElem?_eq_getElem hk, ← Option.some_get (x := (M.take o ++ (M.drop o).reverse)[k]?) (h := by rw [List.getElem?_eq_getElem (by simp; omega)]; rfl)]
    congr 1
    simp only [Option.getD_some] at h1
    rw [h1]
    unfold revAt
    by_cases hko : k < o
    · rw [if_neg (by omega)]
      have e4 : (M.take o ++ (M.drop o).reverse)[k]? = some (M.getD k pt0) := by
        rw [List.getElem?_append_left (by omega), List.getElem?_take, if_pos hko, List.getD_eq_getElem?_getD, List.getElem?_eq_getElem (by omega)]; rfl
      simp only [e4, Option.get_some]
    · have hkm : k - o < m := by omega
      have e3 : (M.take o ++ (M.drop o).reverse)[k]? = some (M.getD (o + (m - 1 - (k - o))) pt0) := by
        rw [List.getElem?_append_right (by omega), e, List.getElem?_reverse (by omega), e2, List.getElem?_drop, List.getD_eq_getElem?_getD, List.getElem?_eq_getElem (by omega)]; rfl
      simp only [e3, Option.get_some]
      by_cases hc : k - o < a ∨ m - a ≤ k - o
      · rw [if_pos ⟨by omega, hkm, hc⟩]
      · rw [if_neg (by omega)]
        congr 1; omega
  · rw [List.getElem?_eq_none (by omega), List.getElem?_eq_none (by simp; omega)]
/-- Two points of an own row set: in both orders the same row. -/
theorem rev_two {w : World} {B g n cap : Nat} {X : List Pt} (h : w.ownsRow B 37 2 (.slice (some ⟨g, 0, none⟩) n cap) n (rowP X)) (i j : Nat) (y x : Pt) (hi : i < X.length) (hj : j < X.length) (hne : i < j) :
    ((((w.setCell ⟨g, i * 2, none⟩ (.int .i64 y.1)).setCell ⟨g, i * 2 + 1, none⟩ (.int .i64 y.2)).setCell ⟨g, j * 2, none⟩ (.int .i64 x.1)).setCell ⟨g, j * 2 + 1, none⟩ (.int .i64 x.2)).drew.ownsRow B 37 2 (.slice (some ⟨g, 0, none⟩) n cap) n (rowP ((X.set i y).set j x)) ∧
    ((((w.setCell ⟨g, j * 2, none⟩ (.int .i64 x.1)).setCell ⟨g, j * 2 + 1, none⟩ (.int .i64 x.2)).setCell ⟨g, i * 2, none⟩ (.int .i64 y.1)).setCell ⟨g, i * 2 + 1, none⟩ (.int .i64 y.2)).drew.ownsRow B 37 2 (.slice (some ⟨g, 0, none⟩) n cap) n (rowP ((X.set i y).set j x)) := by
  constructor
  · rw [← rowP_set _ x j (by simpa using hj), ← rowP_set _ y i hi]
    exact own_keep (World.ownsRow.stored (World.ownsRow.stored (World.ownsRow.stored (World.ownsRow.stored h _ _).1 _ _).1 _ _).1 _ _).1 ((Keeps.refl _).drew)
  · rw [List.set_comm _ _ (by omega), ← rowP_set _ y i (by simpa using hi), ← rowP_set _ x j hj]
    exact own_keep (World.ownsRow.stored (World.ownsRow.stored (World.ownsRow.stored (World.ownsRow.stored h _ _).1 _ _).1 _ _).1 _ _).1 ((Keeps.refl _).drew)
set_option maxRecDepth 100000 in
set_option maxHeartbeats 4000000 in
theorem rev_any (B g cap n o m c : Nat) (M : List Pt) (w : World) (hown : w.ownsRow B 37 2 (.slice (some ⟨g, 0, none⟩) n cap) n (rowP M)) (hM : M.length = n) (ho : n = o + m) (hn : n ≤ 1000000000000) :
    Calls Tryz.prog 69 #[.slice (some ⟨g, o * 2, none⟩) m c] w fun e w' => e = .returned (.tuple #[]) ∧
      w'.ownsRow B 37 2 (.slice (some ⟨g, 0, none⟩) n cap) n (rowP (M.take o ++ (M.drop o).reverse)) ∧ ∀ w0, Keeps w0 w → w0.heap.size ≤ B → Keeps w0 w' := by
  have hmi : (m : Int) ≤ 1000000000000 := by omega
  have hRE := Lib.hid (rev_end M)
  have hRS := Lib.hid (rev_step M)
  have hO := Lib.hid hown
  clear hown
  go_enter Tryz.func69, Tryz.ntmps69
  go_wp2_with fail
  go_loopw [2, 3] (fun i j wr => ∃ (a : Nat) (X : List Pt), a ≤ m ∧ 2 * a ≤ m + 1 ∧ i = .int .i64 a ∧ j = .int .i64 ((m : Int) - 1 - a) ∧ X.length = n ∧ Hid (∀ k, X.getD k pt0 = revAt M o m a k) ∧ Hid (wr.ownsRow B 37 2 (.slice (some ⟨g, 0, none⟩) n cap) n (rowP X)) ∧ Hid (∀ w0, Keeps w0 w → w0.heap.size ≤ B → Keeps w0 wr)) (fun i _ _ => m - (intOf i).toNat)
  case atStart => exact ⟨0, M, by omega, by omega, rfl, by go_num, hM, Lib.hid (fun k => by unfold revAt; rw [if_neg (by omega)]), hO, Lib.hid (fun w0 hk _ => hk)⟩
  case round =>
    clear hO
    obtain ⟨a, X, ha, ha2, rfl, rfl, hXl, hX, hO, hK⟩ := hrel
    by_cases hlt : (a : Int) < (m : Int) - 1 - a
    · obtain ⟨q, hq⟩ : ∃ q : Nat, (m : Int) - 1 - a = q := ⟨m - 1 - a, by omega⟩
      rw [hq] at hlt ⊢
      have hq2 : a + q + 1 = m := by omega
      have hlt2 : a < q := by omega
      have hqm : (q : Int) < m := by omega
      have ham : (a : Int) < m := by omega
      have hS := Lib.hid (hRS.out X o m a q hX.out (by omega) (by omega) hq2 hlt2)
      clear hX
      have hOg := hO.out
      obtain ⟨hg1, hg2⟩ := rowBase hOg
      have rp : ∀ k i, k < n → i < 2 → wr.cell? ⟨g, k * 2 + i, none⟩ = (ptV (X.getD k pt0))[i]? ∧ wr.frozen? ⟨g, k * 2 + i, none⟩ = false := fun k i hk hi => by
        obtain ⟨_, e1, e2, _⟩ := rowAt hOg (k * 2 + i) (by omega)
        exact ⟨e1.trans (rowP_get X k i (by omega) hi), e2⟩
      obtain ⟨c0, f0⟩ := rp (o + a) 0 (by omega) (by omega)
      obtain ⟨c1, f1⟩ := rp (o + a) 1 (by omega) (by omega)
      obtain ⟨d0, k0⟩ := rp (o + q) 0 (by omega) (by omega)
      obtain ⟨d1, k1⟩ := rp (o + q) 1 (by omega) (by omega)
      rw [Nat.add_mul] at c0 f0 c1 f1 d0 k0 d1 k1
      rw [Nat.add_zero] at c0 f0 d0 k0
      have n1 := fun (w : World) (u : Value) => setOff w g (o * 2 + a * 2) (o * 2 + a * 2 + 1) u (by omega)
      have n2 := fun (w : World) (u : Value) => setOff w g (o * 2 + a * 2) (o * 2 + q * 2) u (by omega)
      have n3 := fun (w : World) (u : Value) => setOff w g (o * 2 + a * 2) (o * 2 + q * 2 + 1) u (by omega)
      have n4 := fun (w : World) (u : Value) => setOff w g (o * 2 + a * 2 + 1) (o * 2 + q * 2) u (by omega)
      have n5 := fun (w : World) (u : Value) => setOff w g (o * 2 + a * 2 + 1) (o * 2 + q * 2 + 1) u (by omega)
      have n6 := fun (w : World) (u : Value) => setOff w g (o * 2 + q * 2) (o * 2 + q * 2 + 1) u (by omega)
      have n7 := fun (w : World) (u : Value) => setOff w g (o * 2 + q * 2) (o * 2 + a * 2) u (by omega)
      have n8 := fun (w : World) (u : Value) => setOff w g (o * 2 + q * 2) (o * 2 + a * 2 + 1) u (by omega)
      have n9 := fun (w : World) (u : Value) => setOff w g (o * 2 + q * 2 + 1) (o * 2 + a * 2) u (by omega)
      have n10 := fun (w : World) (u : Value) => setOff w g (o * 2 + q * 2 + 1) (o * 2 + a * 2 + 1) u (by omega)
      have hP := Lib.hid (rev_two hOg (o + a) (o + q) (X.getD (o + q) pt0) (X.getD (o + a) pt0) (by omega) (by omega) (by omega))
      rw [Nat.add_mul, Nat.add_mul] at hP
      have hXL2 : ((X.set (o + a) (X.getD (o + q) pt0)).set (o + q) (X.getD (o + a) pt0)).length = n := by simp; exact hXl
      have qm1 : (q : Int) - 1 = (m : Int) - 1 - (a + 1 : Nat) := by omega
      have hai : (a : Int) + 1 = (a + 1 : Nat) := by omega
      generalize hx : X.getD (o + a) pt0 = x at *
      generalize hy : X.getD (o + q) pt0 = y at *
      simp only [ptV, List.getElem?_cons_zero, List.getElem?_cons_succ] at c0 c1 d0 d1
      have Qm := Lib.hid (And.intro qm1 (And.intro hXL2 (And.intro ha (And.intro hx hy))))
      clear hx hy rp hOg hO hq qm1 hXL2 hai
      go_wp2_with fail
      go_region_with (fail)
      all_goals
        have hKn := Lib.hid (fun w0 h1 h2 => (((((hK.out w0 h1 h2).setNew (p := ⟨g, o * 2 + a * 2, none⟩) (Nat.le_trans h2 hg1) (.int .i64 y.1)).setNew (p := ⟨g, o * 2 + a * 2 + 1, none⟩) (Nat.le_trans h2 hg1) (.int .i64 y.2)).setNew (p := ⟨g, o * 2 + q * 2, none⟩) (Nat.le_trans h2 hg1) (.int .i64 x.1)).setNew (p := ⟨g, o * 2 + q * 2 + 1, none⟩) (Nat.le_trans h2 hg1) (.int .i64 x.2)).drew)
        have hPn := Lib.hid hP.out.1
        clear hP hK n1 n2 n3 n4 n5 n6 n7 n8 n9 n10 c0 c1 d0 d1 f0 f1 k0 k1
        go_wp2_with fail
        go_roundw
        case rel => exact ⟨a + 1, _, by omega, by omega, by go_num, by rw [Qm.out.1], Qm.out.2.1, hS, hPn, hKn⟩
        case measure => simp [intOf]; omega
    · have hE := Lib.hid (hRE.out X o m a hX.out (by omega) (by omega) (by omega) ha)
      clear hX ho hM hXl
      go_wp2_with fail
      go_end0
      exact ⟨rfl, by rw [← hE.out]; exact hO.out, hK.out⟩
end

section
open Go.RowKit
attribute [local go_sem ↓] Go.wp_at_zero Go.wp_at_succ
set_option linter.unusedVariables false
set_option linter.unusedSimpArgs false
theorem area_short {L : List Pt} (h : L.length < 2) : area L = 0 := by
  cases hv : validL L with
  | false => exact area_no hv
  | true =>
    rw [(area_yes hv).1]
    match L, h with
    | [], _ => rfl
    | [p], _ => simp [areaTo, nxt, crP, crossI, Int.mul_comm]
    | a :: b :: r, h => simp at h; omega
def OwnP (w0 : World) (L : List Pt) (e : Ending) (w' : World) : Prop := ∃ v, e = .returned v ∧ w'.ownsRow w0.heap.size 37 2 v L.length (rowP L) ∧ Keeps w0 w'
set_option maxRecDepth 100000 in
set_option maxHeartbeats 2000000 in
theorem orient_any (A : Option Addr) (n c : Nat) (L : List Pt) (w : World) (h : Pts w A n c L) (hn : n ≤ 1000000000000) :
    Calls Tryz.prog 51 #[.slice A n c] w (OwnP w (orient L)) := by
  have hl := h.1
  have K1 := Lib.hid (darea_any A n c L w h (by omega))
  have K2 := Lib.hid (fun w1 (hk : Keeps w w1) => clone_any A n c L w1 (h.keep hk) hn)
  have hsh := fun h2 => area_short (L := L) h2
  have hO0 := Lib.hid (show area L = 0 → orient L = [] from fun h => by unfold orient; rw [if_neg (by omega), if_neg (by omega)])
  have hO1 := Lib.hid (show 0 < area L → orient L = L from fun h => by unfold orient; rw [if_pos h])
  have hO2 := Lib.hid (show area L < 0 → orient L = L.take 1 ++ (L.drop 1).reverse from fun h => by unfold orient; rw [if_neg (by omega), if_pos h]; rfl)
  have hb := area_bd L
  have hrl := revT_length L
  unfold revT at hrl
  have hrl := Lib.hid hrl
  clear h
  rcases Int.lt_trichotomy (area L) 0 with h0 | h0 | h0
  · have h2 : 2 ≤ n := by
      rcases Nat.lt_or_ge L.length 2 with h3 | h3
      · have := hsh h3; omega
      · omega
    have hE := hO2.out h0
    rw [hE]
    clear hE hO0 hO1 hO2 hsh
    unfold OwnP
    rw [hrl.out]
    rw [hl]
    have hrl := Lib.hid hrl
    have t1 : (area L == 0) = false := by simp; omega
    have t2 : decide (area L < 0) = true := decide_eq_true h0
    have hll := Lib.hid hl
    clear hl
    generalize area L = x at *
    go_enter Tryz.func51, Tryz.ntmps51
    go_wp2_with (first | (go_at_call 68; (with_reducible refine K1.out.mono ?_); rintro e w1 ⟨rfl, hk⟩; have hk := Lib.hid hk) | (go_at_call 36; (with_reducible refine (K2.out _ hk.out).mono ?_); rintro e w2 ⟨v, rfl, hown, hk2⟩; have hk3 := Lib.hid (hk.out.trans hk2); clear hk2; obtain ⟨g, cap, rfl, hcap, hBg, hown2⟩ := own_slice hown (by omega); have hR := Lib.hid (rev_any _ g cap n 1 (n - 1) (cap - 1) L w2 hown2 hll.out (by omega) hn); rw [Nat.one_mul] at hR; clear hown hown2; have hc1 : ¬ cap = 1 := (by omega); have hc2 : (1 : Int) ≤ n := (by omega); have hc3 : 1 ≤ n := (by omega)) | (go_at_call 69; (with_reducible refine hR.out.mono ?_); rintro e w3 ⟨rfl, hown, hkk⟩; have hown := Lib.hid hown; have hkk := Lib.hid hkk))
    go_ret
    exact ⟨_, rfl, own_base hown.out hk.out.size, hkk.out _ hk3.out hk.out.size⟩
  · have hE := hO0.out h0
    rw [hE]
    clear hE hO0 hO1 hO2 hsh
    have t1 : (area L == 0) = true := by simp; omega
    clear hb
    generalize area L = x at *
    go_enter Tryz.func51, Tryz.ntmps51
    go_wp2_with (first | (go_at_call 68; (with_reducible refine K1.out.mono ?_); rintro e w1 ⟨rfl, hk⟩))
    go_ret
    exact ⟨_, rfl, World.ownsRow_nil _ _ _ _, hk⟩
  · have hE := hO1.out h0
    rw [hE]
    clear hE hO0 hO1 hO2 hsh
    have t1 : (area L == 0) = false := by simp; omega
    have t2 : decide (area L < 0) = false := decide_eq_false (by omega)
    generalize area L = x at *
    go_enter Tryz.func51, Tryz.ntmps51
    go_wp2_with (first | (go_at_call 68; (with_reducible refine K1.out.mono ?_); rintro e w1 ⟨rfl, hk⟩; have hk := Lib.hid hk) | (go_at_call 36; (with_reducible refine (K2.out _ hk.out).mono ?_); rintro e w2 ⟨v, rfl, hown, hk2⟩; have hown := Lib.hid hown; have hk2 := Lib.hid hk2))
    go_ret
    exact ⟨_, rfl, by rw [hl]; exact own_base hown.out hk.out.size, hk.out.trans hk2.out⟩
end
end Go.Proofs.YtdodgnpjlicnoaaGreat
