/- Contract of polygon.Orient. -/
import Derived.Test.YtihmhpleiefodaaQd
import Derived.RegionTactic
import Derived.Deep.RegionWith
namespace Go.Proofs.Ytihmhpleiefodaa
section
open Go.RowKit
attribute [local go_sem ↓] Go.wp_at_zero Go.wp_at_succ
set_option linter.unusedVariables false
set_option linter.unusedSimpArgs false
theorem rowP_set : ∀ (M : List Pt) (s : Pt) (a : Nat), a < M.length → (((rowP M).set (a * 2) (.int .i64 s.1)).set (a * 2 + 1) (.int .i64 s.2)) = rowP (M.set a s)
  | [], s, a, h => by simp at h
  | x :: r, s, 0, _ => by simp [rowP, ptV]
  | x :: r, s, a + 1, h => by
    have ih := rowP_set r s a (by simpa using h)
    rw [List.set_cons_succ, rowP, rowP, ← ih]
    have q : ∀ (l : List Value) (i : Nat) (v : Value), (ptV x ++ l).set ((a + 1) * 2 + i) v = ptV x ++ l.set (a * 2 + i) v := fun l i v => by
      rw [List.set_append_right _ _ (by simp [ptV]; omega)]
      congr 2
      simp [ptV]; omega
    have q0 := q (rowP r) 0 (.int .i64 s.1)
    simp only [Nat.add_zero] at q0
    rw [q0, q]
theorem getD_set (X : List Pt) (a k : Nat) (p : Pt) (h : a < X.length) : (X.set a p).getD k pt0 = if k = a then p else X.getD k pt0 := by
  simp only [List.getD_eq_getElem?_getD, List.getElem?_set]
  by_cases e : a = k
  · subst e; simp [h]
  · rw [if_neg e, if_neg (fun h => e h.symm)]
def revAt (M : List Pt) (o m a k : Nat) : Pt := if o ≤ k ∧ k - o < m ∧ (k - o < a ∨ m - a ≤ k - o) then M.getD (o + (m - 1 - (k - o))) pt0 else M.getD k pt0
theorem rev_step (M X : List Pt) (o m a q : Nat) (hX : ∀ k, X.getD k pt0 = revAt M o m a k) (hl : X.length = M.length) (hm : M.length = o + m) (hq : a + q + 1 = m) (hlt : a < q) :
    ∀ k, ((X.set (o + a) (X.getD (o + q) pt0)).set (o + q) (X.getD (o + a) pt0)).getD k pt0 = revAt M o m (a + 1) k := by
  intro k
  rw [getD_set _ _ _ _ (by simp; omega), getD_set _ _ _ _ (by omega), hX, hX, hX]
  unfold revAt
  by_cases h1 : k = o + q
  · subst h1
    rw [if_pos rfl, if_neg (by omega), if_pos (by omega)]
    congr 1; omega
  · rw [if_neg h1]
    by_cases h2 : k = o + a
    · subst h2
      rw [if_pos rfl, if_neg (by omega), if_pos (by omega)]
      congr 1; omega
    · rw [if_neg h2]
      by_cases h3 : o ≤ k ∧ k - o < m ∧ (k - o < a ∨ m - a ≤ k - o)
      · rw [if_pos h3, if_pos (by omega)]
      · rw [if_neg h3, if_neg (by omega)]
theorem rev_end (M X : List Pt) (o m a : Nat) (hX : ∀ k, X.getD k pt0 = revAt M o m a k) (hl : X.length = M.length) (hm : M.length = o + m) (ha : m ≤ 2 * a + 1) (ha2 : a ≤ m) : X = M.take o ++ (M.drop o).reverse := by
  have e : (M.take o).length = o := by simp; omega
  have e2 : (M.drop o).length = m := by simp; omega
  apply List.ext_getElem?
  intro k
  by_cases hk : k < X.length
  · have h1 := hX k
    rw [List.getD_eq_getElem?_getD, List.getElem?_eq_getElem hk] at h1
    rw [List.getElem?_eq_getElem hk, ← Option.some_get (x := (M.take o ++ (M.drop o).reverse)[k]?) (h := by rw [List.getElem?_eq_getElem (by simp; omega)]; rfl)]
    congr 1
    simp only [Option.getD_some] at h1
    rw [h1]
    unfold revAt
    by_cases hko : k < o
    · rw [if_neg (by omega)]
      have e4 : (M.take o ++ (M.drop o).reverse)[k]? = some (M.getD k pt0) := by
        rw [List.getElem?_append_left (by omega), List.getElem?_take, if_pos hko, List.getD_eq_getElem?_getD, List.getElem?_eq_getElem (by omega)]; rfl
      simp only [e4, Option.get_some]
    · have hkm : k - o < m := by omega
      have e3 : (M.take o ++ (M.drop o).reverse)[k]? = some (M.getD (o + (m - 1 - (k - o))) pt0) := by
        rw [List.getElem?_append_right (by omega), e, List.getElem?_reverse (by omega), e2, List.getElem?_drop, List.getD_eq_getElem?_getD, List.getElem?_eq_getElem (by omega)]; rfl
      simp only [e3, Option.get_some]
      by_cases hc : k - o < a ∨ m - a ≤ k - o
      · rw [if_pos ⟨by omega, hkm, hc⟩]
      · rw [if_neg (by omega)]
        congr 1; omega
  · rw [List.getElem?_eq_none (by omega), List.getElem?_eq_none (by simp; omega)]
/-- Two points of an own row set: in both orders the same row. -/
theorem rev_two {w : World} {B g n cap : Nat} {X : List Pt} (h : w.ownsRow B 50 2 (.slice (some ⟨g, 0, none⟩) n cap) n (rowP X)) (i j : Nat) (y x : Pt) (hi : i < X.length) (hj : j < X.length) (hne : i < j) :
    ((((w.setCell ⟨g, i * 2, none⟩ (.int .i64 y.1)).setCell ⟨g, i * 2 + 1, none⟩ (.int .i64 y.2)).setCell ⟨g, j * 2, none⟩ (.int .i64 x.1)).setCell ⟨g, j * 2 + 1, none⟩ (.int .i64 x.2)).drew.ownsRow B 50 2 (.slice (some ⟨g, 0, none⟩) n cap) n (rowP ((X.set i y).set j x)) ∧
    ((((w.setCell ⟨g, j * 2, none⟩ (.int .i64 x.1)).setCell ⟨g, j * 2 + 1, none⟩ (.int .i64 x.2)).setCell ⟨g, i * 2, none⟩ (.int .i64 y.1)).setCell ⟨g, i * 2 + 1, none⟩ (.int .i64 y.2)).drew.ownsRow B 50 2 (.slice (some ⟨g, 0, none⟩) n cap) n (rowP ((X.set i y).set j x)) := by
  constructor
  · rw [← rowP_set _ x j (by simpa using hj), ← rowP_set _ y i hi]
    exact own_keep (World.ownsRow.stored (World.ownsRow.stored (World.ownsRow.stored (World.ownsRow.stored h _ _).1 _ _).1 _ _).1 _ _).1 ((Keeps.refl _).drew)
  · rw [List.set_comm _ _ (by omega), ← rowP_set _ y i (by simpa using hi), ← rowP_set _ x j hj]
    exact own_keep (World.ownsRow.stored (World.ownsRow.stored (World.ownsRow.stored (World.ownsRow.stored h _ _).1 _ _).1 _ _).1 _ _).1 ((Keeps.refl _).drew)
end

section
open Go.RowKit
attribute [local go_sem ↓] Go.wp_at_zero Go.wp_at_succ
set_option linter.unusedVariables false
set_option linter.unusedSimpArgs false
theorem area_short {L : List Pt} (h : L.length < 2) : area L = 0 := by
  cases hv : validL L with
  | false => exact area_no hv
  | true =>
    rw [(area_yes hv).1]
    match L, h with
    | [], _ => rfl
    | [p], _ => simp [areaTo, nxt, crP, crossI, Int.mul_comm]
    | a :: b :: r, h => simp at h; omega
def OwnP (w0 : World) (L : List Pt) (e : Ending) (w' : World) : Prop := ∃ v, e = .returned v ∧ w'.ownsRow w0.heap.size 50 2 v L.length (rowP L) ∧ Keeps w0 w'
end
end Go.Proofs.Ytihmhpleiefodaa
