/- Rows of stops: a move up by one place, a store of a stop. -/
import Derived.Test.YtboomdbmeallfaaGo
import Derived.Test.YtboomdbmeallfaaRo
namespace Go.Proofs.Ytboomdbmeallfaa
open Go.RowKit
set_option linter.unusedVariables false
set_option linter.unusedSimpArgs false
theorem rowS_take : ∀ (L : List St) (k : Nat), (rowS L).take (k * 5) = rowS (L.take k)
  | L, 0 => by simp [rowS]
  | [], k + 1 => by simp [rowS]
  | s :: r, k + 1 => by
    rw [rowS, List.take_succ_cons, rowS, List.take_append, List.take_of_length_le (by simp [stV]; omega), show (k + 1) * 5 - (stV s).length = k * 5 by simp [stV]; omega, rowS_take r k]
theorem rowS_drop : ∀ (L : List St) (k : Nat), (rowS L).drop (k * 5) = rowS (L.drop k)
  | L, 0 => by simp
  | [], k + 1 => by simp [rowS]
  | s :: r, k + 1 => by
    rw [rowS, List.drop_succ_cons, List.drop_append, List.drop_of_length_le (by simp [stV]; omega), show (k + 1) * 5 - (stV s).length = k * 5 by simp [stV]; omega, rowS_drop r k, List.nil_append]
theorem oneCell_rowS : ∀ (L : List St), ∀ u ∈ rowS L, u.oneCell' = true
  | [], u, hu => by cases hu
  | s :: r, u, hu => by
    rcases List.mem_append.1 hu with h | h
    · exact oneCell_stV s u h
    · exact oneCell_rowS r u h
def moved (O : List St) (a : Nat) : List St := (O ++ [st0]).take (a + 1) ++ O.drop a
theorem moved_length (O : List St) (a : Nat) (h : a ≤ O.length) : (moved O a).length = O.length + 1 := by
  unfold moved; simp; omega
theorem moved_set (O : List St) (s : St) (a : Nat) (h : a ≤ O.length) : (moved O a).set a s = O.take a ++ s :: O.drop a := by
  unfold moved
  rw [List.set_append_left _ _ (by simp; omega)]
  have e : (O ++ [st0]).take (a + 1) = O.take a ++ [(O ++ [st0]).getD a st0] := by
    rw [take_succ' _ a (by simp; omega), List.take_append_of_le_length h]
  rw [e, List.set_append_right _ _ (by simp; omega)]
  have e2 : (O.take a).length = a := by simp; omega
  rw [e2, Nat.sub_self]
  simp
theorem rowS_set : ∀ (M : List St) (s : St) (a : Nat), a < M.length →
    ((((((rowS M).set (a * 5) (.int .i64 s.1)).set (a * 5 + 1) (.int .u8 s.2.1)).set (a * 5 + 2) (.int .u8 s.2.2.1)).set (a * 5 + 3) (.int .u8 s.2.2.2.1)).set (a * 5 + 4) (.int .u8 s.2.2.2.2)) = rowS (M.set a s)
  | [], s, a, h => by simp at h
  | x :: r, s, 0, _ => by simp [rowS, stV]
  | x :: r, s, a + 1, h => by
    have ih := rowS_set r s a (by simpa using h)
    rw [List.set_cons_succ, rowS, rowS, ← ih]
    have q : ∀ (l : List Value) (i : Nat) (v : Value), (stV x ++ l).set ((a + 1) * 5 + i) v = stV x ++ l.set (a * 5 + i) v := fun l i v => by
      rw [List.set_append_right _ _ (by simp [stV]; omega)]
      congr 2
      simp [stV]; omega
    have q0 := q (rowS r) 0 (.int .i64 s.1)
    simp only [Nat.add_zero] at q0
    rw [q0, q, q, q, q]
theorem row_drop {w : World} {g j a : Nat} {cur : Array Value} {e : TypeId} {O : List St} (hg : w.heap[g]? = some (.cells cur e (0, 0))) (htk : cur.toList.take ((j + 1) * 5) = rowS (O ++ [st0])) (hl : O.length = j) (ha : a ≤ j) :
    ∀ i v, (rowS (O.drop a))[i]? = some v → w.cell? ((⟨g, a * 5, none⟩ : Addr).add i) = some v := by
  intro i v hv
  rw [← rowS_drop, List.getElem?_drop] at hv
  have hlt := (List.getElem?_eq_some_iff.1 hv).1
  rw [rowS_length] at hlt
  have e1 : cur.toList[a * 5 + i]? = some v := by
    have e2 : (cur.toList.take ((j + 1) * 5))[a * 5 + i]? = some v := by rw [htk, rowS_append, List.getElem?_append_left (by rw [rowS_length]; omega)]; exact hv
    rw [List.getElem?_take, if_pos (by omega)] at e2
    exact e2
  rw [show (⟨g, a * 5, none⟩ : Addr).add i = ⟨g, a * 5 + i, none⟩ by rw [Addr.add_lit], cell_of_row w g _ cur _ (0, 0) hg, ← e1]; simp
theorem own_splice5 {w : World} {B g j a cap : Nat} {cur : Array Value} {e : TypeId} {O : List St} (hown : w.ownsRow B e 5 (.slice (some ⟨g, 0, none⟩) (j + 1) cap) (j + 1) (rowS (O ++ [st0]))) (hg : w.heap[g]? = some (.cells cur e (0, 0)))
    (hnc : j + 1 ≤ cap) (hcs : cur.size = cap * 5) (htk : cur.toList.take ((j + 1) * 5) = rowS (O ++ [st0])) (hl : O.length = j) (ha : a ≤ j) :
    (w.drew.setRow g (cur.toList.take ((a + 1) * 5) ++ rowS (O.drop a) ++ cur.toList.drop ((a + 1) * 5 + (rowS (O.drop a)).length)).toArray).ownsRow B e 5 (.slice (some ⟨g, 0, none⟩) (j + 1) cap) (j + 1) (rowS (moved O a)) := by
  have hR : (rowS (O.drop a)).length = (j - a) * 5 := by rw [rowS_length, List.length_drop, hl]
  have hz : cur.toList.length = cap * 5 := by simpa using hcs
  have h5 : (j + 1) * 5 ≤ cap * 5 := Nat.mul_le_mul_right _ hnc
  refine own_setRow (own_keep hown ((Keeps.refl _).drew)) cur hg _ ?_ ?_
  · rw [hR]
    simp only [List.length_append, List.length_take, List.length_drop, hz, hR, hcs]
    omega
  · have e1 : cur.toList.take ((a + 1) * 5) = rowS ((O ++ [st0]).take (a + 1)) := by
      rw [← rowS_take, ← htk, List.take_take, Nat.min_eq_left (by omega)]
    rw [List.take_append_of_le_length (by simp only [List.length_append, List.length_take, hz, hR]; omega), List.take_of_length_le (by simp only [List.length_append, List.length_take, hz, hR]; omega), e1]
    unfold moved
    rw [rowS_append]
theorem own_splice0 {w : World} {B g j cap : Nat} {cur : Array Value} {e : TypeId} {O : List St} (hown : w.ownsRow B e 5 (.slice (some ⟨g, 0, none⟩) (j + 1) cap) (j + 1) (rowS (O ++ [st0]))) (hg : w.heap[g]? = some (.cells cur e (0, 0)))
    (htk : cur.toList.take ((j + 1) * 5) = rowS (O ++ [st0])) (hl : O.length = j) :
    (w.drew.setRow g (cur.toList.take 0 ++ ([] : List Value) ++ cur.toList.drop (0 + ([] : List Value).length)).toArray).ownsRow B e 5 (.slice (some ⟨g, 0, none⟩) (j + 1) cap) (j + 1) (rowS (moved O j)) := by
  refine own_setRow (own_keep hown ((Keeps.refl _).drew)) cur hg _ (by simp) ?_
  unfold moved
  have e3 : O.drop j = [] := List.drop_of_length_le (by omega)
  rw [List.take_of_length_le (l := O ++ [st0]) (by simp; omega), e3]
  simpa using htk
end Go.Proofs.Ytboomdbmeallfaa
