/- Plain laws of areas: the reverse of a ring, a ring oriented; OffsetVector of the opposite vector. -/
import Derived.Test.YtgkdcipebefmhaaQr
namespace Go.Proofs.Ytgkdcipebefmhaa
set_option linter.unusedVariables false
theorem crP_anti (p q : Pt) : crP q p = -crP p q := by unfold crP crossI; rw [Int.neg_sub, Int.mul_comm (hc q.1), Int.mul_comm (hc q.2)]
/-- The sum along an open line. -/
def pathA : List Pt → Int
  | [] => 0
  | [_] => 0
  | a :: b :: r => crP a b + pathA (b :: r)
theorem pathA_snoc : ∀ (l : List Pt) (a b : Pt), pathA (l ++ [a, b]) = pathA (l ++ [a]) + crP a b
  | [], a, b => by simp [pathA]
  | [x], a, b => by simp [pathA]
  | x :: y :: r, a, b => by
    have ih := pathA_snoc (y :: r) a b
    simp only [List.cons_append, pathA] at ih ⊢
    rw [ih, Int.add_assoc]
theorem pathA_rev : ∀ (l : List Pt), pathA l.reverse = -pathA l
  | [] => by simp [pathA]
  | [x] => by simp [pathA]
  | a :: b :: r => by
    have ih := pathA_rev (b :: r)
    rw [List.reverse_cons] at ih
    rw [List.reverse_cons, List.reverse_cons, List.append_assoc]
    have := pathA_snoc r.reverse b a
    simp only [List.singleton_append]
    rw [this, ih, pathA, crP_anti a b]
    omega
theorem areaTo_take (L : List Pt) : ∀ j, j + 1 ≤ L.length → areaTo L j = pathA (L.take (j + 1))
  | 0, h => by
    rw [takeP_succ L 0 (by omega)]; simp [areaTo, pathA]
  | j + 1, h => by
    have ih := areaTo_take L j (by omega)
    rw [areaTo, ih, takeP_succ L (j + 1) (by omega), takeP_succ L j (by omega), List.append_assoc]
    rw [show [L.getD j pt0] ++ [L.getD (j + 1) pt0] = [L.getD j pt0, L.getD (j + 1) pt0] from rfl, pathA_snoc]
    unfold nxt
    rw [Nat.mod_eq_of_lt (by omega)]
theorem areaTo_cyc (L : List Pt) (h : 0 < L.length) : areaTo L L.length = pathA L + crP (L.getD (L.length - 1) pt0) (L.getD 0 pt0) := by
  obtain ⟨n, hn⟩ : ∃ n, L.length = n + 1 := ⟨L.length - 1, by omega⟩
  have e := areaTo_take L n (by omega)
  rw [List.take_of_length_le (by omega)] at e
  rw [hn, areaTo, e]
  unfold nxt
  rw [hn, Nat.mod_self]
  rfl
theorem validL_revT (L : List Pt) : validL (revT L) = validL L := by
  unfold validL
  rw [revT_length]
  congr 1
  cases L with
  | nil => rfl
  | cons a r => simp [revT]
theorem area_revT (L : List Pt) : area (revT L) = -area L := by
  cases hv : validL L with
  | false => rw [area_no hv, area_no ((validL_revT L).trans hv)]; rfl
  | true =>
    rw [(area_yes hv).1, (area_yes ((validL_revT L).trans hv)).1]
    match L with
    | [] => rfl
    | [p] => simp [revT, areaTo, nxt, crP, crossI, Int.mul_comm]
    | a :: b :: r =>
      have e : revT (a :: b :: r) = a :: (b :: r).reverse := rfl
      rw [areaTo_cyc _ (by rw [revT_length]; simp), areaTo_cyc _ (by simp), e]
      have h1 : (a :: (b :: r).reverse).getD ((a :: (b :: r).reverse).length - 1) pt0 = b := by
        simp [List.getD_eq_getElem?_getD]
      have h2 : ∀ l : List Pt, l ≠ [] → pathA (a :: l.reverse) = crP a (l.getD (l.length - 1) pt0) + pathA l.reverse := by
        intro l hl
        obtain ⟨x, y, hy⟩ : ∃ x y, l.reverse = x :: y := by
          cases h : l.reverse with
          | nil => simp at h; exact absurd h hl
          | cons x y => exact ⟨x, y, rfl⟩
        have hx : l.getD (l.length - 1) pt0 = x := by
          have e2 : l = y.reverse ++ [x] := by rw [← List.reverse_reverse l, hy, List.reverse_cons]
          rw [e2]; simp [List.getD_eq_getElem?_getD]
        rw [hy, hx, pathA]
      rw [h1, h2 (b :: r) (by simp), pathA_rev, pathA]
      have h3 : (a :: b :: r).getD ((a :: b :: r).length - 1) pt0 = (b :: r).getD ((b :: r).length - 1) pt0 := by simp [List.getD_eq_getElem?_getD]
      rw [h3]
      have h4 := crP_anti a ((b :: r).getD ((b :: r).length - 1) pt0)
      have h5 := crP_anti a b
      simp only [List.getD_cons_zero]
      omega
theorem area_orient (L : List Pt) : area (orient L) = if 0 < area L then area L else -area L := by
  unfold orient
  by_cases h : 0 < area L
  · rw [if_pos h, if_pos h]
  · rw [if_neg h, if_neg h]
    by_cases h2 : area L < 0
    · rw [if_pos h2, area_revT]
    · rw [if_neg h2]
      have : area [] = 0 := rfl
      rw [this]; omega
/-- Four points, from the third on. -/
theorem area_four (p q r s : Pt) : area [r, s, p, q] = area [p, q, r, s] := by
  have hv : validL [r, s, p, q] = validL [p, q, r, s] := by
    unfold validL
    simp only [List.all_cons, List.all_nil, List.length_cons, List.length_nil]
    cases vP p <;> cases vP q <;> cases vP r <;> cases vP s <;> rfl
  cases h : validL [p, q, r, s] with
  | false => rw [area_no h, area_no (hv.trans h)]
  | true =>
    rw [(area_yes h).1, (area_yes (hv.trans h)).1]
    simp [areaTo, nxt]
    omega
theorem ofs_neg (p : Pt) (v : Int) : ofs (-p.1, -p.2) v = (-(ofs p v).1, -(ofs p v).2) := by
  have hk : ofsOk (-p.1, -p.2) v = ofsOk p v := by
    unfold ofsOk
    have q : ∀ x : Int, inB (-x) (-2097152) 2097152 = inB x (-2097152) 2097152 := fun x => by
      unfold inB
      rw [Bool.eq_iff_iff]; simp; omega
    rw [q, q]
  cases h : ofsOk p v with
  | false => rw [ofs_no p v h, ofs_no _ v (hk.trans h)]; rfl
  | true =>
    obtain ⟨a, b, u, u2, t, t2, m, s, ea, eb, a0, b0, a1, b1, eu, eu2, et, et2, u0, u1, t0, t1, em, es, s1, hO, _⟩ := ofs_ar p.1 p.2 v h
    have hL : ofsL (-p.1, -p.2) = ofsL p := by unfold ofsL; simp only [Int.neg_mul_neg]
    unfold ofs
    rw [if_pos h, if_pos (hk.trans h), hL]
    have e1 : -(-p.2) * v * 128 = -(-p.2 * v * 128) := by rw [Int.neg_mul, Int.neg_mul]
    have e2 : -p.1 * v * 128 = -(p.1 * v * 128) := by rw [Int.neg_mul, Int.neg_mul]
    rw [e1, e2, dvr_neg_left _ _ (by rw [eu]; omega), dvr_neg_left _ _ (by rw [et]; omega)]
theorem bodyL_swap (a b : Pt) (v : Int) : area (bodyL b a v) = area (bodyL a b v) := by
  have hm : mayB b a v = mayB a b v := by unfold mayB; cases wideB v <;> cases vP a <;> cases vP b <;> rfl
  unfold bodyL
  rw [hm]
  split
  · have e : ofs (subP a b) v = (-(ofs (subP b a) v).1, -(ofs (subP b a) v).2) := by
      rw [← ofs_neg]; unfold subP; congr 2 <;> omega
    rw [e]
    generalize ofs (subP b a) v = n
    rw [area_orient, area_orient]
    have e2 : [subP b (-n.1, -n.2), subP a (-n.1, -n.2), addP a (-n.1, -n.2), addP b (-n.1, -n.2)] = [addP b n, addP a n, subP a n, subP b n] := by
      unfold subP addP; simp [Int.sub_eq_add_neg]
    rw [e2, area_four (subP a n) (subP b n) (addP b n) (addP a n)]
  · rfl
end Go.Proofs.Ytgkdcipebefmhaa
