/- Contract of slices.Compact for points. -/
import Derived.Test.YtihmhpleiefodaaQb
import Derived.Test.YtihmhpleiefodaaQf
import Derived.Laws.CopyOwn
import Derived.Lib.SliceRun
import Derived.Test.YtihmhpleiefodaaRo
import Derived.RegionTactic
import Derived.Deep.RegionWith
namespace Go.Proofs.Ytihmhpleiefodaa
section
set_option linter.unusedVariables false
set_option linter.unusedSimpArgs false
/-- the first j points without consecutive repeats -/
def dedTo (L : List Pt) : Nat → List Pt
  | 0 => []
  | j + 1 => if j = 0 ∨ L.getD j pt0 ≠ L.getD (j - 1) pt0 then dedTo L j ++ [L.getD j pt0] else dedTo L j
def ded (L : List Pt) : List Pt := dedTo L L.length
theorem dedTo_len (L : List Pt) : ∀ j, (dedTo L j).length ≤ j
  | 0 => Nat.le_refl _
  | j + 1 => by
    have := dedTo_len L j
    unfold dedTo
    split <;> simp <;> omega
theorem dedTo_pos (L : List Pt) : ∀ j, 0 < j → 0 < (dedTo L j).length
  | 0, h => by omega
  | 1, _ => by simp [dedTo]
  | j + 2, _ => by
    have := dedTo_pos L (j + 1) (by omega)
    unfold dedTo
    split
    · simp
    · exact this
/-- where no neighbours are equal, nothing is dropped -/
theorem dedTo_all (L : List Pt) : ∀ j, j ≤ L.length → (∀ i, 0 < i → i < j → L.getD i pt0 ≠ L.getD (i - 1) pt0) → dedTo L j = L.take j
  | 0, _, _ => by simp [dedTo]
  | j + 1, h, hd => by
    have ih := dedTo_all L j (by omega) (fun i h0 h1 => hd i h0 (by omega))
    have e : L.take (j + 1) = L.take j ++ [L.getD j pt0] := by
      rw [List.take_succ_eq_append_getElem (by omega), List.getD_eq_getElem?_getD, List.getElem?_eq_getElem (by omega)]; rfl
    unfold dedTo
    rw [e, ih, if_pos]
    by_cases h0 : j = 0
    · exact Or.inl h0
    · exact Or.inr (hd j (by omega) (by omega))
theorem dedTo_ok (L : List Pt) (h : ∀ p ∈ L, okP p) : ∀ j, j ≤ L.length → ∀ p ∈ dedTo L j, okP p
  | 0, _, p, hp => by simp [dedTo] at hp
  | j + 1, hj, p, hp => by
    unfold dedTo at hp
    have hL : okP (L.getD j pt0) := by
      rw [List.getD_eq_getElem?_getD, List.getElem?_eq_getElem (by omega)]; exact h _ (List.getElem_mem _)
    split at hp
    · rcases List.mem_append.1 hp with h1 | h1
      · exact dedTo_ok L h j (by omega) p h1
      · simp at h1; subst h1; exact hL
    · exact dedTo_ok L h j (by omega) p hp
/-- the last point of the list so far is the last point read -/
theorem dedTo_last (L : List Pt) : ∀ j, 0 < j → (dedTo L j).getD ((dedTo L j).length - 1) pt0 = L.getD (j - 1) pt0
  | 0, h => by omega
  | j + 1, _ => by
    by_cases h0 : j = 0
    · subst h0; simp [dedTo]
    · have ih := dedTo_last L j (by omega)
      unfold dedTo
      split
      · rw [List.length_append, List.length_singleton, Nat.add_sub_cancel, List.getD_eq_getElem?_getD, List.getElem?_append_right (Nat.le_refl _), Nat.sub_self, Nat.add_sub_cancel]; rfl
      · rename_i h
        rw [ih, Nat.add_sub_cancel]
        have : ¬ (L.getD j pt0 ≠ L.getD (j - 1) pt0) := fun e => h (Or.inr e)
        exact (Classical.not_not.1 this).symm
theorem getD_left (A B : List Pt) (i : Nat) (h : i < A.length) : (A ++ B).getD i pt0 = A.getD i pt0 := by
  rw [List.getD_eq_getElem?_getD, List.getElem?_append_left h, ← List.getD_eq_getElem?_getD]
theorem getD_snoc (A : List Pt) (p : Pt) : (A ++ [p]).getD A.length pt0 = p := by
  rw [List.getD_eq_getElem?_getD, List.getElem?_append_right (Nat.le_refl _), Nat.sub_self]; rfl
/-- no neighbours are equal -/
def Apart (L : List Pt) : Prop := ∀ i, 0 < i → i < L.length → L.getD i pt0 ≠ L.getD (i - 1) pt0
theorem dedTo_apart (L : List Pt) : ∀ j, Apart (dedTo L j)
  | 0 => fun i h0 h1 => by simp [dedTo] at h1
  | j + 1 => by
    have ih := dedTo_apart L j
    by_cases h0 : j = 0
    · subst h0; intro i hi h1; simp [dedTo] at h1; omega
    · have hl := dedTo_last L j (by omega)
      have hp := dedTo_pos L j (by omega)
      unfold dedTo
      split
      · rename_i h
        intro i hi h1
        rw [List.length_append, List.length_singleton] at h1
        by_cases hlt : i < (dedTo L j).length
        · rw [getD_left _ _ _ hlt, getD_left _ _ _ (by omega)]
          exact ih i hi hlt
        · obtain rfl : i = (dedTo L j).length := by omega
          rw [getD_snoc, getD_left _ _ _ (by omega), hl]
          rcases h with h | h
          · omega
          · exact h
      · exact ih
/-- a second pass changes nothing -/
theorem ded_ded (L : List Pt) : ded (ded L) = ded L := by
  have h := dedTo_apart L L.length
  have e := dedTo_all (ded L) (ded L).length (Nat.le_refl _) h
  rw [List.take_of_length_le (Nat.le_refl _)] at e
  exact e
/-- a closed polyline: the points at the end that equal the first are dropped -/
def trimC : Nat → List Pt → List Pt
  | 0, L => L
  | f + 1, L => if 1 < L.length ∧ L.getD (L.length - 1) pt0 = L.getD 0 pt0 then trimC f (L.take (L.length - 1)) else L
def dedC (closed : Bool) (L : List Pt) : List Pt := if closed = true then trimC (ded L).length (ded L) else ded L
theorem trimC_len : ∀ (f : Nat) (L : List Pt), (trimC f L).length ≤ L.length
  | 0, _ => Nat.le_refl _
  | f + 1, L => by
    unfold trimC
    split
    · have := trimC_len f (L.take (L.length - 1)); simp at this; omega
    · exact Nat.le_refl _
theorem apart_take {L : List Pt} (h : Apart L) (k : Nat) : Apart (L.take k) := by
  intro i h0 h1
  rw [List.length_take] at h1
  have e : ∀ m, m < k → (L.take k).getD m pt0 = L.getD m pt0 := fun m hm => by
    rw [List.getD_eq_getElem?_getD, List.getElem?_take, if_pos hm, ← List.getD_eq_getElem?_getD]
  rw [e i (by omega), e (i - 1) (by omega)]
  exact h i h0 (by omega)
theorem trimC_apart : ∀ (f : Nat) (L : List Pt), Apart L → Apart (trimC f L)
  | 0, _, h => h
  | f + 1, L, h => by
    unfold trimC
    split
    · exact trimC_apart f _ (apart_take h _)
    · exact h
end

section
open Go.RowKit
set_option linter.unusedVariables false
set_option linter.unusedSimpArgs false
section
variable {P : Program}
theorem run_clear_rowN (w : World) (t elem ty : TypeId) (z : Value) (size g o n c : Nat) (cur : Array Value) (e : TypeId) (ht : P.underlying t = some (.slice elem)) (hv : ∀ w, (zeroValue elem).run P w = .ok z w) (hz : z.cells.size = size)
    (hn : 0 < n) (hg : w.heap[g]? = some (.cells cur e (0, 0))) (hfit : o + (Builtin.zeroCells z.cells n).toList.length ≤ cur.size) (h1 : ∀ v ∈ (Builtin.zeroCells z.cells n).toList, v.oneCell' = true) :
    (Builtin.clear_ #[t] ty #[.slice (some ⟨g, o, none⟩) n c]).run P w = .ok (.tuple #[]) (w.setRow g (cur.toList.take o ++ (Builtin.zeroCells z.cells n).toList ++ cur.toList.drop (o + (Builtin.zeroCells z.cells n).toList.length)).toArray) := by
  have hst := run_storeCells_at P g o e (Builtin.zeroCells z.cells n).toList 0 cur w hg (by simpa using hfit) h1
  obtain ⟨m, rfl⟩ : ∃ m, n = m + 1 := ⟨n - 1, by omega⟩
  simp only [Nat.add_zero] at hst
  simp [Builtin.clear_, run_underlying ht, hv, hst]
end
end

section
set_option linter.unusedVariables false
set_option linter.unusedSimpArgs false
/-- the row while it is compacted: the kept points, behind them the old row -/
def cmpX (M : List Pt) (j : Nat) : List Pt := dedTo M j ++ M.drop (dedTo M j).length
theorem cmpX_len (M : List Pt) (j : Nat) (hj : j ≤ M.length) : (cmpX M j).length = M.length := by
  have := dedTo_len M j
  unfold cmpX; simp; omega
theorem cmpX_at (M : List Pt) (j i : Nat) (h : (dedTo M j).length ≤ i) (hi : i < M.length) : (cmpX M j).getD i pt0 = M.getD i pt0 := by
  unfold cmpX
  rw [List.getD_eq_getElem?_getD, List.getElem?_append_right h, List.getElem?_drop, List.getD_eq_getElem?_getD]
  congr 2; omega
theorem dedTo_new (M : List Pt) (j : Nat) (h0 : 0 < j) (h : M.getD j pt0 ≠ M.getD (j - 1) pt0) : dedTo M (j + 1) = dedTo M j ++ [M.getD j pt0] := by
  rw [dedTo, if_pos (Or.inr h)]
theorem dedTo_old (M : List Pt) (j : Nat) (h0 : 0 < j) (h : M.getD j pt0 = M.getD (j - 1) pt0) : dedTo M (j + 1) = dedTo M j := by
  rw [dedTo, if_neg (fun e => e.elim (fun e => by omega) (fun e => e h))]
theorem cmpX_new (M : List Pt) (j : Nat) (h0 : 0 < j) (hl : (dedTo M j).length < M.length) (h : M.getD j pt0 ≠ M.getD (j - 1) pt0) : (cmpX M j).set (dedTo M j).length (M.getD j pt0) = cmpX M (j + 1) := by
  unfold cmpX
  rw [dedTo_new M j h0 h, List.set_append_right _ _ (Nat.le_refl _), Nat.sub_self, List.append_assoc]
  congr 1
  rw [List.length_append, List.length_singleton, List.drop_eq_getElem_cons hl]
  rfl
theorem cmpX_old (M : List Pt) (j : Nat) (h0 : 0 < j) (h : M.getD j pt0 = M.getD (j - 1) pt0) : cmpX M (j + 1) = cmpX M j := by
  unfold cmpX; rw [dedTo_old M j h0 h]
theorem cmpX_start (M : List Pt) (k : Nat) (hk : k < M.length) (h0 : 0 < k) (hd : ∀ i, 0 < i → i < k → M.getD i pt0 ≠ M.getD (i - 1) pt0) (h : M.getD k pt0 = M.getD (k - 1) pt0) : dedTo M (k + 1) = M.take k ∧ cmpX M (k + 1) = M := by
  have e := dedTo_all M k (by omega) hd
  have e2 : dedTo M (k + 1) = M.take k := by rw [dedTo_old M k h0 h, e]
  refine ⟨e2, ?_⟩
  unfold cmpX
  rw [e2, List.length_take, Nat.min_eq_left (by omega), List.take_append_drop]
theorem cmpX_take (M : List Pt) : (cmpX M M.length).take (dedTo M M.length).length = ded M := by
  unfold cmpX ded; rw [List.take_left']; rfl
end

section
section
open Go.RowKit
attribute [local go_sem ↓] Go.wp_at_zero Go.wp_at_succ
set_option linter.unusedVariables false
set_option linter.unusedSimpArgs false
theorem own_cut {w : World} {B n k g cap size : Nat} {e : TypeId} {xs : List Value} (h : w.ownsRow B e size (.slice (some ⟨g, 0, none⟩) n cap) n xs) (hk : k ≤ n) : w.ownsRow B e size (.slice (some ⟨g, 0, none⟩) k cap) k (xs.take (k * size)) := by
  have hx := h.1
  have hm : k * size ≤ n * size := Nat.mul_le_mul_right _ hk
  rcases h.2 with ⟨h', _⟩ | ⟨g', cap', cur', h', hb, hg', hnc, hcm, hcs, htake⟩
  · simp at h'
  · simp only [Value.slice.injEq, Option.some.injEq, Addr.mk.injEq, and_true, true_and] at h'
    obtain ⟨rfl, rfl⟩ := h'
    refine ⟨by rw [List.length_take]; omega, .inr ⟨g, cap, cur', rfl, hb, hg', Nat.le_trans hk hnc, hcm, hcs, ?_⟩⟩
    rw [← htake, List.take_take, Nat.min_eq_left hm]
theorem own_cur {w : World} {B n g cap size : Nat} {e : TypeId} {xs : List Value} (h : w.ownsRow B e size (.slice (some ⟨g, 0, none⟩) n cap) n xs) : ∃ cur, w.heap[g]? = some (.cells cur e (0, 0)) ∧ n ≤ cap ∧ cur.size = cap * size ∧ cur.toList.take (n * size) = xs := by
  rcases h.2 with ⟨h', _⟩ | ⟨g', cap', cur', h', hb, hg', hnc, hcm, hcs, htake⟩
  · simp at h'
  · simp only [Value.slice.injEq, Option.some.injEq, Addr.mk.injEq, and_true, true_and] at h'
    obtain ⟨rfl, rfl⟩ := h'
    exact ⟨cur', hg', hnc, hcs, htake⟩
theorem rowP_take (M : List Pt) (k : Nat) (h : k ≤ M.length) : (rowP M).take (k * 2) = rowP (M.take k) := by
  induction M generalizing k with
  | nil => simp at h; subst h; rfl
  | cons p r ih =>
    cases k with
    | zero => rfl
    | succ k =>
      rw [List.take_succ_cons, rowP, rowP, ← ih k (by simpa using h), List.take_append]
      have : (ptV p).length = 2 := rfl
      rw [this, List.take_of_length_le (by omega)]
      congr 2; omega
theorem zero_len (m : Nat) : (Builtin.zeroCells #[.int .i64 0, .int .i64 0] m).toList.length = m * 2 := by simp [Builtin.zeroCells]
theorem zero_one (m : Nat) : ∀ v ∈ (Builtin.zeroCells #[.int .i64 0, .int .i64 0] m).toList, v.oneCell' = true := by
  intro v hv
  simp [Builtin.zeroCells] at hv
  obtain ⟨i, _, rfl⟩ := hv
  rcases (show i % 2 = 0 ∨ i % 2 = 1 by omega) with h | h <;> rw [h] <;> rfl
/-- The cleared tail: the head stands. -/
theorem own_cleared {w : World} {B n k g cap : Nat} {e : TypeId} {X : List Pt} {cur : Array Value} (h : w.ownsRow B e 2 (.slice (some ⟨g, 0, none⟩) n cap) n (rowP X)) (hX : X.length = n) (hk : k ≤ n) (hg : w.heap[g]? = some (.cells cur e (0, 0))) (Z : List Value) (hZ : k * 2 + Z.length ≤ cur.size) :
    (w.setRow g (cur.toList.take (k * 2) ++ Z ++ cur.toList.drop (k * 2 + Z.length)).toArray).ownsRow B e 2 (.slice (some ⟨g, 0, none⟩) k cap) k (rowP (X.take k)) := by
  have h1 := own_cut h hk
  obtain ⟨cur', hg', _, hcs, ht⟩ := own_cur h
  rw [hg] at hg'
  obtain rfl : cur = cur' := by simpa using hg'
  refine own_setRow h1 cur hg _ (by simp; omega) ?_
  rw [← rowP_take X k (by omega), ← ht, List.take_take, Nat.min_eq_left (by omega), List.append_assoc, List.take_left']
  simp; omega
theorem own_point {w : World} {B n g cap i : Nat} {X : List Pt} {p : Pt} (h : w.ownsRow B 50 2 (.slice (some ⟨g, 0, none⟩) n cap) n (rowP X)) (hi : i < X.length) :
    ((w.setCell ⟨g, i * 2, none⟩ (.int .i64 p.1)).setCell ⟨g, i * 2 + 1, none⟩ (.int .i64 p.2)).ownsRow B 50 2 (.slice (some ⟨g, 0, none⟩) n cap) n (rowP (X.set i p)) := by
  rw [← rowP_set _ p i hi]
  exact (World.ownsRow.stored (World.ownsRow.stored h _ _).1 _ _).1
def CmpR (w : World) (B : Nat) (M : List Pt) (e : Ending) (w' : World) : Prop := ∃ v, e = .returned v ∧ w'.ownsRow B 50 2 v (ded M).length (rowP (ded M)) ∧ ∀ w0, Keeps w0 w → w0.heap.size ≤ B → Keeps w0 w'
set_option maxRecDepth 100000 in
set_option maxHeartbeats 4000000 in
theorem compact_any (B g cap n : Nat) (M : List Pt) (w : World) (hown : w.ownsRow B 50 2 (.slice (some ⟨g, 0, none⟩) n cap) n (rowP M)) (hM : M.length = n) (hn : n ≤ 1000000000000) (h2 : 2 ≤ n) :
    Calls Try.prog 54 #[.slice (some ⟨g, 0, none⟩) n cap] w (CmpR w B M) := by
  have hO := Lib.hid hown
  have hni : (n : Int) ≤ 1000000000000 := by omega
  clear hown
  go_enter Try.func54, Try.ntmps54
  go_wp2_with fail
  go_loopw [3] (fun i wr => ∃ k : Nat, 0 < k ∧ k ≤ n ∧ i = .int .i64 k ∧ Hid (∀ i, 0 < i → i < k → M.getD i pt0 ≠ M.getD (i - 1) pt0) ∧ Hid (wr.ownsRow B 50 2 (.slice (some ⟨g, 0, none⟩) n cap) n (rowP M)) ∧ Hid (∀ w0, Keeps w0 w → w0.heap.size ≤ B → Keeps w0 wr)) (fun i _ => n - (intOf i).toNat)
  case atStart => exact ⟨1, by omega, by omega, rfl, Lib.hid (fun i h0 h1 => by omega), hO, Lib.hid (fun w0 hk _ => hk)⟩
  case round =>
    clear hO
    obtain ⟨k, hk0, hkn, rfl, hd, hO, hK⟩ := hrel
    by_cases hlt : (k : Int) < n
    · have hOg := hO.out
      obtain ⟨hg1, hg2⟩ := rowBase hOg
      obtain ⟨cur0, _, hnc, _, _⟩ := own_cur hOg
      have rp : ∀ q i, q < n → i < 2 → wr.cell? ⟨g, q * 2 + i, none⟩ = (ptV (M.getD q pt0))[i]? := fun q i hk hi => by
        obtain ⟨_, e1, e2, _⟩ := rowAt hOg (q * 2 + i) (by omega)
        exact e1.trans (rowP_get M q i (by omega) hi)
      have c0 := rp k 0 (by omega) (by omega)
      have c1 := rp k 1 (by omega) (by omega)
      have d0 := rp (k - 1) 0 (by omega) (by omega)
      have d1 := rp (k - 1) 1 (by omega) (by omega)
      rw [Nat.add_zero] at c0 d0
      obtain ⟨q, hq⟩ : ∃ q : Nat, k = q + 1 := ⟨k - 1, by omega⟩
      have hk1 : (k : Int) - 1 = q := by omega
      have hk2 : (q : Int) < n := by omega
      have hk3 : (q : Int) ≤ 9223372036854775807 := by omega
      rw [show k - 1 = q by omega] at *
      have hS := Lib.hid (cmpX_start M k (by omega) hk0 hd.out)
      have hN := hd
      have hQ := Lib.hid hq
      have hwq : IntKind.i64.wrap (q : Int) = q := i64_in _ (by omega)
      clear hd rp hOg hq
      generalize hx : M.getD k pt0 = x at *
      generalize hy : M.getD q pt0 = y at *
      have hxy := Lib.hid (And.intro hx hy)
      clear hx hy
      simp only [ptV, List.getElem?_cons_zero, List.getElem?_cons_succ] at c0 c1 d0 d1
      obtain ⟨x0, x1⟩ := x
      obtain ⟨y0, y1⟩ := y
      have hkc : k < cap := by omega
      have hkc2 : (k : Int) < cap := by omega
      have hkc3 : (cap - k = 0) = False := by simp; omega
      clear hnc
      have hP := fun w => ptEql x0 x1 y0 y1 w
      by_cases he : x0 = y0 ∧ x1 = y1
      · obtain ⟨rfl, rfl⟩ := he
        simp only [beq_self_eq_true, Bool.and_self] at hP
        go_wp2_with fail
        go_quiet (fail)
        go_wp2_with fail
        have hSt := Lib.hid (hS.out (by rw [hQ.out, Nat.add_sub_cancel, hxy.out.2]))
        have hO1 := Lib.hid (own_keep hO.out ((Keeps.refl _).drewN nq))
        have hK1 := Lib.hid (fun w0 h1 h2 => (hK.out w0 h1 h2).drewN nq)
        clear hO hK hS c0 c1 d0 d1 hP
        go_loopw [3, 5] (fun s3 s5 wi => ∃ j kk : Nat, k < j ∧ j ≤ n ∧ s5 = .int .i64 ((j : Int) - k) ∧ s3 = .int .i64 kk ∧ kk < j ∧ k ≤ kk ∧ Hid (kk = (dedTo M j).length) ∧ Hid (wi.ownsRow B 50 2 (.slice (some ⟨g, 0, none⟩) n cap) n (rowP (cmpX M j))) ∧ Hid (∀ w0, Keeps w0 w → w0.heap.size ≤ B → Keeps w0 wi)) (fun _ i _ => n - (intOf i).toNat)
        case atStart => exact ⟨k + 1, k, by omega, by omega, by go_num, rfl, by omega, by omega, Lib.hid (by rw [hSt.out.1, List.length_take]; omega), by rw [hSt.out.2]; exact hO1, hK1⟩
        case round =>
          clear hO1 hK1
          obtain ⟨j, kk, hj, hjn, rfl, rfl, hkj, hkk, hD, hO, hK⟩ := hrel
          by_cases hl2 : j < n
          · have hOg := hO.out
            obtain ⟨hg1, hg2⟩ := rowBase hOg
            obtain ⟨cur, _, hnc, hcs, _⟩ := own_cur hOg
            have hl := (cmpX_len M j (by omega)).trans hM
            obtain ⟨r, hr⟩ : ∃ r : Nat, j = k + r + 1 := ⟨j - k - 1, by omega⟩
            have rp : ∀ q i, kk ≤ q → q < n → i < 2 → wr.cell? ⟨g, q * 2 + i, none⟩ = (ptV (M.getD q pt0))[i]? := fun q i hq hk hi => by
              obtain ⟨_, e1, e2, _⟩ := rowAt hOg (q * 2 + i) (by omega)
              rw [← cmpX_at M j q (by rw [← hD.out]; omega) (by omega)]
              exact e1.trans (rowP_get _ q i (by omega) hi)
            obtain ⟨t, ht⟩ : ∃ t : Nat, j = k + t := ⟨j - k, by omega⟩
            have e5 : (j : Int) - k = t := by omega
            rw [e5]
            have hr1 : (t : Int) - 1 = r := by omega
            have hwr : IntKind.i64.wrap (r : Int) = r := i64_in _ (by omega)
            have htn : (t : Int) < ((n - k : Nat) : Int) := by omega
            have hrn : (r : Int) < ((n - k : Nat) : Int) := by omega
            have c0 := rp j 0 (by omega) (by omega) (by omega)
            have c1 := rp j 1 (by omega) (by omega) (by omega)
            have d0 := rp (j - 1) 0 (by omega) (by omega) (by omega)
            have d1 := rp (j - 1) 1 (by omega) (by omega) (by omega)
            rw [show j * 2 + 0 = k * 2 + t * 2 by omega] at c0
            rw [show j * 2 + 1 = k * 2 + t * 2 + 1 by omega] at c1
            rw [show (j - 1) * 2 + 0 = k * 2 + r * 2 by omega] at d0
            rw [show (j - 1) * 2 + 1 = k * 2 + r * 2 + 1 by omega] at d1
            have hnew := Lib.hid (cmpX_new M j (by omega) (by rw [← hD.out]; omega))
            have hold := Lib.hid (cmpX_old M j (by omega))
            have hdn := Lib.hid (dedTo_new M j (by omega))
            have hdo := Lib.hid (dedTo_old M j (by omega))
            clear rp
            generalize hu : M.getD j pt0 = u at *
            generalize hv : M.getD (j - 1) pt0 = v at *
            simp only [ptV, List.getElem?_cons_zero, List.getElem?_cons_succ] at c0 c1 d0 d1
            obtain ⟨u0, u1⟩ := u
            obtain ⟨v0, v1⟩ := v
            have hP := fun w => ptNeq u0 u1 v0 v1 w
            have hT := Lib.hid ht
            have hR := Lib.hid hr
            have hUV := Lib.hid (And.intro hu hv)
            clear ht hr e5 hu hv
            by_cases he : u0 = v0 ∧ u1 = v1
            · obtain ⟨rfl, rfl⟩ := he
              simp only [beq_self_eq_true, Bool.and_self, Bool.not_true] at hP
              go_wp2_with fail
              go_quiet (fail)
              go_wp2_with fail
              go_roundw
              case rel => exact ⟨j + 1, kk, by omega, by omega, (by have := hT.out; congr 1; omega), rfl, by omega, hkk, Lib.hid (hD.out.trans (congrArg List.length (hdo.out trivial)).symm), Lib.hid (by rw [hold.out trivial]; exact own_keep hO.out ((Keeps.refl _).drewN _)), Lib.hid (fun w0 a b => (hK.out w0 a b).drewN _)⟩
              case measure => have := hT.out; simp [intOf]; omega
            · rw [show ((u0 == v0) && (u1 == v1)) = false by simpa using he] at hP
              simp only [Bool.not_false] at hP
              obtain ⟨-, -, f0, o0, ho0⟩ := rowAt hOg (kk * 2) (by omega)
              obtain ⟨-, -, f1, o1, ho1⟩ := rowAt hOg (kk * 2 + 1) (by omega)
              have n1 := fun (w : World) (u : Value) => setOff w g (kk * 2) (kk * 2 + 1) u (by omega)
              have hkn3 : (kk : Int) < n := by omega
              have hkb : (kk : Int) ≤ 1000000000000 := by omega
              have hQn := Lib.hid (fun q => own_point (p := (u0, u1)) (own_keep hOg ((Keeps.refl _).drewN q)) (i := kk) (by omega))
              have hKn := Lib.hid (fun q w0 h1 h2 => (((hK.out w0 h1 h2).drewN q).setNew (p := ⟨g, kk * 2, none⟩) (Nat.le_trans h2 hg1) (.int .i64 u0)).setNew (p := ⟨g, kk * 2 + 1, none⟩) (Nat.le_trans h2 hg1) (.int .i64 u1))
              clear hOg hO hK
              go_wp2_with fail
              go_quiet (fail)
              go_wp2_with fail
              go_roundw
              case rel =>
                have hne : (u0, u1) ≠ (v0, v1) := fun e => he (by injection e with e1 e2; exact ⟨e1, e2⟩)
                have hq := hQn.out nq
                rw [hD.out] at hq
                rw [hnew.out hne] at hq
                refine ⟨j + 1, kk + 1, by omega, by omega, (by have := hT.out; congr 1; omega), by go_num, by omega, by omega, Lib.hid (by rw [hdn.out hne, List.length_append, ← hD.out]; rfl), Lib.hid ?_, Lib.hid (hKn.out nq)⟩
                rw [hD.out]; exact hq
              case measure => have := hT.out; simp [intOf]; omega
          · have hjn2 : j = n := by omega
            subst hjn2
            have hOg := hO.out
            obtain ⟨hg1, hg2⟩ := rowBase hOg
            obtain ⟨cur, hgc, hnc, hcs, _⟩ := own_cur hOg
            have hl := cmpX_len M j (by omega)
            obtain ⟨i0, hi, hz0, hz1, hz2⟩ := info_parts pt_info
            have hZ : kk * 2 + (Builtin.zeroCells #[.int .i64 0, .int .i64 0] (j - kk)).toList.length ≤ cur.size := by rw [zero_len]; omega
            have hcl : ∀ ty, (Builtin.clear_ #[22] ty #[.slice (some ⟨g, kk * 2, none⟩) (j - kk) (cap - kk)]).run Try.prog wr = .ok (.tuple #[]) _ := fun ty =>
              run_clear_rowN wr 22 50 ty (.agg #[.int .i64 0, .int .i64 0]) 2 g (kk * 2) (j - kk) (cap - kk) cur 50 Try.underlying22 (fun w => by simp [zeroValue]; rfl) rfl (by omega) hgc (by show kk * 2 + (Builtin.zeroCells #[.int .i64 0, .int .i64 0] (j - kk)).toList.length ≤ _; rw [zero_len]; omega) (zero_one _)
            have hE : (cmpX M j).take kk = ded M := by rw [hD.out]; have := cmpX_take M; rw [hM] at this; exact this
            have hL := Lib.hid (show (ded M).length = kk by rw [hD.out]; unfold ded; rw [hM])
            have hF := own_cleared hOg (hl.trans hM) (show kk ≤ j by omega) hgc (Builtin.zeroCells #[.int .i64 0, .int .i64 0] (j - kk)).toList hZ
            rw [hE] at hF
            have hF := Lib.hid hF
            have hK2 := Lib.hid (fun w0 h1 h2 => (hK.out w0 h1 h2).setRowNew (Nat.le_trans h2 hg1) (cur.toList.take (kk * 2) ++ (Builtin.zeroCells #[.int .i64 0, .int .i64 0] (j - kk)).toList ++ cur.toList.drop (kk * 2 + (Builtin.zeroCells #[.int .i64 0, .int .i64 0] (j - kk)).toList.length)).toArray)
            have hkc4 : (kk : Int) ≤ cap := by omega
            have hkc5 : kk < cap := by omega
            clear hOg hE hD hO hK hZ hl hi hz0 hz1 hz2 hgc hcs hnc
            go_wp2_with fail
            go_ret
            unfold CmpR
            rw [hL.out]
            have hF3 := hF.out
            have hK3 := hK2.out
            simp only [Array.length_toList, List.append_assoc] at hF3 hK3
            exact ⟨_, rfl, hF3, hK3⟩
      · rw [show ((x0 == y0) && (x1 == y1)) = false by simpa using he] at hP
        go_wp2_with fail
        go_quiet (fail)
        go_wp2_with fail
        go_roundw
        case rel =>
          refine ⟨k + 1, by omega, by omega, by go_num, Lib.hid (fun i h0 h1 => ?_), Lib.hid (own_keep hO.out ((Keeps.refl _).drewN _)), Lib.hid (fun w0 h1 h2 => (hK.out w0 h1 h2).drewN _)⟩
          rcases Nat.lt_or_ge i k with h3 | h3
          · exact hN.out i h0 h3
          · obtain rfl : i = k := by omega
            rw [hQ.out] at hxy ⊢
            rw [Nat.add_sub_cancel, hxy.out.1, hxy.out.2]
            intro e
            injection e with e1 e2
            exact he ⟨e1, e2⟩
        case measure => simp [intOf]; omega
    · have hkn2 : k = n := by omega
      have hE : ded M = M := by
        unfold ded
        rw [dedTo_all M M.length (Nat.le_refl _) (fun i h0 h1 => hd.out i h0 (by omega)), List.take_of_length_le (Nat.le_refl _)]
      have hE := Lib.hid hE
      clear hd
      go_wp2_with fail
      go_ret
      unfold CmpR
      rw [hE.out, hM]
      exact ⟨_, rfl, hO.out, hK.out⟩
end
end
end Go.Proofs.Ytihmhpleiefodaa
