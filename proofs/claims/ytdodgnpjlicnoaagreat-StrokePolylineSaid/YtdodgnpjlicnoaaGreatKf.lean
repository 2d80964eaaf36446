/- Fresh rows of polygons: a slice of the call's own, its polygons in memory that is new too. -/
import Derived.Test.YtdodgnpjlicnoaaGreatKd
import Derived.Test.YtdodgnpjlicnoaaGreatJk
import Derived.RangeFuncBox
namespace Go.Proofs.YtdodgnpjlicnoaaGreat
section
set_option linter.unusedVariables false
set_option linter.unusedSimpArgs false
/-- f 0 ++ .. ++ f (k - 1) -/
def flatTo (f : Nat → List (List Pt)) : Nat → List (List Pt)
  | 0 => []
  | k + 1 => flatTo f k ++ f k
def endL (a b : Pt) (wd cp : Int) : List Pt := if cp = 5 then capL a b wd else if cp = 3 then discL b wd else []
def dotR (p : Pt) (wd cp : Int) : List Pt := if cp = 5 then dotL p wd else if cp = 3 then discL p wd else []
def segK (closed : Bool) (n : Nat) : Nat := if closed = true then n else n - 1
def bodyR (L : List Pt) (wd : Int) (i : Nat) : List (List Pt) := wrapL (bodyL (L.getD i pt0) (L.getD ((i + 1) % L.length) pt0) wd)
def joinI (closed : Bool) (n i : Nat) : Bool := closed || (decide (0 < i) && decide (i + 1 < n))
def joinK (closed : Bool) (L : List Pt) (wd jn cp ml ph : Int) (D : List Int) (i : Nat) : List (List Pt) :=
  if joinI closed L.length i = true then joinL (L.getD ((i + L.length - 1) % L.length) pt0) (L.getD i pt0) (L.getD ((i + 1) % L.length) pt0) wd jn cp ml ph D else []
def endsR (closed : Bool) (L : List Pt) (wd cp : Int) : List (List Pt) :=
  if closed = true then [] else wrapL (endL (L.getD 1 pt0) (L.getD 0 pt0) wd cp) ++ wrapL (endL (L.getD (L.length - 2) pt0) (L.getD (L.length - 1) pt0) wd cp)
def ringsL (closed : Bool) (L : List Pt) (wd jn cp ml ph : Int) (D : List Int) : List (List Pt) :=
  if L.length = 0 then [] else if L.length = 1 then wrapL (dotR (L.getD 0 pt0) wd cp) else
  flatTo (bodyR L wd) (segK closed L.length) ++ flatTo (joinK closed L wd jn cp ml ph D) L.length ++ endsR closed L wd cp
def allV (LL : List (List Pt)) : Bool := LL.all fun r => r.all vP
def cnt (LL : List (List Pt)) : Nat := (LL.map List.length).sum
/-- the error of Polyline -/
def polyE (closed : Bool) (L : List Pt) (wd jn cp ml ph : Int) (D : List Int) : Int :=
  if stB wd jn cp ml ph D = false then 13 else if L.all vP = false then 6 else if 4096 < L.length then 5 else
  if allV (ringsL closed (dedC closed L) wd jn cp ml ph D) = false then 6 else if 4096 < cnt (ringsL closed (dedC closed L) wd jn cp ml ph D) then 5 else 0
/-- its polygons -/
def polyL (closed : Bool) (L : List Pt) (wd jn cp ml ph : Int) (D : List Int) : List (List Pt) :=
  if polyE closed L wd jn cp ml ph D = 0 then ringsL closed (dedC closed L) wd jn cp ml ph D else []
theorem wrapL_len (L : List Pt) : (wrapL L).length ≤ 1 := by unfold wrapL; split <;> simp
theorem joinL_one (u v b : Pt) (wd jn cp ml ph : Int) (D : List Int) : (joinL u v b wd jn cp ml ph D).length ≤ 1 := wrapL_len _
theorem joinK_len (closed : Bool) (L : List Pt) (wd jn cp ml ph : Int) (D : List Int) (i : Nat) : (joinK closed L wd jn cp ml ph D i).length ≤ 1 := by
  unfold joinK; split
  · exact joinL_one ..
  · simp
theorem flatTo_len (f : Nat → List (List Pt)) (h : ∀ i, (f i).length ≤ 1) : ∀ k, (flatTo f k).length ≤ k
  | 0 => Nat.le_refl _
  | k + 1 => by have := flatTo_len f h k; have := h k; unfold flatTo; rw [List.length_append]; omega
theorem endsR_len (closed : Bool) (L : List Pt) (wd cp : Int) : (endsR closed L wd cp).length ≤ 2 := by
  unfold endsR
  split
  · simp
  · rw [List.length_append]; have := wrapL_len (endL (L.getD 1 pt0) (L.getD 0 pt0) wd cp); have := wrapL_len (endL (L.getD (L.length - 2) pt0) (L.getD (L.length - 1) pt0) wd cp); omega
theorem segK_le (closed : Bool) (n : Nat) : segK closed n ≤ n := by unfold segK; split <;> omega
/-- a property of every polygon of a stroke -/
theorem flatTo_mem (f : Nat → List (List Pt)) (r : List Pt) : ∀ k, r ∈ flatTo f k → ∃ i, r ∈ f i
  | 0, h => by simp [flatTo] at h
  | k + 1, h => by
    unfold flatTo at h
    rcases List.mem_append.1 h with h | h
    · exact flatTo_mem f r k h
    · exact ⟨k, h⟩
theorem wrapL_mem {L r : List Pt} (h : r ∈ wrapL L) : r = L ∧ 0 < L.length := by
  unfold wrapL at h
  split at h
  · simp at h
  · simp at h; subst h; exact ⟨rfl, by omega⟩
theorem orient_area {X r : List Pt} (h : r = orient X) (hl : 0 < r.length) : 0 < area r := by
  subst h; exact orient_pos X hl
theorem endL_area (a b : Pt) (wd cp : Int) (h : 0 < (endL a b wd cp).length) : 0 < area (endL a b wd cp) := by
  unfold endL at h ⊢
  by_cases h5 : cp = 5
  · rw [if_pos h5] at h ⊢
    unfold capL at h ⊢
    split at h
    · rename_i hm; rw [if_pos hm]; exact orient_pos _ h
    · simp at h
  · rw [if_neg h5] at h ⊢
    by_cases h3 : cp = 3
    · rw [if_pos h3] at h ⊢
      unfold discL at h ⊢
      split at h
      · rename_i hm; rw [if_pos hm]; exact orient_pos _ h
      · simp at h
    · rw [if_neg h3] at h; simp at h
theorem dotR_area (p : Pt) (wd cp : Int) (h : 0 < (dotR p wd cp).length) : 0 < area (dotR p wd cp) := by
  unfold dotR at h ⊢
  by_cases h5 : cp = 5
  · rw [if_pos h5] at h ⊢
    unfold dotL at h ⊢
    split at h
    · rename_i hm; rw [if_pos hm]; exact orient_pos _ h
    · simp at h
  · rw [if_neg h5] at h ⊢
    by_cases h3 : cp = 3
    · rw [if_pos h3] at h ⊢
      unfold discL at h ⊢
      split at h
      · rename_i hm; rw [if_pos hm]; exact orient_pos _ h
      · simp at h
    · rw [if_neg h3] at h; simp at h
theorem bodyL_area (a b : Pt) (wd : Int) (h : 0 < (bodyL a b wd).length) : 0 < area (bodyL a b wd) := by
  unfold bodyL at h ⊢
  split at h
  · rename_i hm; rw [if_pos hm]; exact orient_pos _ h
  · simp at h
theorem ringsL_area (closed : Bool) (L : List Pt) (wd jn cp ml ph : Int) (D : List Int) (r : List Pt) (h : r ∈ ringsL closed L wd jn cp ml ph D) : 0 < area r := by
  unfold ringsL at h
  split at h
  · simp at h
  · split at h
    · obtain ⟨rfl, hl⟩ := wrapL_mem h
      exact dotR_area _ _ _ hl
    · rcases List.mem_append.1 h with h | h
      · rcases List.mem_append.1 h with h | h
        · obtain ⟨i, h⟩ := flatTo_mem _ _ _ h
          obtain ⟨rfl, hl⟩ := wrapL_mem h
          exact bodyL_area _ _ _ hl
        · obtain ⟨i, h⟩ := flatTo_mem _ _ _ h
          unfold joinK at h
          split at h
          · obtain ⟨rfl, hl⟩ := wrapL_mem h
            exact (joinR_ok _ _ _ _ _ _ _ _ _ hl).1
          · simp at h
      · unfold endsR at h
        split at h
        · simp at h
        · rcases List.mem_append.1 h with h | h
          · obtain ⟨rfl, hl⟩ := wrapL_mem h
            exact endL_area _ _ _ _ hl
          · obtain ⟨rfl, hl⟩ := wrapL_mem h
            exact endL_area _ _ _ _ hl
/-- a polygon of positive area has at least three points -/
theorem area_three (L : List Pt) (h : 0 < area L) : 3 ≤ L.length := by
  rcases Nat.lt_or_ge L.length 3 with hl | hl
  · exfalso
    unfold area at h
    split at h
    · have self : ∀ p : Pt, crP p p = 0 := fun p => by unfold crP crossI; rw [Int.mul_comm]; omega
      have anti : ∀ p q : Pt, crP p q + crP q p = 0 := fun p q => by unfold crP crossI; rw [Int.mul_comm (hc q.1), Int.mul_comm (hc q.2)]; omega
      match L, hl, h with
      | [], _, h => simp [areaTo] at h
      | [p], _, h => simp [areaTo, nxt, self] at h
      | [p, q], _, h => 
        have := anti p q
        simp [areaTo, nxt] at h; omega
    · omega
  · exact hl
theorem vRows_cnt : ∀ (LL : List (List Pt)) (a : Nat), allV LL = true → a + cnt LL ≤ 4096 → vRows a LL = true
  | [], _, _, _ => rfl
  | r :: rs, a, h, hc => by
    unfold allV at h
    rw [List.all_cons, Bool.and_eq_true] at h
    unfold cnt at hc
    rw [List.map_cons, List.sum_cons] at hc
    unfold vRows
    rw [if_neg (by rw [h.1]; simp; omega)]
    exact vRows_cnt rs _ h.2 (by unfold cnt; omega)
/-- no point is lost -/
theorem dedTo_all2 (L : List Pt) (f : Pt → Bool) : ∀ j, j ≤ L.length → (dedTo L j).all f = (L.take j).all f
  | 0, _ => rfl
  | j + 1, hj => by
    have ih := dedTo_all2 L f j (by omega)
    have e : L.take (j + 1) = L.take j ++ [L.getD j pt0] := by
      rw [List.take_succ_eq_append_getElem (by omega), List.getD_eq_getElem?_getD, List.getElem?_eq_getElem (by omega)]; rfl
    rw [e, List.all_append, ← ih, show dedTo L (j + 1) = if j = 0 ∨ L.getD j pt0 ≠ L.getD (j - 1) pt0 then dedTo L j ++ [L.getD j pt0] else dedTo L j from rfl]
    split
    · rw [List.all_append]
    · rename_i hn
      have h1 : ¬ j = 0 := fun e => hn (Or.inl e)
      have h2 : L.getD j pt0 = L.getD (j - 1) pt0 := Classical.not_not.1 fun e => hn (Or.inr e)
      have hl := dedTo_last L j (by omega)
      have hp := dedTo_pos L j (by omega)
      rw [List.all_cons, List.all_nil, Bool.and_true, h2, ← hl]
      cases hA : (dedTo L j).all f with
      | false => rfl
      | true =>
        rw [Bool.true_and]
        rw [List.all_eq_true] at hA
        refine (hA _ ?_).symm
        rw [List.getD_eq_getElem?_getD, List.getElem?_eq_getElem (by omega)]
        exact List.getElem_mem _
theorem ded_all (L : List Pt) (f : Pt → Bool) : (ded L).all f = L.all f := by
  unfold ded; rw [dedTo_all2 L f _ (Nat.le_refl _), List.take_of_length_le (Nat.le_refl _)]
theorem trimC_all (f : Pt → Bool) : ∀ (k : Nat) (L : List Pt), (trimC k L).all f = L.all f
  | 0, _ => rfl
  | k + 1, L => by
    unfold trimC
    split
    · rename_i h
      rw [trimC_all f k]
      obtain ⟨h1, h2⟩ := h
      have e : L = L.take (L.length - 1) ++ [L.getD (L.length - 1) pt0] := by
        have := List.take_succ_eq_append_getElem (l := L) (i := L.length - 1) (by omega)
        rw [show L.length - 1 + 1 = L.length by omega, List.take_of_length_le (Nat.le_refl _)] at this
        rw [List.getD_eq_getElem?_getD, List.getElem?_eq_getElem (by omega)]; exact this
      have e2 : L.all f = ((L.take (L.length - 1)).all f && f (L.getD 0 pt0)) := by
        conv => lhs; rw [e, List.all_append]
        rw [h2]; simp
      rw [e2]
      cases hA : (L.take (L.length - 1)).all f with
      | false => rfl
      | true =>
        rw [Bool.true_and]
        rw [List.all_eq_true] at hA
        refine (hA _ ?_).symm
        have : L.getD 0 pt0 = (L.take (L.length - 1)).getD 0 pt0 := by
          rw [List.getD_eq_getElem?_getD, List.getD_eq_getElem?_getD, List.getElem?_take, if_pos (by omega)]
        rw [this, List.getD_eq_getElem?_getD, List.getElem?_eq_getElem (by rw [List.length_take]; omega)]
        exact List.getElem_mem _
    · rfl
theorem dedC_all (c : Bool) (L : List Pt) (f : Pt → Bool) : (dedC c L).all f = L.all f := by
  unfold dedC
  split
  · rw [trimC_all, ded_all]
  · exact ded_all L f
theorem dedC_len (c : Bool) (L : List Pt) : (dedC c L).length ≤ L.length := by
  have h1 : (ded L).length ≤ L.length := dedTo_len L _
  unfold dedC
  split
  · exact Nat.le_trans (trimC_len _ _) h1
  · exact h1
theorem ded_apart {L : List Pt} (h : Apart L) : ded L = L := by
  have := dedTo_all L L.length (Nat.le_refl _) h
  rw [List.take_of_length_le (Nat.le_refl _)] at this
  exact this
theorem trimC_trimC : ∀ (f g : Nat) (L : List Pt), L.length ≤ f → trimC g (trimC f L) = trimC f L
  | 0, 0, L, _ => rfl
  | 0, g + 1, L, h => by
    show trimC (g + 1) L = L
    unfold trimC
    rw [if_neg (by omega)]
  | f + 1, g, L, h => by
    by_cases hc : 1 < L.length ∧ L.getD (L.length - 1) pt0 = L.getD 0 pt0
    · have e : trimC (f + 1) L = trimC f (L.take (L.length - 1)) := by rw [trimC, if_pos hc]
      rw [e]
      exact trimC_trimC f g _ (by rw [List.length_take]; omega)
    · have e : trimC (f + 1) L = L := by rw [trimC, if_neg hc]
      rw [e]
      cases g with
      | zero => rfl
      | succ g => rw [trimC, if_neg hc]
theorem dedC_dedC (c : Bool) (L : List Pt) : dedC c (dedC c L) = dedC c L := by
  cases c with
  | false => exact ded_ded L
  | true =>
    have hA : Apart (dedC true L) := trimC_apart _ _ (dedTo_apart L _)
    show trimC (ded (dedC true L)).length (ded (dedC true L)) = _
    rw [ded_apart hA]
    exact trimC_trimC _ _ _ (Nat.le_refl _)
/-- a polyline and its Dedup have the same stroke -/
theorem poly_ded (c : Bool) (L : List Pt) (wd jn cp ml ph : Int) (D : List Int) (h : L.length ≤ 4096) : polyE c (dedC c L) wd jn cp ml ph D = polyE c L wd jn cp ml ph D ∧ polyL c (dedC c L) wd jn cp ml ph D = polyL c L wd jn cp ml ph D := by
  have h1 := dedC_len c L
  have e : polyE c (dedC c L) wd jn cp ml ph D = polyE c L wd jn cp ml ph D := by
    unfold polyE
    rw [dedC_dedC, dedC_all, if_neg (show ¬ 4096 < (dedC c L).length by omega), if_neg (show ¬ 4096 < L.length by omega)]
  refine ⟨e, ?_⟩
  unfold polyL
  rw [e, dedC_dedC]
end

section
open Go.RowKit
set_option linter.unusedVariables false
set_option linter.unusedSimpArgs false
/-- like Keeps, but for one block -/
def KeepX (bo : Nat) (w0 w : World) : Prop := w.os = w0.os ∧ w.tape = w0.tape ∧ w.output = w0.output ∧ w0.heap.size ≤ w.heap.size ∧ ∀ k, k < w0.heap.size → k ≠ bo → w.heap[k]? = w0.heap[k]?
theorem KeepX.of {bo : Nat} {w0 w : World} (h : Keeps w0 w) : KeepX bo w0 w := ⟨h.os, h.tape, h.output, h.size, fun k hk _ => h.block k hk⟩
theorem KeepX.size {bo : Nat} {w0 w : World} (h : KeepX bo w0 w) : w0.heap.size ≤ w.heap.size := h.2.2.2.1
theorem KeepX.trans {bo : Nat} {w0 w w' : World} (h : KeepX bo w0 w) (h2 : KeepX bo w w') : KeepX bo w0 w' :=
  ⟨h2.1.trans h.1, h2.2.1.trans h.2.1, h2.2.2.1.trans h.2.2.1, Nat.le_trans h.2.2.2.1 h2.2.2.2.1, fun k hk hne => (h2.2.2.2.2 k (by have := h.2.2.2.1; omega) hne).trans (h.2.2.2.2 k hk hne)⟩
theorem KeepX.step {bo : Nat} {w0 w w' : World} (h : KeepX bo w0 w) (h2 : Keeps w w') : KeepX bo w0 w' := h.trans (KeepX.of h2)
theorem KeepX.cell {bo : Nat} {w0 w : World} (h : KeepX bo w0 w) {p : Addr} (hp : p.block < w0.heap.size) (hne : p.block ≠ bo) : w.cell? p = w0.cell? p := by
  unfold World.cell?; rw [h.2.2.2.2 _ hp hne]
theorem KeepX.frozen {bo : Nat} {w0 w : World} (h : KeepX bo w0 w) {p : Addr} (hp : p.block < w0.heap.size) (hne : p.block ≠ bo) : w.frozen? p = w0.frozen? p := by
  unfold World.frozen?; rw [h.2.2.2.2 _ hp hne]
/-- the box lies in new memory: all that is old stands -/
theorem KeepX.keeps {bo : Nat} {w w0 w' : World} (hk : Keeps w w0) (h : KeepX bo w0 w') (hb : w.heap.size ≤ bo) : Keeps w w' :=
  ⟨h.1.trans hk.os, h.2.1.trans hk.tape, h.2.2.1.trans hk.output, Nat.le_trans hk.size h.size, fun k hk' => (h.2.2.2.2 k (Nat.lt_of_lt_of_le hk' hk.size) (by omega)).trans (hk.block k hk')⟩
theorem KeepX.set {bo : Nat} {w0 w : World} (h : KeepX bo w0 w) (v : Value) : KeepX bo w0 (w.setCell ⟨bo, 0, none⟩ v) := by
  have g := grownBy_setCell' w bo v
  exact ⟨g.os.trans h.1, g.tape.trans h.2.1, g.output.trans h.2.2.1, Nat.le_trans h.size g.size, fun k hk hne => (g.block k (by have := h.size; omega) (by intro e; exact hne (by simpa using e))).trans (h.2.2.2.2 k hk hne)⟩
theorem KeepX.grown {bo : Nat} {w0 w w1 : World} {row : Option Nat} (h : KeepX bo w0 w) (g : w.grownBy w1 row) (hr : ∀ k, row = some k → w0.heap.size ≤ k) : KeepX bo w0 w1 :=
  ⟨g.os.trans h.1, g.tape.trans h.2.1, g.output.trans h.2.2.1, Nat.le_trans h.size g.size, fun k hk hne => (g.block k (by have := h.size; omega) (fun e => by have := hr k e.symm; omega)).trans (h.2.2.2.2 k hk hne)⟩
def FRws (w : World) (B : Nat) (v : Value) (LL : List (List Pt)) : Prop :=
  ∃ VS, w.ownsRow B 22 1 v LL.length VS ∧ (∀ k, k < LL.length → ∃ Ak nk ck, VS[k]? = some (.slice Ak nk ck) ∧ Pts w Ak nk ck (LL.getD k []) ∧ nk ≤ 4611686018427387904 ∧ ∀ a, Ak = some a → Nw B w a ∧ some a.block ≠ v.ownBlock) ∧ (LL.length = 0 → v = .slice none 0 0)
theorem own_step {w w' : World} {B n size : Nat} {e : TypeId} {v : Value} {xs : List Value} (h : w.ownsRow B e size v n xs) (hh : ∀ k, B ≤ k → k < w.heap.size → w'.heap[k]? = w.heap[k]?) : w'.ownsRow B e size v n xs := by
  have hlt := h.lt
  refine ⟨h.1, ?_⟩
  rcases h.2 with hn | ⟨g, cap, cur, rfl, hB, hg, rest⟩
  · exact .inl hn
  · exact .inr ⟨g, cap, cur, rfl, hB, (hh g hB (hlt g (by simp [Value.ownBlock])).2).trans hg, rest⟩
theorem FRws.step {w w' : World} {B : Nat} {v : Value} {LL : List (List Pt)} (h : FRws w B v LL) (hs : w.heap.size ≤ w'.heap.size) (hh : ∀ k, B ≤ k → k < w.heap.size → w'.heap[k]? = w.heap[k]?) : FRws w' B v LL := by
  obtain ⟨VS, h1, h2, h3⟩ := h
  refine ⟨VS, own_step h1 hh, fun k hk => ?_, h3⟩
  obtain ⟨Ak, nk, ck, e, hP, hn, hb⟩ := h2 k hk
  exact ⟨Ak, nk, ck, e, hP.step hs (fun p h3 h4 => by unfold World.cell?; rw [hh _ h3 h4]) (fun a ha => (hb a ha).1.1), hn, fun a ha => ⟨⟨(hb a ha).1.1, by have := (hb a ha).1.2.1; omega, fun j => by have h3 := (hb a ha).1.2.2 j; unfold World.frozen? at h3 ⊢; rw [hh _ (hb a ha).1.1 (hb a ha).1.2.1]; exact h3⟩, (hb a ha).2⟩⟩
theorem FRws.keep {w w' : World} {B : Nat} {v : Value} {LL : List (List Pt)} (h : FRws w B v LL) (hk : Keeps w w') : FRws w' B v LL := h.step hk.size (fun k _ hl => hk.block k hl)
theorem FRws.set {w : World} {B bo : Nat} {v : Value} {LL : List (List Pt)} (h : FRws w B v LL) (hb : bo < B) (u : Value) : FRws (w.setCell ⟨bo, 0, none⟩ u) B v LL := by
  have g := grownBy_setCell' w bo u
  exact h.step g.size (fun k h1 h2 => g.block k h2 (by intro e; have : k = bo := by simpa using e
                                                       omega))
theorem FRws.nil (w : World) (B : Nat) : FRws w B (.slice none 0 0) [] := ⟨[], World.ownsRow_nil _ _ _ _, (fun k hk => by simp at hk), fun _ => rfl⟩
theorem FRws.base {w : World} {B B2 : Nat} {v : Value} {LL : List (List Pt)} (h : FRws w B v LL) (hb : B2 ≤ B) : FRws w B2 v LL := by
  obtain ⟨VS, h1, h2, h3⟩ := h
  refine ⟨VS, own_base h1 hb, fun k hk => ?_, h3⟩
  obtain ⟨Ak, nk, ck, e, hP, hn, hx⟩ := h2 k hk
  exact ⟨Ak, nk, ck, e, hP, hn, fun a ha => ⟨⟨Nat.le_trans hb (hx a ha).1.1, (hx a ha).1.2⟩, (hx a ha).2⟩⟩
theorem FRws.rws {w : World} {B : Nat} {v : Value} {LL : List (List Pt)} (h : FRws w B v LL) : ∃ A c, v = .slice A LL.length c ∧ RwsU B w A LL.length c LL ∧ (LL.length = 0 → A = none ∧ c = 0) := by
  obtain ⟨VS, h1, h2, h3⟩ := h
  have hlt := h1.lt
  obtain ⟨A, c, rfl, g1, g2, g3, g4⟩ := SlA.of_own h1
  refine ⟨A, c, rfl, ⟨rfl, g1, g2, fun hp => ?_⟩, fun h0 => by simpa [h0] using h3 h0⟩
  obtain ⟨b, o, rfl, hb, hx⟩ := g4 hp
  refine ⟨b, o, rfl, (hlt b (by rcases h1.2 with ⟨h', _⟩ | ⟨g, cap, cur, h', _⟩ <;> simp [Value.ownBlock] at h' ⊢)).1, hb, fun k hk => ?_⟩
  obtain ⟨Ak, nk, ck, e, hP, hn, hf⟩ := h2 k hk
  exact ⟨Ak, nk, ck, (hx k (by omega)).trans e, hP, hn, fun a ha => (hf a ha).1⟩
theorem FRws.snoc {w w1 : World} {B g cap n c : Nat} {v : Value} {A : Option Addr} {LL : List (List Pt)} {L : List Pt} {VS : List Value} {t : TypeId}
    (hown : w.ownsRow B 22 1 v LL.length VS) (hall : ∀ k, k < LL.length → ∃ Ak nk ck, VS[k]? = some (.slice Ak nk ck) ∧ Pts w Ak nk ck (LL.getD k []) ∧ nk ≤ 4611686018427387904 ∧ ∀ a, Ak = some a → Nw B w a ∧ some a.block ≠ v.ownBlock)
    (hP : Pts w A n c L) (hn : n ≤ 4611686018427387904) (hA : ∀ a, A = some a → Nw B w a ∧ some a.block ≠ v.ownBlock)
    (h1 : w1.ownsRow B 22 1 (.slice (some ⟨g, 0, none⟩) (LL.length + 1) cap) (LL.length + 1) (VS ++ [.slice A n c])) (hg : (w.alloc (.cells #[.slice A n c] t)).grownBy w1 v.ownBlock) (hlie : v.ownBlock = some g ∨ g = w.heap.size + 1) :
    FRws w1 B (.slice (some ⟨g, 0, none⟩) (LL.length + 1) cap) (LL ++ [L]) := by
  have hl : (LL ++ [L]).length = LL.length + 1 := by simp
  have hsz : w.heap.size + 1 ≤ w1.heap.size := by have := hg.size; simpa using this
  have hcell : ∀ b o, b < w.heap.size → some b ≠ v.ownBlock → w1.cell? ⟨b, o, none⟩ = w.cell? ⟨b, o, none⟩ := fun b o hb hne =>
    (hg.cell_far ⟨b, o, none⟩ (by simp; omega) (by simpa using hne)).trans (World.cell?_alloc_lt _ _ _ (by simpa using hb))
  have hfz : ∀ b j, b < w.heap.size → some b ≠ v.ownBlock → w1.frozen? ⟨b, j, none⟩ = w.frozen? ⟨b, j, none⟩ := fun b j hb hne => by
    unfold World.frozen?
    rw [hg.block b (by simp; omega) (by simpa using hne), (World.grownBy_alloc w (.cells #[.slice A n c] t) none).block b hb (by simp)]
  have hfr : ∀ a, Nw B w a → some a.block ≠ v.ownBlock → Nw B w1 a := fun a h hx => ⟨h.1, by have := h.2.1; omega, fun j => (hfz _ j h.2.1 hx).trans (h.2.2 j)⟩
  have hne : ∀ b, b < w.heap.size → some b ≠ v.ownBlock → some b ≠ (Value.slice (some ⟨g, 0, none⟩) (LL.length + 1) cap).ownBlock := fun b hb hx e => by
    simp [Value.ownBlock] at e
    rcases hlie with h | h
    · exact hx (by rw [h, e])
    · omega
  have hVl : VS.length = LL.length := by have := hown.1; omega
  refine ⟨VS ++ [.slice A n c], by rw [hl]; exact h1, fun k hk => ?_, fun h0 => by rw [hl] at h0; omega⟩
  rw [hl] at hk
  by_cases hkl : k < LL.length
  · obtain ⟨Ak, nk, ck, e, hPk, hnk, hb⟩ := hall k hkl
    refine ⟨Ak, nk, ck, by rw [List.getElem?_append_left (by omega)]; exact e, ?_, hnk, fun a ha => ⟨hfr a (hb a ha).1 (hb a ha).2, hne _ (hb a ha).1.2.1 (hb a ha).2⟩⟩
    rw [show (LL ++ [L]).getD k [] = LL.getD k [] by rw [List.getD_eq_getElem?_getD, List.getElem?_append_left hkl, List.getD_eq_getElem?_getD]]
    exact hPk.far (by omega) (fun a o ha => hcell _ _ (hb a ha).1.2.1 (hb a ha).2)
  · obtain rfl : k = LL.length := by omega
    refine ⟨A, n, c, by rw [List.getElem?_append_right (by omega), hVl, Nat.sub_self]; rfl, ?_, hn, fun a ha => ⟨hfr a (hA a ha).1 (hA a ha).2, hne _ (hA a ha).1.2.1 (hA a ha).2⟩⟩
    rw [show (LL ++ [L]).getD LL.length [] = L by rw [List.getD_eq_getElem?_getD, List.getElem?_append_right (Nat.le_refl _), Nat.sub_self]; rfl]
    exact hP.far (by omega) (fun a o ha => hcell _ _ (hA a ha).1.2.1 (hA a ha).2)
/-- what is put: the polygons that are not empty -/
def putL : List (List Pt) → List (List Pt)
  | [] => []
  | r :: rs => wrapL r ++ putL rs
theorem putL_append : ∀ (a b : List (List Pt)), putL (a ++ b) = putL a ++ putL b
  | [], b => rfl
  | r :: rs, b => by rw [List.cons_append, putL, putL, putL_append rs b, List.append_assoc]
theorem putL_take (LL : List (List Pt)) (k : Nat) (h : k < LL.length) : putL (LL.take (k + 1)) = putL (LL.take k) ++ wrapL (LL.getD k []) := by
  rw [takeLL_succ LL k h, putL_append]; simp [putL]
theorem putL_len : ∀ (LL : List (List Pt)), (putL LL).length ≤ LL.length
  | [] => Nat.le_refl _
  | r :: rs => by
    have := putL_len rs
    have := wrapL_len r
    rw [putL, List.length_append, List.length_cons]; omega
theorem putL_wrap (L : List Pt) : putL (wrapL L) = wrapL L := by
  unfold wrapL
  split
  · rfl
  · rename_i h; unfold putL putL wrapL; rw [if_neg h]; rfl
theorem putL_one (L : List Pt) : putL [L] = wrapL L := by unfold putL putL; simp
end
end Go.Proofs.YtdodgnpjlicnoaaGreat
