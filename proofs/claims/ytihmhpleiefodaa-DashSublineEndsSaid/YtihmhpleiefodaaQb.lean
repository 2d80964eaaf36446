/- Contracts of polygon.Valid and of what it calls; slices of slices of points. -/
import Derived.Test.YtihmhpleiefodaaVd
import Derived.Test.YtihmhpleiefodaaN19
import Derived.Test.YtihmhpleiefodaaKk
import Derived.Test.YtihmhpleiefodaaRx
namespace Go.Proofs.Ytihmhpleiefodaa
section
open Go.RowKit
set_option linter.unusedVariables false
set_option linter.unusedSimpArgs false
abbrev Pt := Int × Int
def pt0 : Pt := (0, 0)
def i64b (n : Int) : Prop := -9223372036854775808 ≤ n ∧ n ≤ 9223372036854775807
def okP (p : Pt) : Prop := i64b p.1 ∧ i64b p.2
def ptV (p : Pt) : List Value := [.int .i64 p.1, .int .i64 p.2]
def ptA (p : Pt) : Value := .agg #[.int .i64 p.1, .int .i64 p.2]
def PtAt (w : World) (b o : Nat) (p : Pt) : Prop := w.cell? ⟨b, o, none⟩ = some (.int .i64 p.1) ∧ w.cell? ⟨b, o + 1, none⟩ = some (.int .i64 p.2)
/-- The slice '.slice A n c' reads as the points L. -/
def Pts (w : World) (A : Option Addr) (n c : Nat) (L : List Pt) : Prop :=
  L.length = n ∧ n ≤ c ∧ c ≤ maxLen ∧ (∀ p ∈ L, okP p) ∧ (0 < n → ∃ b o, A = some ⟨b, o, none⟩ ∧ b < w.heap.size ∧ ∀ k, k < n → PtAt w b (o + k * 2) (L.getD k pt0))
theorem PtAt.keep {w w' : World} {b o : Nat} {p : Pt} (h : PtAt w b o p) (hb : b < w.heap.size) (hk : Keeps w w') : PtAt w' b o p :=
  ⟨(hk.cell hb).trans h.1, (hk.cell hb).trans h.2⟩
theorem Pts.keep {w w' : World} {A : Option Addr} {n c : Nat} {L : List Pt} (h : Pts w A n c L) (hk : Keeps w w') : Pts w' A n c L := by
  obtain ⟨h1, h2, h3, h5, h4⟩ := h
  refine ⟨h1, h2, h3, h5, fun hn => ?_⟩
  obtain ⟨b, o, e, hb, hc⟩ := h4 hn
  exact ⟨b, o, e, Nat.lt_of_lt_of_le hb hk.size, fun k hk' => (hc k hk').keep hb hk⟩
theorem okP0 : okP pt0 := ⟨⟨by decide, by decide⟩, ⟨by decide, by decide⟩⟩
theorem okL (L : List Pt) (h : ∀ p ∈ L, okP p) (k : Nat) : okP (L.getD k pt0) := by
  by_cases hk : k < L.length
  · rw [List.getD_eq_getElem?_getD, List.getElem?_eq_getElem hk]; exact h _ (List.getElem_mem hk)
  · rw [List.getD_eq_getElem?_getD, List.getElem?_eq_none (by omega)]; exact okP0
theorem Pts.ok {w : World} {A : Option Addr} {n c : Nat} {L : List Pt} (h : Pts w A n c L) (k : Nat) : okP (L.getD k pt0) := okL L h.2.2.2.1 k
theorem Pts.max {w : World} {A : Option Addr} {n c : Nat} {L : List Pt} (h : Pts w A n c L) : (n : Int) ≤ 9223372036854775807 := by
  have h1 := h.2.1; have h2 := h.2.2.1; unfold maxLen at h2; omega
theorem Pts.nil (w : World) (A : Option Addr) : Pts w A 0 0 [] := ⟨rfl, Nat.le_refl _, Nat.zero_le _, (fun p hp => by cases hp), (fun h => absurd h (by omega))⟩
/-! ### Rows of the call's own -/
def rowP : List Pt → List Value
  | [] => []
  | s :: r => ptV s ++ rowP r
theorem rowP_append : ∀ (a b : List Pt), rowP (a ++ b) = rowP a ++ rowP b
  | [], b => rfl
  | s :: r, b => by rw [List.cons_append, rowP, rowP, rowP_append r b, List.append_assoc]
theorem rowP_one (s : Pt) : rowP [s] = ptV s := by simp [rowP]
theorem rowP_length : ∀ (a : List Pt), (rowP a).length = a.length * 2
  | [] => rfl
  | s :: r => by rw [rowP, List.length_append, rowP_length r, List.length_cons]; simp [ptV]; omega
theorem rowP_get : ∀ (L : List Pt) (k i : Nat), k < L.length → i < 2 → (rowP L)[k * 2 + i]? = (ptV (L.getD k pt0))[i]?
  | [], k, i, hk, _ => by simp at hk
  | s :: r, 0, i, _, hi => by
    rw [rowP, Nat.zero_mul, Nat.zero_add, List.getElem?_append_left (by simp [ptV]; omega)]; rfl
  | s :: r, k + 1, i, hk, hi => by
    rw [rowP, List.getElem?_append_right (by simp [ptV]; omega), show (k + 1) * 2 + i - (ptV s).length = k * 2 + i by simp [ptV]; omega, rowP_get r k i (by simpa using hk) hi]
    rfl
theorem oneCell_ptV (s : Pt) : ∀ u ∈ ptV s, u.oneCell' = true := by
  intro u hu
  unfold ptV at hu
  simp at hu
  rcases hu with rfl | rfl <;> rfl
theorem oneCell_rowP : ∀ (L : List Pt), ∀ u ∈ rowP L, u.oneCell' = true
  | [], u, hu => by cases hu
  | s :: r, u, hu => by
    rcases List.mem_append.1 hu with h | h
    · exact oneCell_ptV s u h
    · exact oneCell_rowP r u h
theorem Pts.of_own {w : World} {base n : Nat} {e : TypeId} {v : Value} {L : List Pt} (h : w.ownsRow base e 2 v n (rowP L)) (hl : L.length = n) (ho : ∀ s ∈ L, okP s) : ∃ A c, v = .slice A n c ∧ Pts w A n c L := by
  obtain ⟨A, c, rfl, h1, h2, h3, h4⟩ := SlA.of_own h
  refine ⟨A, c, rfl, hl, h1, h2, ho, fun hp => ?_⟩
  obtain ⟨b, o, rfl, hb, hx⟩ := h4 hp
  refine ⟨b, o, rfl, hb, fun k hk => ?_⟩
  have g : ∀ i, i < 2 → w.cell? ⟨b, o + (k * 2 + i), none⟩ = (ptV (L.getD k pt0))[i]? := fun i hi => (hx (k * 2 + i) (by omega)).trans (rowP_get L k i (by omega) hi)
  exact ⟨g 0 (by omega), g 1 (by omega)⟩
theorem two_new (w : World) (s : Pt) (t : TypeId) : ∀ j x, (ptV s)[j]? = some x → (w.alloc (.cells (ptV s).toArray t)).cell? ((⟨w.heap.size, 0, none⟩ : Addr).add j) = some x := by
  intro j x hx
  unfold ptV at hx ⊢
  match j, hx with
  | 0, hx => simp at hx; subst hx; simp [Addr.add]
  | 1, hx => simp at hx; subst hx; simp [Addr.add]
theorem pt_info : (Try.prog.info? 50).map (fun i => (i.zero, i.size, i.bytes)) = some (some (.agg #[.int .i64 0, .int .i64 0]), 2, 16) := by kernel_rfl
theorem drop_getDQ {α : Type} (L : List α) (j : Nat) (x : α) (h : j < L.length) : L.drop j = L.getD j x :: L.drop (j + 1) := by
  rw [List.drop_eq_getElem_cons h, List.getD_eq_getElem?_getD, List.getElem?_eq_getElem h]; rfl
/-! ### Plain words -/
def eqP (p q : Pt) : Bool := (p.1 == q.1) && (p.2 == q.2)
theorem eqP_iff (p q : Pt) : eqP p q = true ↔ p = q := by
  obtain ⟨a, b⟩ := p
  obtain ⟨c, d⟩ := q
  unfold eqP; simp
theorem eqP_refl (p : Pt) : eqP p p = true := (eqP_iff p p).2 rfl
def vP (p : Pt) : Bool := validB p.1 p.2
def crP (p q : Pt) : Int := crossI (hc p.1) (hc p.2) (hc q.1) (hc q.2)
def nxt (L : List Pt) (i : Nat) : Pt := L.getD ((i + 1) % L.length) pt0
def areaTo (L : List Pt) : Nat → Int
  | 0 => 0
  | j + 1 => areaTo L j + crP (L.getD j pt0) (nxt L j)
def validL (L : List Pt) : Bool := decide (L.length ≤ 4096) && L.all vP
def area (L : List Pt) : Int := if validL L = true then areaTo L L.length else 0
def revT (L : List Pt) : List Pt := L.take 1 ++ (L.drop 1).reverse
def orient (L : List Pt) : List Pt := if 0 < area L then L else if area L < 0 then revT L else []
theorem crP_bd (p q : Pt) : -2199023255552 ≤ crP p q ∧ crP p q ≤ 2199023255552 := by
  have a := hc_bd p.1
  have b := hc_bd p.2
  have c := hc_bd q.1
  have d := hc_bd q.2
  unfold crP crossI
  have h1 := Nat.mul_le_mul (show (hc p.1).natAbs ≤ 1048576 by omega) (show (hc q.2).natAbs ≤ 1048576 by omega)
  have h2 := Nat.mul_le_mul (show (hc p.2).natAbs ≤ 1048576 by omega) (show (hc q.1).natAbs ≤ 1048576 by omega)
  rw [← Int.natAbs_mul] at h1 h2
  generalize hc p.1 * hc q.2 = x at *
  generalize hc p.2 * hc q.1 = y at *
  omega
theorem areaTo_bd (L : List Pt) : ∀ j : Nat, -2199023255552 * (j : Int) ≤ areaTo L j ∧ areaTo L j ≤ 2199023255552 * (j : Int)
  | 0 => by simp [areaTo]
  | j + 1 => by
    have h := areaTo_bd L j
    have h2 := crP_bd (L.getD j pt0) (nxt L j)
    unfold areaTo
    omega
theorem vP_bd {p : Pt} (h : vP p = true) : hc p.1 = p.1 ∧ hc p.2 = p.2 ∧ -1048576 ≤ p.1 ∧ p.1 ≤ 1048576 ∧ -1048576 ≤ p.2 ∧ p.2 ≤ 1048576 := by
  unfold vP validB at h
  simp at h
  have a := hc_bd p.1
  have b := hc_bd p.2
  omega
theorem vP_of {p : Pt} (h1 : -1048576 ≤ p.1) (h2 : p.1 ≤ 1048576) (h3 : -1048576 ≤ p.2) (h4 : p.2 ≤ 1048576) : vP p = true := by
  unfold vP validB
  rw [hc_id ⟨h1, h2⟩, hc_id ⟨h3, h4⟩]; simp
theorem orient_ok (L : List Pt) (h : ∀ p ∈ L, okP p) : ∀ p ∈ orient L, okP p := by
  intro p hp
  unfold orient at hp
  split at hp
  · exact h p hp
  · split at hp
    · unfold revT at hp
      rcases List.mem_append.1 hp with h1 | h1
      · exact h p (List.mem_of_mem_take h1)
      · exact h p (List.mem_of_mem_drop (List.mem_reverse.1 h1))
    · cases hp
theorem revT_length (L : List Pt) : (revT L).length = L.length := by
  cases L with
  | nil => rfl
  | cons a r => simp [revT]
end

section
open Go.RowKit
set_option linter.unusedVariables false
set_option linter.unusedSimpArgs false
/-- The index of the first point that is not valid, from k on, or -1. -/
def idxV : Nat → List Pt → Int
  | _, [] => -1
  | k, p :: r => if vP p = true then idxV (k + 1) r else (k : Int)
theorem idxV_all : ∀ (L : List Pt) (k : Nat), (0 ≤ idxV k L) = (L.all vP = false)
  | [], k => by simp [idxV]
  | p :: r, k => by
    unfold idxV
    rw [List.all_cons]
    cases h : vP p with
    | true => simp [idxV_all r (k + 1)]
    | false => simp
def Rws (w : World) (A : Option Addr) (n c : Nat) (LL : List (List Pt)) : Prop :=
  LL.length = n ∧ n ≤ c ∧ c ≤ maxLen ∧ (0 < n → ∃ b o, A = some ⟨b, o, none⟩ ∧ b < w.heap.size ∧ ∀ k, k < n → ∃ Ak nk ck, w.cell? ⟨b, o + k, none⟩ = some (.slice Ak nk ck) ∧ Pts w Ak nk ck (LL.getD k []) ∧ nk ≤ 4611686018427387904)
theorem Rws.keep {w w' : World} {A : Option Addr} {n c : Nat} {LL : List (List Pt)} (h : Rws w A n c LL) (hk : Keeps w w') : Rws w' A n c LL := by
  obtain ⟨h1, h2, h3, h4⟩ := h
  refine ⟨h1, h2, h3, fun hn => ?_⟩
  obtain ⟨b, o, e, hb, hc⟩ := h4 hn
  refine ⟨b, o, e, Nat.lt_of_lt_of_le hb hk.size, fun k hk' => ?_⟩
  obtain ⟨Ak, nk, ck, h5, h6, h7⟩ := hc k hk'
  exact ⟨Ak, nk, ck, (hk.cell hb).trans h5, h6.keep hk, h7⟩
theorem Rws.max {w : World} {A : Option Addr} {n c : Nat} {LL : List (List Pt)} (h : Rws w A n c LL) : (n : Int) ≤ 9223372036854775807 := by
  have h1 := h.2.1; have h2 := h.2.2.1; unfold maxLen at h2; omega
/-- At most 4096 points with those ahead, all valid. -/
def vRows (a : Nat) : List (List Pt) → Bool
  | [] => true
  | r :: rs => if 4096 < a + r.length ∨ r.all vP = false then false else vRows (a + r.length) rs
theorem vRows_one (L : List Pt) : vRows 0 [L] = validL L := by
  unfold vRows validL vRows
  rw [Nat.zero_add]
  by_cases h : L.length ≤ 4096
  · rw [decide_eq_true h]
    cases hv : L.all vP with
    | true => rw [if_neg (by simp; omega)]; rfl
    | false => rw [if_pos (Or.inr rfl)]; rfl
  · rw [decide_eq_false h, if_pos (Or.inl (by omega))]; rfl
theorem Rws.one {w : World} {A : Option Addr} {n c : Nat} {L : List Pt} (h : Pts w A n c L) (hn : n ≤ 4611686018427387904) (t : TypeId) : Rws (w.alloc (.cells #[.slice A n c] t)) (some ⟨w.heap.size, 0, none⟩) 1 1 [L] := by
  refine ⟨rfl, Nat.le_refl _, by unfold maxLen; omega, fun _ => ⟨_, _, rfl, by simp, fun k hk => ?_⟩⟩
  obtain rfl : k = 0 := by omega
  exact ⟨A, n, c, by simp [go_sem], h.keep ((Keeps.refl _).alloc _), hn⟩
end
end Go.Proofs.Ytihmhpleiefodaa
