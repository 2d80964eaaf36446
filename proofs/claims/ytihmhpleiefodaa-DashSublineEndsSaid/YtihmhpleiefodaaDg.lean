/- Contracts of dash.Length and of (measured).point. -/
import Derived.Test.YtihmhpleiefodaaDb
namespace Go.Proofs.Ytihmhpleiefodaa
open Go.RowKit Go.Shelf
attribute [local go_sem ↓] Go.wp_at_zero Go.wp_at_succ
set_option linter.unusedVariables false
set_option linter.unusedSimpArgs false
def lenP (cl : Bool) (L : List Pt) : Int := if L.all vP = true then lng (segs cl (dedC cl L)) else 0
set_option maxRecDepth 100000 in
set_option maxHeartbeats 2000000 in
theorem dlen_any (cl : Bool) (A : Option Addr) (n c : Nat) (L : List Pt) (w : World) (h : Pts w A n c L) (hn : n ≤ 1000000) :
    Calls Try.prog 12 #[.agg #[.slice A n c, .bool cl]] w fun e w' => e = .returned (.int .i64 (lenP cl L)) ∧ Keeps w w' := by
  have HS := Lib.hid (show ∀ w', Keeps (w.alloc (.cells #[.slice A n c, .bool cl] 24)) w' → w'.cell? ⟨w.heap.size, 0, none⟩ = some (.slice A n c) ∧ w'.frozen? ⟨w.heap.size, 0, none⟩ = false ∧ w'.cell? ⟨w.heap.size, 1, none⟩ = some (.bool cl) ∧ w'.frozen? ⟨w.heap.size, 1, none⟩ = false from fun w' hk => ⟨(hk.cell (p := ⟨w.heap.size, 0, none⟩) (by first | (simp; done) | (simp; omega))).trans (by simp [go_sem]), (hk.frozen (p := ⟨w.heap.size, 0, none⟩) (by first | (simp; done) | (simp; omega))).trans (by simp [go_sem]), (hk.cell (p := ⟨w.heap.size, 1, none⟩) (by first | (simp; done) | (simp; omega))).trans (by simp [go_sem]), (hk.frozen (p := ⟨w.heap.size, 1, none⟩) (by first | (simp; done) | (simp; omega))).trans (by simp [go_sem])⟩)
  have HB := Lib.hid (show Keeps w (w.alloc (.cells #[.slice A n c, .bool cl] 24)) from (by (repeat (first | (with_reducible exact Keeps.refl _) | (with_reducible assumption) | (with_reducible refine Keeps.drewN ?_ _) | (with_reducible refine Keeps.drew ?_) | (with_reducible refine Keeps.alloc ?_ _) | (with_reducible refine Keeps.setNew ?_ ?_ _))) <;> (dsimp only; omega)))
  have hk0 := Keeps.refl (w.alloc (.cells #[.slice A n c, .bool cl] 24))
  unfold lenP
  cases hv : L.all vP with
  | false =>
    have KM := Lib.hid (fun w' (hk : Keeps w w') => measure_no cl A n c L w' (h.keep hk) hv)
    rw [if_neg (by decide)]
    clear h hv
    obtain ⟨y0, y1, y2, y3⟩ := HS.out _ hk0
    go_enter Try.func12, Try.ntmps12
    go_wp2_with (go_at_call 27; (with_reducible refine (KM.out _ HB.out).mono ?_); rintro e w1 ⟨rfl, hk⟩)
    go_ret
    exact ⟨rfl, (HB.out.trans hk).alloc _⟩
  | true =>
    have KM := Lib.hid (fun w' (hk : Keeps w w') => measure_yes cl A n c L w' (h.keep hk) hn hv)
    rw [if_pos rfl]
    clear h hv
    obtain ⟨y0, y1, y2, y3⟩ := HS.out _ hk0
    go_enter Try.func12, Try.ntmps12
    go_wp2_with (go_at_call 27; (with_reducible refine (KM.out _ HB.out).mono ?_); rintro e w1 ⟨hk, A1, c1, A2, c2, rfl, hP, hI⟩; clear hP hI)
    go_ret
    exact ⟨rfl, (HB.out.trans hk).alloc _⟩
/-- A point of a segment. -/
def lerpS (s : Pt × Pt) (a : Int) : Pt := (lerpI s.1.1 s.2.1 a (lenS s), lerpI s.1.2 s.2.2 a (lenS s))
/-- The point at a distance. -/
def ptF : List (Pt × Pt) → Int → Pt
  | [], _ => pt0
  | s :: r, a => if a < lenS s ∨ r = [] then lerpS s a else ptF r (a - lenS s)
def sg0 : Pt × Pt := (pt0, pt0)
theorem lng_cons (s : Pt × Pt) (S : List (Pt × Pt)) : lng (s :: S) = lenS s + lng S := by simp [lng]
theorem lng_take_succ (S : List (Pt × Pt)) (i : Nat) (h : i < S.length) : lng (S.take (i + 1)) = lng (S.take i) + lenS (S.getD i sg0) := by
  rw [List.take_add_one, List.getElem?_eq_getElem h, List.getD_eq_getElem?_getD, List.getElem?_eq_getElem h]
  exact lng_snoc _ _
theorem lng_take_mono (S : List (Pt × Pt)) : ∀ i j, i ≤ j → lng (S.take i) ≤ lng (S.take j) := by
  intro i j hij
  obtain ⟨d, rfl⟩ := Nat.exists_eq_add_of_le hij
  induction d with
  | zero => exact Int.le_refl _
  | succ d ih =>
    have h1 := ih (by omega)
    by_cases h : i + d < S.length
    · have h2 := lng_take_succ S (i + d) h
      have h3 := lenS_bd (S.getD (i + d) sg0)
      rw [← Nat.add_assoc, h2]
      omega
    · rw [List.take_of_length_le (by omega : S.length ≤ i + (d + 1))]
      rw [List.take_of_length_le (by omega : S.length ≤ i + d)] at h1
      exact h1
theorem ptF_at : ∀ (S : List (Pt × Pt)) (i : Nat) (a : Int), i < S.length → (i = 0 ∨ lng (S.take i) ≤ a) → (i + 1 < S.length → a < lng (S.take (i + 1))) → ptF S a = lerpS (S.getD i sg0) (a - lng (S.take i))
  | [], i, a, h, _, _ => by simp at h
  | s :: r, 0, a, h, _, h2 => by
    unfold ptF
    rw [if_pos ?_]
    · simp [lng]
    · cases r with
      | nil => exact .inr rfl
      | cons t r =>
        have := h2 (by simp)
        simp [lng] at this
        exact .inl this
  | s :: r, i + 1, a, h, h1, h2 => by
    have hi : i < r.length := by simpa using h
    have h1 : lenS s + lng (r.take i) ≤ a := by
      rcases h1 with h1 | h1
      · omega
      · rw [List.take_succ_cons, lng_cons] at h1; exact h1
    have h0 := lng_bd (r.take i)
    unfold ptF
    rw [if_neg ?_]
    · rw [ptF_at r i (a - lenS s) hi (.inr (by omega)) (fun hh => by
        have := h2 (by simpa using hh)
        rw [List.take_succ_cons, lng_cons] at this
        omega)]
      rw [List.take_succ_cons, lng_cons, List.getD_cons_succ, show a - lenS s - lng (r.take i) = a - (lenS s + lng (r.take i)) by omega]
    · rintro (h3 | h3)
      · omega
      · rw [h3] at hi; simp at hi
theorem ats_get (S : List (Pt × Pt)) (i : Nat) (h : i < S.length) : (ats S).getD i 0 = lng (S.take i) := by
  unfold ats
  rw [List.getD_eq_getElem?_getD, List.getElem?_eq_getElem (by simpa using h)]
  simp
theorem segs_get (cl : Bool) (M : List Pt) (i : Nat) (h : i < (segs cl M).length) : (segs cl M).getD i sg0 = seg M i := by
  unfold segs upS at *
  rw [List.getD_eq_getElem?_getD, List.getElem?_eq_getElem h]
  simp
theorem segs_pos {cl : Bool} {M : List Pt} (h : 0 < (segs cl M).length) : 1 < M.length ∧ (segs cl M).length ≤ M.length := by
  unfold segs at *
  rw [upS_len] at *
  unfold segN at *
  split at h
  · omega
  · rw [if_neg (by assumption)]
    split <;> omega
end Go.Proofs.Ytihmhpleiefodaa
