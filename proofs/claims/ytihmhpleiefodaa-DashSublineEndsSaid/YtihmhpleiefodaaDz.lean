/- Contracts of reference 25: add, Subline. -/
import Derived.Test.YtihmhpleiefodaaDj
import Derived.Test.YtihmhpleiefodaaOd
import Derived.Test.YtihmhpleiefodaaDn
import Derived.Test.YtihmhpleiefodaaDt
import Derived.Test.YtihmhpleiefodaaRy
namespace Go.Proofs.Ytihmhpleiefodaa
section
set_option linter.unusedVariables false
set_option linter.unusedSimpArgs false
theorem dedTo_mem (L : List Pt) : ∀ j, j ≤ L.length → ∀ p ∈ dedTo L j, p ∈ L
  | 0, _, p, hp => by simp [dedTo] at hp
  | j + 1, hj, p, hp => by
    unfold dedTo at hp
    have hL : L.getD j pt0 ∈ L := by rw [List.getD_eq_getElem?_getD, List.getElem?_eq_getElem (by omega)]; exact List.getElem_mem _
    split at hp
    · rcases List.mem_append.1 hp with h1 | h1
      · exact dedTo_mem L j (by omega) p h1
      · rw [List.mem_singleton.1 h1]; exact hL
    · exact dedTo_mem L j (by omega) p hp
theorem trimC_mem : ∀ (f : Nat) (L : List Pt), ∀ p ∈ trimC f L, p ∈ L
  | 0, L, p, h => by unfold trimC at h; exact h
  | f + 1, L, p, h => by
    unfold trimC at h
    split at h
    · exact List.mem_of_mem_take (trimC_mem f _ p h)
    · exact h
theorem dedC_mem (cl : Bool) (L : List Pt) : ∀ p ∈ dedC cl L, p ∈ L := by
  intro p hp
  unfold dedC at hp
  split at hp
  · exact dedTo_mem L _ (Nat.le_refl _) p (trimC_mem _ _ p hp)
  · exact dedTo_mem L _ (Nat.le_refl _) p hp
theorem dedC_apart (cl : Bool) (L : List Pt) : Apart (dedC cl L) := by
  unfold dedC
  split
  · exact trimC_apart _ _ (dedTo_apart L _)
  · exact dedTo_apart L _
theorem trimC_ends : ∀ (f : Nat) (L : List Pt), L.length ≤ f → 1 < (trimC f L).length → (trimC f L).getD ((trimC f L).length - 1) pt0 ≠ (trimC f L).getD 0 pt0
  | 0, L, hf, h => by unfold trimC at h; omega
  | f + 1, L, hf, h => by
    unfold trimC at h ⊢
    split
    · rename_i hc
      rw [if_pos hc] at h
      exact trimC_ends f _ (by rw [List.length_take]; omega) h
    · rename_i hc
      rw [if_neg hc] at h
      exact fun e => hc ⟨h, e⟩
theorem dedC_ends (L : List Pt) (h : 1 < (dedC true L).length) : (dedC true L).getD ((dedC true L).length - 1) pt0 ≠ (dedC true L).getD 0 pt0 := by
  unfold dedC at *
  rw [if_pos rfl] at *
  exact trimC_ends _ _ (Nat.le_refl _) h
/-- Every segment joins two different points that are valid. -/
def GoodS (S : List (Pt × Pt)) : Prop := (∀ j, j < S.length → vP (S.getD j sg0).1 = true ∧ vP (S.getD j sg0).2 = true ∧ (S.getD j sg0).1 ≠ (S.getD j sg0).2) ∧ ∀ j, j + 1 < S.length → (S.getD (j + 1) sg0).1 = (S.getD j sg0).2
theorem goodS (cl : Bool) (L : List Pt) (hv : L.all vP = true) : GoodS (segs cl (dedC cl L)) := by
  have hM : ∀ k, k < (dedC cl L).length → vP ((dedC cl L).getD k pt0) = true := fun k hk => by
    rw [List.getD_eq_getElem?_getD, List.getElem?_eq_getElem hk]
    exact List.all_eq_true.1 hv _ (dedC_mem cl L _ (List.getElem_mem _))
  have hA := dedC_apart cl L
  have hN : ∀ j, j < (segs cl (dedC cl L)).length → 1 < (dedC cl L).length ∧ j < (dedC cl L).length ∧ (j + 1 = (dedC cl L).length → cl = true) := fun j hj => by
    unfold segs segN at hj
    rw [upS_len] at hj
    split at hj
    · omega
    · split at hj
      · rename_i hc; exact ⟨by omega, by omega, fun _ => hc⟩
      · exact ⟨by omega, by omega, fun h => by omega⟩
  have hA' : ∀ j, j + 1 < (dedC cl L).length → (dedC cl L).getD j pt0 ≠ (dedC cl L).getD (j + 1) pt0 := fun j hj e => hA (j + 1) (by omega) hj (by rw [Nat.add_sub_cancel]; exact e.symm)
  have hE : cl = true → 1 < (dedC cl L).length → (dedC cl L).getD ((dedC cl L).length - 1) pt0 ≠ (dedC cl L).getD 0 pt0 := fun hc h1 => by subst hc; exact dedC_ends L h1
  generalize dedC cl L = M at *
  refine ⟨fun j hj => ?_, fun j hj => ?_⟩
  · obtain ⟨h1, h2, h3⟩ := hN j hj
    rw [segs_get cl M j hj]
    unfold seg
    dsimp only
    refine ⟨hM j h2, hM _ (Nat.mod_lt _ (by omega)), ?_⟩
    by_cases e : j + 1 = M.length
    · rw [e, Nat.mod_self]
      have := hE (h3 e) h1
      rwa [show M.length - 1 = j by omega] at this
    · rw [Nat.mod_eq_of_lt (by omega)]
      exact hA' j (by omega)
  · obtain ⟨h1, h2, h3⟩ := hN (j + 1) hj
    rw [segs_get cl M j (by omega), segs_get cl M (j + 1) hj]
    unfold seg
    dsimp only
    rw [Nat.mod_eq_of_lt h2]
theorem lenS_pos {a b : Pt} (ha : vP a = true) (hb : vP b = true) (hne : a ≠ b) : 1 ≤ lenS (a, b) := by
  obtain ⟨a1, a2, b1, b2, b3, b4⟩ := vP_bd ha
  obtain ⟨c1, c2, d1, d2, d3, d4⟩ := vP_bd hb
  unfold lenS
  dsimp only
  obtain ⟨d, m, e1, _, e2, m1, HL⟩ := dotI_self (subc b.1 a.1) (subc b.2 a.2)
  rw [HL.out]
  have hd : 1 ≤ d := by
    have hx : hc (subc b.1 a.1) ≠ 0 ∨ hc (subc b.2 a.2) ≠ 0 := by
      unfold subc
      rw [a1, a2, c1, c2]
      by_cases h1 : a.1 = b.1
      · by_cases h2 : a.2 = b.2
        · exact absurd (Prod.ext h1 h2) hne
        · right; unfold hc clI; split <;> (try split) <;> omega
      · left; unfold hc clI; split <;> (try split) <;> omega
    unfold dotI at e1
    have p1 : (0 : Int) ≤ hc (subc b.1 a.1) * hc (subc b.1 a.1) := by rw [← Int.natAbs_mul_self']; exact Int.natCast_nonneg _
    have p2 : (0 : Int) ≤ hc (subc b.2 a.2) * hc (subc b.2 a.2) := by rw [← Int.natAbs_mul_self']; exact Int.natCast_nonneg _
    rcases hx with hx | hx
    · have : 0 < hc (subc b.1 a.1) * hc (subc b.1 a.1) := by
        rcases Int.lt_or_gt_of_ne hx with h | h
        · exact Int.mul_pos_of_neg_of_neg h h
        · exact Int.mul_pos h h
      omega
    · have : 0 < hc (subc b.2 a.2) * hc (subc b.2 a.2) := by
        rcases Int.lt_or_gt_of_ne hx with h | h
        · exact Int.mul_pos_of_neg_of_neg h h
        · exact Int.mul_pos h h
      omega
  have hs := isq_spec m (by omega)
  rcases Nat.eq_zero_or_pos (isq m) with e | e
  · rw [e] at hs; omega
  · omega
theorem lerpI_0 {a b d : Int} (ha : hc a = a) (d0 : 1 ≤ d) (d1 : d ≤ 4294967295) : lerpI a b 0 d = a := by
  have e0 : clI 0 0 d = 0 := by unfold clI; split <;> (try split) <;> omega
  unfold lerpI
  rw [if_neg (by omega), e0, Int.zero_mul, dvr_none d d0, ha, Int.add_zero]
theorem lerpI_d {a b d : Int} (hb : hc b = b) (d0 : 1 ≤ d) (d1 : d ≤ 4294967295) : lerpI a b d d = b := by
  have h1 := hc_bd a
  have h2 := hc_bd b
  have e0 : clI d 0 d = d := by unfold clI; split <;> (try split) <;> omega
  unfold lerpI
  rw [if_neg (by omega), e0, dvr_full d (hc b - hc a) d0 (by omega) (by omega) (by omega), hb]
  omega
theorem lerpS_0 {a b : Pt} (ha : vP a = true) (hb : vP b = true) (hne : a ≠ b) : lerpS (a, b) 0 = a := by
  obtain ⟨a1, a2, _⟩ := vP_bd ha
  have hp := lenS_pos ha hb hne
  have hq := (lenS_bd (a, b)).2
  unfold lerpS
  rw [lerpI_0 a1 hp hq, lerpI_0 a2 hp hq]
theorem lerpS_d {a b : Pt} (ha : vP a = true) (hb : vP b = true) (hne : a ≠ b) : lerpS (a, b) (lenS (a, b)) = b := by
  obtain ⟨b1, b2, _⟩ := vP_bd hb
  have hp := lenS_pos ha hb hne
  have hq := (lenS_bd (a, b)).2
  unfold lerpS
  rw [lerpI_d b1 hp hq, lerpI_d b2 hp hq]
theorem GoodS.len {S : List (Pt × Pt)} (h : GoodS S) {j : Nat} (hj : j < S.length) : 1 ≤ lenS (S.getD j sg0) := by
  obtain ⟨h1, h2, h3⟩ := h.1 j hj
  exact lenS_pos h1 h2 h3
/-- The point at a distance within segment j. -/
theorem pt_in {S : List (Pt × Pt)} (h : GoodS S) {j : Nat} (hj : j < S.length) {x : Int} (h1 : lng (S.take j) ≤ x) (h2 : x ≤ lng (S.take (j + 1))) : ptF S x = lerpS (S.getD j sg0) (x - lng (S.take j)) := by
  by_cases he : x < lng (S.take (j + 1)) ∨ j + 1 = S.length
  · exact ptF_at S j x hj (.inr h1) (fun hh => by rcases he with he | he <;> omega)
  · have hx : x = lng (S.take (j + 1)) := by omega
    have hj1 : j + 1 < S.length := by omega
    obtain ⟨g1, g2, g3⟩ := h.1 j hj
    obtain ⟨k1, k2, k3⟩ := h.1 (j + 1) hj1
    have hl := h.len hj1
    have hs := lng_take_succ S (j + 1) hj1
    rw [ptF_at S (j + 1) x hj1 (.inr (by omega)) (fun _ => by omega), hx, Int.sub_self]
    rw [lng_take_succ S j hj, show lng (S.take j) + lenS (S.getD j sg0) - lng (S.take j) = lenS (S.getD j sg0) by omega]
    have e1 := lerpS_0 k1 k2 k3
    have e2 := lerpS_d g1 g2 g3
    rw [show ((S.getD (j + 1) sg0).1, (S.getD (j + 1) sg0).2) = S.getD (j + 1) sg0 from rfl] at e1
    rw [show ((S.getD j sg0).1, (S.getD j sg0).2) = S.getD j sg0 from rfl] at e2
    rw [e1, e2, h.2 j hj1]
/-- Reference 25's add. -/
def addR (O : List Pt) (p : Pt) : List Pt := if O.length = 0 ∨ O.getD (O.length - 1) pt0 ≠ p then O ++ [p] else O
theorem addR_nil (p : Pt) : addR [] p = [p] := rfl
theorem addR_addL {O : List Pt} {p : Pt} (h : 0 < O.length) : addR O p = addL O p := by
  unfold addR addL
  by_cases e : O.getD (O.length - 1) pt0 = p
  · rw [if_neg (fun hh => by rcases hh with hh | hh; omega; exact hh e), if_pos e]
  · rw [if_pos (.inr e), if_neg e]
/-- What reference 25's Subline holds behind the first j segments. -/
def refTo (S : List (Pt × Pt)) (lo hi : Int) : Nat → List Pt
  | 0 => []
  | j + 1 =>
    let a := lng (S.take j)
    let s := S.getD j sg0
    let o1 := if a ≤ lo ∧ lo < a + lenS s then addR (refTo S lo hi j) (lerpS s (lo - a)) else refTo S lo hi j
    let o2 := if lo < a ∧ a < hi then addR o1 s.1 else o1
    if a < hi ∧ hi ≤ a + lenS s then addR o2 (lerpS s (hi - a)) else o2
theorem ref_cut {S : List (Pt × Pt)} {M : List Pt} (h : GoodS S) (hM : ∀ j, j < S.length → M.getD j pt0 = (S.getD j sg0).1) {lo hi : Int} (h0 : 0 ≤ lo) (h1 : lo < hi) : ∀ j, j ≤ S.length →
    (lng (S.take j) ≤ lo ∧ refTo S lo hi j = [] ∧ cutTo S M lo hi j = [ptF S lo]) ∨ (lo < lng (S.take j) ∧ lng (S.take j) < hi ∧ refTo S lo hi j = cutTo S M lo hi j) ∨ (hi ≤ lng (S.take j) ∧ refTo S lo hi j = addL (cutTo S M lo hi j) (ptF S hi))
  | 0, _ => .inl ⟨by simpa [lng] using h0, rfl, rfl⟩
  | j + 1, hj => by
    have hjl : j < S.length := by omega
    have hlen := h.len hjl
    have hs := lng_take_succ S j hjl
    have hct := cutTo_len S M lo hi j
    have hlow := fun (k1 : lng (S.take j) ≤ lo) (k2 : lo ≤ lng (S.take (j + 1))) => pt_in h hjl k1 k2
    have hhigh := fun (k1 : lng (S.take j) ≤ hi) (k2 : hi ≤ lng (S.take (j + 1))) => pt_in h hjl k1 k2
    have hcs : cutTo S M lo hi (j + 1) = if lo < lng (S.take j) ∧ lng (S.take j) < hi then addL (cutTo S M lo hi j) (M.getD j pt0) else cutTo S M lo hi j := rfl
    have hrs : refTo S lo hi (j + 1) = (let a := lng (S.take j); let s := S.getD j sg0
      let o1 := if a ≤ lo ∧ lo < a + lenS s then addR (refTo S lo hi j) (lerpS s (lo - a)) else refTo S lo hi j
      let o2 := if lo < a ∧ a < hi then addR o1 s.1 else o1
      if a < hi ∧ hi ≤ a + lenS s then addR o2 (lerpS s (hi - a)) else o2) := rfl
    have ih := ref_cut h hM h0 h1 j (by omega)
    rw [hM j hjl] at hcs
    have hs' := hs
    generalize lng (S.take (j + 1)) = b at *
    dsimp only at hrs
    generalize lng (S.take j) = a at *
    generalize lenS (S.getD j sg0) = n at *
    clear hs'
    subst hs
    rcases ih with ⟨q1, q2, q3⟩ | ⟨q1, q2, q3⟩ | ⟨q1, q2⟩
    · rw [if_neg (by omega)] at hcs
      by_cases c1 : lo < a + n
      · rw [q2, if_pos (show a ≤ lo ∧ lo < a + n from ⟨q1, c1⟩), if_neg (show ¬ (lo < a ∧ a < hi) by omega), addR_nil, ← hlow q1 (by omega)] at hrs
        rw [hcs, q3]
        by_cases c2 : hi ≤ a + n
        · rw [if_pos (show a < hi ∧ hi ≤ a + n from ⟨by omega, c2⟩), addR_addL (by simp), ← hhigh (by omega) c2] at hrs
          exact .inr (.inr ⟨c2, hrs⟩)
        · rw [if_neg (show ¬ (a < hi ∧ hi ≤ a + n) by omega)] at hrs
          exact .inr (.inl ⟨c1, by omega, hrs⟩)
      · rw [if_neg (show ¬ (a ≤ lo ∧ lo < a + n) by omega), if_neg (show ¬ (lo < a ∧ a < hi) by omega), if_neg (show ¬ (a < hi ∧ hi ≤ a + n) by omega)] at hrs
        exact .inl ⟨by omega, by rw [hrs, q2], by rw [hcs, q3]⟩
    · rw [if_pos ⟨q1, q2⟩] at hcs
      rw [if_neg (show ¬ (a ≤ lo ∧ lo < a + n) by omega), if_pos (show lo < a ∧ a < hi from ⟨q1, q2⟩), q3, addR_addL hct.1, ← hcs] at hrs
      have hct2 := (cutTo_len S M lo hi (j + 1)).1
      by_cases c2 : hi ≤ a + n
      · rw [if_pos (show a < hi ∧ hi ≤ a + n from ⟨q2, c2⟩), addR_addL hct2, ← hhigh (by omega) c2] at hrs
        exact .inr (.inr ⟨c2, hrs⟩)
      · rw [if_neg (show ¬ (a < hi ∧ hi ≤ a + n) by omega)] at hrs
        exact .inr (.inl ⟨by omega, by omega, hrs⟩)
    · rw [if_neg (by omega)] at hcs
      rw [if_neg (show ¬ (a ≤ lo ∧ lo < a + n) by omega), if_neg (show ¬ (lo < a ∧ a < hi) by omega), if_neg (show ¬ (a < hi ∧ hi ≤ a + n) by omega)] at hrs
      exact .inr (.inr ⟨by omega, by rw [hrs, hcs, q2]⟩)
theorem ref_cutL {S : List (Pt × Pt)} {M : List Pt} (h : GoodS S) (hM : ∀ j, j < S.length → M.getD j pt0 = (S.getD j sg0).1) {lo hi : Int} (h0 : 0 ≤ lo) (h1 : lo < hi) (h2 : hi ≤ lng S) : refTo S lo hi S.length = cutL S M lo hi := by
  have := ref_cut h hM h0 h1 S.length (Nat.le_refl _)
  rw [List.take_length] at this
  rcases this with ⟨q1, _⟩ | ⟨_, q2, _⟩ | ⟨_, q3⟩
  · omega
  · omega
  · exact q3
end

section
open Go.RowKit Go.Shelf
attribute [local go_sem ↓] Go.wp_at_zero Go.wp_at_succ
set_option linter.unusedVariables false
set_option linter.unusedSimpArgs false
def clL (x long : Int) : Int := max 0 (min x long)
/-- The points of a subline. -/
def subV (cl : Bool) (L : List Pt) (f t : Int) : List Pt := if clL t (lenP cl L) ≤ clL f (lenP cl L) then [] else cutL (segs cl (dedC cl L)) (dedC cl L) (clL f (lenP cl L)) (clL t (lenP cl L))
theorem clL_bd (x : Int) {long : Int} (h : 0 ≤ long) : 0 ≤ clL x long ∧ clL x long ≤ long := by unfold clL; omega
/-- A polyline that is not closed, in new memory. -/
def RetPo (w : World) (L : List Pt) (e : Ending) (w' : World) : Prop := ∃ A c, e = .returned (.agg #[.slice A L.length c, .bool false]) ∧ w'.ownsRow w.heap.size 50 2 (.slice A L.length c) L.length (rowP L) ∧ Keeps w w'
set_option maxRecDepth 100000 in
set_option maxHeartbeats 2000000 in
theorem subl_any (cl : Bool) (A : Option Addr) (n c : Nat) (L : List Pt) (f t : Int) (w : World) (h : Pts w A n c L) (hn : n ≤ 4096) :
    Calls Try.prog 22 #[.agg #[.slice A n c, .bool cl], .int .i64 f, .int .i64 t] w (RetPo w (subV cl L f t)) := by
  have hl := h.1
  have HS := Lib.hid (show ∀ w', Keeps ((w.alloc (.cells #[.slice A n c, .bool cl] 24)).alloc (.cells #[.slice none 0 0, .bool false] 24)) w' → w'.cell? ⟨w.heap.size, 0, none⟩ = some (.slice A n c) ∧ w'.frozen? ⟨w.heap.size, 0, none⟩ = false ∧ w'.cell? ⟨w.heap.size, 1, none⟩ = some (.bool cl) ∧ w'.frozen? ⟨w.heap.size, 1, none⟩ = false ∧ w'.cell? ⟨w.heap.size + 1, 0, none⟩ = some (.slice none 0 0) ∧ w'.frozen? ⟨w.heap.size + 1, 0, none⟩ = false ∧ w'.cell? ⟨w.heap.size + 1, 1, none⟩ = some (.bool false) ∧ w'.frozen? ⟨w.heap.size + 1, 1, none⟩ = false from fun w' hk => ⟨(hk.cell (p := ⟨w.heap.size, 0, none⟩) (by first | (simp; done) | (simp; omega))).trans (by simp [go_sem]), (hk.frozen (p := ⟨w.heap.size, 0, none⟩) (by first | (simp; done) | (simp; omega))).trans (by simp [go_sem]), (hk.cell (p := ⟨w.heap.size, 1, none⟩) (by first | (simp; done) | (simp; omega))).trans (by simp [go_sem]), (hk.frozen (p := ⟨w.heap.size, 1, none⟩) (by first | (simp; done) | (simp; omega))).trans (by simp [go_sem]), (hk.cell (p := ⟨w.heap.size + 1, 0, none⟩) (by first | (simp; done) | (simp; omega))).trans (by simp [go_sem]), (hk.frozen (p := ⟨w.heap.size + 1, 0, none⟩) (by first | (simp; done) | (simp; omega))).trans (by simp [go_sem]), (hk.cell (p := ⟨w.heap.size + 1, 1, none⟩) (by first | (simp; done) | (simp; omega))).trans (by simp [go_sem]), (hk.frozen (p := ⟨w.heap.size + 1, 1, none⟩) (by first | (simp; done) | (simp; omega))).trans (by simp [go_sem])⟩)
  have HB := Lib.hid (show Keeps w ((w.alloc (.cells #[.slice A n c, .bool cl] 24)).alloc (.cells #[.slice none 0 0, .bool false] 24)) from (by (repeat (first | (with_reducible exact Keeps.refl _) | (with_reducible assumption) | (with_reducible refine Keeps.drewN ?_ _) | (with_reducible refine Keeps.drew ?_) | (with_reducible refine Keeps.alloc ?_ _) | (with_reducible refine Keeps.setNew ?_ ?_ _))) <;> (dsimp only; omega)))
  have hk0 := Keeps.refl ((w.alloc (.cells #[.slice A n c, .bool cl] 24)).alloc (.cells #[.slice none 0 0, .bool false] 24))
  cases hv : L.all vP with
  | false =>
    have KM := Lib.hid (fun w' (hk : Keeps w w') => measure_no cl A n c L w' (h.keep hk) hv)
    have hR := Lib.hid (show subV cl L f t = [] by
      have hz : lenP cl L = 0 := by unfold lenP; rw [hv]; rfl
      unfold subV
      rw [hz, if_pos (by unfold clL; omega)])
    have m1 : max 0 (min f 0) = 0 := by omega
    have m2 : max 0 (min t 0) = 0 := by omega
    clear h hv
    rw [hR.out]
    obtain ⟨y0, y1, y2, y3, y4, y5, y6, y7⟩ := HS.out _ hk0
    go_enter Try.func22, Try.ntmps22
    go_upto_region 2 with (go_at_call 27; (with_reducible refine (KM.out _ HB.out).mono ?_); rintro e w1 ⟨rfl, hk1⟩; clear y0 y1 y2 y3 y4 y5 y6 y7; obtain ⟨y0, y1, y2, y3, y4, y5, y6, y7⟩ := HS.out _ hk1)
    have hs1 : w.heap.size + 1 < w1.heap.size := by have := hk1.size; simp at this; omega
    go_quiet (fail)
    go_wp2_with fail
    refine bodyPost_ret (v := .agg #[.slice none 0 0, .bool false]) (by simp [results, Try.results22, go_sem, *]) rfl ⟨none, 0, rfl, ⟨rfl, .inl ⟨rfl, rfl⟩⟩, ?_⟩
    exact ((((HB.out.trans hk1).alloc _).drewN _).setNew (by dsimp only; omega) _).setNew (by dsimp only; omega) _
  | true =>
    have KM := Lib.hid (fun w' (hk : Keeps w w') => measure_yes cl A n c L w' (h.keep hk) (by omega) hv)
    have hz : lenP cl L = lng (segs cl (dedC cl L)) := by unfold lenP; rw [if_pos hv]
    have hR := Lib.hid (show subV cl L f t = if clL t (lng (segs cl (dedC cl L))) ≤ clL f (lng (segs cl (dedC cl L))) then [] else cutL (segs cl (dedC cl L)) (dedC cl L) (clL f (lng (segs cl (dedC cl L)))) (clL t (lng (segs cl (dedC cl L)))) by unfold subV; rw [hz])
    have hnu := dedC_len cl L
    have hlb := lng_bd (segs cl (dedC cl L))
    have hNS : (segs cl (dedC cl L)).length ≤ 4096 := by unfold segs segN; rw [upS_len]; split <;> (try split) <;> omega
    have hb1 := clL_bd f hlb.1
    have hb2 := clL_bd t hlb.1
    have hS0 := Lib.hid (show (segs cl (dedC cl L)).length = 0 → lng (segs cl (dedC cl L)) = 0 from fun e => by rw [List.eq_nil_of_length_eq_zero e]; rfl)
    clear h hv hz
    generalize subV cl L f t = R at *
    unfold MeR at KM
    generalize dedC cl L = M at *
    have hlo : max 0 (min f (lng (segs cl M))) = clL f (lng (segs cl M)) := rfl
    have hhi : max 0 (min t (lng (segs cl M))) = clL t (lng (segs cl M)) := rfl
    obtain ⟨y0, y1, y2, y3, y4, y5, y6, y7⟩ := HS.out _ hk0
    go_enter Try.func22, Try.ntmps22
    go_upto_region 2 with (go_at_call 27; (with_reducible refine (KM.out _ HB.out).mono ?_); rintro e w1 ⟨hk1, A1, c1, A2, c2, rfl, hP1, hI1⟩; clear y0 y1 y2 y3 y4 y5 y6 y7; replace hP1 := Lib.hid hP1; replace hI1 := Lib.hid hI1)
    obtain ⟨y0, y1, y2, y3, y4, y5, y6, y7⟩ := HS.out _ hk1
    have hs1 : w.heap.size + 1 < w1.heap.size := by have := hk1.size; simp at this; omega
    go_quiet (fail)
    clear y0 y1 y2 y3 y4 y5 y6 y7
    have hk2 : Keeps w1 ((w1.alloc (.cells #[.slice A1 M.length c1, .slice A2 (segs cl M).length c2, .int .i64 (lng (segs cl M))] 54)).drewN nq) := ((Keeps.refl w1).alloc _).drewN nq
    have b7 := (BoxN.new w1 54 #[.slice A1 M.length c1, .slice A2 (segs cl M).length c2, .int .i64 (lng (segs cl M))]).keep ((Keeps.refl _).drewN nq)
    have hP2 := hP1.out.keep hk2
    have hI2 := hI1.out.keep hk2
    have hk3 := hk1.trans hk2
    clear hP1 hI1 hk2
    generalize ((w1.alloc (.cells #[.slice A1 M.length c1, .slice A2 (segs cl M).length c2, .int .i64 (lng (segs cl M))] 54)).drewN nq) = W2 at *
    generalize w1.heap.size = H at *
    obtain ⟨y0, y1, y2, y3, y4, y5, y6, y7⟩ := HS.out _ hk3
    have z0 : W2.cell? ⟨H, 0, none⟩ = some (.slice A1 M.length c1) := (b7.cell 0).trans rfl
    have z1 : W2.cell? ⟨H, 1, none⟩ = some (.slice A2 (segs cl M).length c2) := (b7.cell 1).trans rfl
    have z2 : W2.cell? ⟨H, 2, none⟩ = some (.int .i64 (lng (segs cl M))) := (b7.cell 2).trans rfl
    by_cases hle : clL t (lng (segs cl M)) ≤ clL f (lng (segs cl M))
    · have hRR := Lib.hid (show R = [] by rw [hR.out, if_pos hle])
      clear hP2 hI2 hlo hhi
      generalize clL t (lng (segs cl M)) = hi at *
      generalize clL f (lng (segs cl M)) = lo at *
      go_wp2_with fail
      rw [hRR.out]
      refine bodyPost_ret (v := .agg #[.slice none 0 0, .bool false]) (by simp [results, Try.results22, go_sem, *]) rfl ⟨none, 0, rfl, ⟨rfl, .inl ⟨rfl, rfl⟩⟩, ?_⟩
      exact ((HB.out.trans hk3).setNew (by dsimp only; omega) _).setNew (by dsimp only; omega) _
    · have hRR := Lib.hid (show R = cutL (segs cl M) M (clL f (lng (segs cl M))) (clL t (lng (segs cl M))) by rw [hR.out, if_neg hle])
      have hk0' : 0 < (segs cl M).length := by
        rcases Nat.eq_zero_or_pos (segs cl M).length with e | e
        · have := hS0.out e; omega
        · exact e
      have KC := Lib.hid (cut_any cl M A1 A2 c1 c2 (clL f (lng (segs cl M))) (clL t (lng (segs cl M))) W2 hP2 hI2 hk0' (by omega) (by omega) (by omega) (by omega) (by omega))
      rw [← hRR.out] at KC
      clear hP2 hI2 hlo hhi hS0 hR
      generalize clL t (lng (segs cl M)) = hi at *
      generalize clL f (lng (segs cl M)) = lo at *
      go_wp2_with (go_at_call 40; (with_reducible refine KC.out.mono ?_); rintro e w3 ⟨A3, c3, rfl, ho3, hk4⟩; clear y0 y1 y2 y3 y4 y5 y6 y7 z0 z1 z2; have hk5 := hk3.trans hk4; obtain ⟨y0, y1, y2, y3, y4, y5, y6, y7⟩ := HS.out _ hk5; replace ho3 := Lib.hid ho3)
      have hsz := hk3.size
      have hsw : w.heap.size + 2 ≤ W2.heap.size := by simpa using hsz
      refine bodyPost_ret (v := .agg #[.slice A3 R.length c3, .bool false]) (by simp [results, Try.results22, go_sem, *]) rfl ⟨A3, c3, rfl, ?_, ?_⟩
      · exact own_base (row_far (row_far ho3.out (by omega)) (by omega)) (by omega)
      · exact ((HB.out.trans hk5).setNew (by dsimp only; omega) _).setNew (by dsimp only; omega) _
end

section
open Go.RowKit Go.Shelf
attribute [local go_sem ↓] Go.wp_at_zero Go.wp_at_succ
set_option linter.unusedVariables false
set_option linter.unusedSimpArgs false
set_option maxRecDepth 100000 in
set_option maxHeartbeats 2000000 in
theorem raddp_any (A : Option Addr) (n c : Nat) (O : List Pt) (p : Pt) (w : World) (h : Pts w A n c O) (hn : n ≤ 1000000) :
    Calls Try.prog 41 #[.slice A n c, ptA p] w (RetO w (addR O p)) := by
  obtain ⟨i0, hi, hz0, hz1, hz2⟩ := info_parts pt_info
  have hl := h.1
  have HS := Lib.hid (show ∀ w', Keeps (w.alloc (.cells #[.int .i64 p.1, .int .i64 p.2] 50)) w' → w'.cell? ⟨w.heap.size, 0, none⟩ = some (.int .i64 p.1) ∧ w'.frozen? ⟨w.heap.size, 0, none⟩ = false ∧ w'.cell? ⟨w.heap.size, 1, none⟩ = some (.int .i64 p.2) ∧ w'.frozen? ⟨w.heap.size, 1, none⟩ = false from fun w' hk => ⟨(hk.cell (p := ⟨w.heap.size, 0, none⟩) (by first | (simp; done) | (simp; omega))).trans (by simp [go_sem]), (hk.frozen (p := ⟨w.heap.size, 0, none⟩) (by first | (simp; done) | (simp; omega))).trans (by simp [go_sem]), (hk.cell (p := ⟨w.heap.size, 1, none⟩) (by first | (simp; done) | (simp; omega))).trans (by simp [go_sem]), (hk.frozen (p := ⟨w.heap.size, 1, none⟩) (by first | (simp; done) | (simp; omega))).trans (by simp [go_sem])⟩)
  have HB := Lib.hid (show Keeps w (w.alloc (.cells #[.int .i64 p.1, .int .i64 p.2] 50)) from (by (repeat (first | (with_reducible exact Keeps.refl _) | (with_reducible assumption) | (with_reducible refine Keeps.drewN ?_ _) | (with_reducible refine Keeps.drew ?_) | (with_reducible refine Keeps.alloc ?_ _) | (with_reducible refine Keeps.setNew ?_ ?_ _))) <;> (dsimp only; omega)))
  have hk0 := Keeps.refl (w.alloc (.cells #[.int .i64 p.1, .int .i64 p.2] 50))
  have hR1 := Lib.hid (fun (h9 : O.length = 0 ∨ O.getD (O.length - 1) pt0 ≠ p) => (show addR O p = O ++ [p] from if_pos h9))
  have hR2 := Lib.hid (fun (h9 : ¬ (O.length = 0 ∨ O.getD (O.length - 1) pt0 ≠ p)) => (show addR O p = O from if_neg h9))
  have HA := Lib.hid h
  have hkA := hk0.alloc (.cells #[] 50)
  have hr0 : ((w.alloc (.cells #[.int .i64 p.1, .int .i64 p.2] 50)).alloc (.cells #[] 50)).ownsRow (w.heap.size + 1) 50 2 (.slice (some ⟨w.heap.size + 1, 0, none⟩) 0 0) 0 (rowP []) := by
    have := World.ownsRow_lit (base := w.heap.size + 1) (e := 50) (size := 2) (w.alloc (.cells #[.int .i64 p.1, .int .i64 p.2] 50)) #[] 0 (by simp) (by unfold maxLen; omega) (by simp)
    rw [World.size_alloc] at this
    exact this
  have hgd := ptGuard
  clear h hk0
  generalize addR O p = R at *
  unfold ptA
  go_enter Try.func41, Try.ntmps41
  go_wp2_with fail
  go_loopw [5, 6] (fun v i wr => ∃ j : Nat, j ≤ n ∧ i = .int .i64 j ∧ wr.ownsRow (w.heap.size + 1) 50 2 v j (rowP (O.take j)) ∧ Keeps (w.alloc (.cells #[.int .i64 p.1, .int .i64 p.2] 50)) wr) (fun _ i _ => n - (intOf i).toNat)
  case atStart => exact ⟨0, by omega, rfl, hr0, hkA⟩
  case round =>
    obtain ⟨j, hj, rfl, hown, hkw⟩ := hrel
    obtain ⟨y0, y1, y2, y3⟩ := HS.out _ hkw
    by_cases hlt : j < n
    · obtain ⟨b, o, rfl, hb, hx⟩ := HA.out.2.2.2.2 (by omega)
      obtain ⟨c0, c1⟩ := (hx j hlt).keep hb (HB.out.trans hkw)
      have hT := Lib.hid (takeP_succ O j (by omega))
      have hlt2 : (j : Int) < n := by omega
      clear hx
      generalize O.getD j pt0 = y at *
      go_wp2_with (at_builtin; refine wpList_append_own _ rfl _ _ 22 rfl (w.heap.size + 1) 50 i0 (.agg #[.int .i64 0, .int .i64 0]) 2 16 Try.underlying22 hi hz0 hz1 hz2 rfl (by decide) _ _ _ rfl (row_keep hown ((Keeps.refl wr).alloc _)) ⟨wr.heap.size, 0, none⟩ 1 1 (ptV y) rfl rfl (two_newA wr y _ _ rfl) (oneCell_ptV _) (by unfold maxLen; omega) (by omega) (by have := hkw.size; simp at this ⊢; omega) ?_; intro v1 w4 hown1 hgrow1 hz9; clear hz9; rw [← rowP_one, ← rowP_append] at hown1)
      have hra := row_keep hown ((Keeps.refl wr).alloc (.cells #[.int .i64 y.1, .int .i64 y.2] 50))
      have hk4 : Keeps (w.alloc (.cells #[.int .i64 p.1, .int .i64 p.2] 50)) w4 := Below.grown (hkw.alloc _) hgrow1 (by have := hkw.size; simp at this ⊢; omega) (fun k e => by have := row_base hra k e; simp; omega)
      go_roundw
      case rel => exact ⟨j + 1, by omega, by go_num, by rw [hT.out]; exact hown1, hk4⟩
      case measure => simp [intOf]; omega
    · obtain rfl : j = n := by omega
      rw [List.take_of_length_le (by omega)] at hown
      by_cases hz : j = 0
      · have hRR := Lib.hid (hR1.out (.inl (by omega)))
        have hzi : ((j : Int) == 0) = true := by rw [hz]; rfl
        go_upto_region 7 with fail
        go_quiet (fail)
        have hown := row_keep hown ((Keeps.refl wr).drewN nq)
        have hkw := hkw.drewN nq
        clear y0 y1 y2 y3 hzi
        generalize wr.drewN nq = wr at *
        obtain ⟨y0, y1, y2, y3⟩ := HS.out _ hkw
        go_wp2_with (at_builtin; refine wpList_append_own _ rfl _ _ 22 rfl (w.heap.size + 1) 50 i0 (.agg #[.int .i64 0, .int .i64 0]) 2 16 Try.underlying22 hi hz0 hz1 hz2 rfl (by decide) _ _ _ rfl (row_keep hown ((Keeps.refl wr).alloc _)) ⟨wr.heap.size, 0, none⟩ 1 1 (ptV p) rfl rfl (two_newA wr p _ _ rfl) (oneCell_ptV _) (by unfold maxLen; omega) (by omega) (by have := hkw.size; simp at this ⊢; omega) ?_; intro v1 w4 hown1 hgrow1 hz9; clear hz9; rw [← rowP_one, ← rowP_append] at hown1)
        have hra := row_keep hown ((Keeps.refl wr).alloc (.cells #[.int .i64 p.1, .int .i64 p.2] 50))
        have hk4 : Keeps (w.alloc (.cells #[.int .i64 p.1, .int .i64 p.2] 50)) w4 := Below.grown (hkw.alloc _) hgrow1 (by have := hkw.size; simp at this ⊢; omega) (fun k e => by have := row_base hra k e; simp; omega)
        go_ret
        obtain ⟨A9, c9, rfl⟩ := own_len hown1
        rw [hRR.out]
        exact ⟨A9, c9, by rw [List.length_append, hl]; rfl, by rw [List.length_append, hl]; exact own_base hown1 (by omega), HB.out.trans hk4⟩
      · obtain ⟨q, hq⟩ : ∃ q : Nat, (j : Int) - 1 = q := ⟨j - 1, by omega⟩
        have hwq : IntKind.i64.wrap (q : Int) = q := i64_in _ (by omega)
        have hqn : (q : Int) < j := by omega
        have hzi : ((j : Int) == 0) = false := by simp only [beq_eq_false_iff_ne]; omega
        obtain ⟨b, o, rfl, hb, hx⟩ := HA.out.2.2.2.2 (by omega)
        obtain ⟨c0, c1⟩ := (hx q (by omega)).keep hb (HB.out.trans hkw)
        have hLq := Lib.hid (show O.getD (O.length - 1) pt0 = O.getD q pt0 by rw [show O.length - 1 = q by omega])
        have hlz := Lib.hid (show ¬ O.length = 0 by omega)
        clear hx hz
        generalize hlq : O.getD q pt0 = l at *
        replace hlq := Lib.hid hlq
        obtain ⟨l0, l1⟩ := l
        obtain ⟨p0, p1⟩ := p
        have hP := fun w => ptNeq l0 l1 p0 p1 w
        dsimp only at *
        by_cases he : l0 = p0 ∧ l1 = p1
        · obtain ⟨rfl, rfl⟩ := he
          simp only [beq_self_eq_true, Bool.and_self, Bool.not_true] at hP
          have hRR := Lib.hid (hR2.out (by rintro (h9 | h9); exact hlz.out h9; exact h9 hLq.out))
          obtain ⟨A9, c9, rfl⟩ := own_len hown
          go_upto_region 7 with fail
          go_quiet (fail)
          go_wp2_with fail
          go_ret
          rw [hRR.out]
          exact ⟨A9, c9, by rw [hl]; rfl, by rw [hl]; exact own_base (row_keep hown ((Keeps.refl wr).drewN nq)) (by omega), (HB.out.trans hkw).drewN nq⟩
        · rw [show (!((l0 == p0) && (l1 == p1))) = true by cases h1 : l0 == p0 <;> cases h2 : l1 == p1 <;> simp_all] at hP
          have hRR := Lib.hid (hR1.out (.inr (by rw [hLq.out]; intro h9; cases h9; exact he ⟨rfl, rfl⟩)))
          go_upto_region 7 with fail
          go_quiet (fail)
          have hown := row_keep hown ((Keeps.refl wr).drewN nq)
          have hkw := hkw.drewN nq
          clear y0 y1 y2 y3 c0 c1 hzi
          generalize wr.drewN nq = wr at *
          obtain ⟨y0, y1, y2, y3⟩ := HS.out _ hkw
          go_wp2_with (at_builtin; refine wpList_append_own _ rfl _ _ 22 rfl (w.heap.size + 1) 50 i0 (.agg #[.int .i64 0, .int .i64 0]) 2 16 Try.underlying22 hi hz0 hz1 hz2 rfl (by decide) _ _ _ rfl (row_keep hown ((Keeps.refl wr).alloc _)) ⟨wr.heap.size, 0, none⟩ 1 1 (ptV (p0, p1)) rfl rfl (two_newA wr (p0, p1) _ _ rfl) (oneCell_ptV _) (by unfold maxLen; omega) (by omega) (by have := hkw.size; simp at this ⊢; omega) ?_; intro v1 w4 hown1 hgrow1 hz9; clear hz9; rw [← rowP_one, ← rowP_append] at hown1)
          have hra := row_keep hown ((Keeps.refl wr).alloc (.cells #[.int .i64 p0, .int .i64 p1] 50))
          have hk4 : Keeps (w.alloc (.cells #[.int .i64 p0, .int .i64 p1] 50)) w4 := Below.grown (hkw.alloc _) hgrow1 (by have := hkw.size; simp at this ⊢; omega) (fun k e => by have := row_base hra k e; simp; omega)
          go_ret
          obtain ⟨A9, c9, rfl⟩ := own_len hown1
          rw [hRR.out]
          exact ⟨A9, c9, by rw [List.length_append, hl]; rfl, by rw [List.length_append, hl]; exact own_base hown1 (by omega), HB.out.trans hk4⟩
end
end Go.Proofs.Ytihmhpleiefodaa
