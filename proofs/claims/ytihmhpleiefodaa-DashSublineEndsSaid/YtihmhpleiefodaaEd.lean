/- Plain: the subline of the whole length; the ends of a subline. -/
import Derived.Test.YtihmhpleiefodaaEb
namespace Go.Proofs.Ytihmhpleiefodaa
set_option linter.unusedVariables false
set_option linter.unusedSimpArgs false
theorem take_snoc (M : List Pt) (j : Nat) (h : j < M.length) : M.take j ++ [M.getD j pt0] = M.take (j + 1) := by
  rw [List.take_add_one, List.getD_eq_getElem?_getD, List.getElem?_eq_getElem h]
  rfl
theorem take_get (M : List Pt) (j k : Nat) (h : k < j) : (M.take j).getD k pt0 = M.getD k pt0 := by
  rw [List.getD_eq_getElem?_getD, List.getD_eq_getElem?_getD, List.getElem?_take_of_lt h]
theorem cut_whole {S : List (Pt × Pt)} {M : List Pt} (h : GoodS S) (hM : ∀ j, j < S.length → M.getD j pt0 = (S.getD j sg0).1) (hSM : S.length ≤ M.length) : ∀ j, 0 < j → j ≤ S.length → cutTo S M 0 (lng S) j = M.take j
  | 0, h0, _ => by omega
  | 1, _, hj => by
    obtain ⟨g1, g2, g3⟩ := h.1 0 (by omega)
    have hl := h.len (j := 0) (by omega)
    have hs := lng_take_succ S 0 (by omega)
    have h0 : lng (S.take 0) = 0 := rfl
    have hp := pt_in h (j := 0) (x := 0) (by omega) (by omega) (by omega)
    have e1 := lerpS_0 g1 g2 g3
    rw [show ((S.getD 0 sg0).1, (S.getD 0 sg0).2) = S.getD 0 sg0 from rfl] at e1
    rw [h0, Int.sub_zero, e1, ← hM 0 (by omega)] at hp
    have hc : cutTo S M 0 (lng S) 1 = [ptF S 0] := by
      show (if 0 < lng (S.take 0) ∧ lng (S.take 0) < lng S then _ else [ptF S 0]) = _
      rw [if_neg (by omega)]
    rw [hc, hp, ← take_snoc M 0 (by omega)]
    rfl
  | j + 2, _, hj => by
    have ih := cut_whole h hM hSM (j + 1) (by omega) (by omega)
    have hs := lng_take_succ S j (by omega)
    have hs1 := lng_take_succ S (j + 1) (by omega)
    have hl := h.len (j := j) (by omega)
    have hl1 := h.len (j := j + 1) (by omega)
    have hb := (lng_bd (S.take j)).1
    have hm := lng_take_mono S (j + 1 + 1) S.length hj
    rw [List.take_length] at hm
    have hc : cutTo S M 0 (lng S) (j + 2) = addL (cutTo S M 0 (lng S) (j + 1)) (M.getD (j + 1) pt0) := by
      show (if 0 < lng (S.take (j + 1)) ∧ lng (S.take (j + 1)) < lng S then _ else _) = _
      rw [if_pos ⟨by omega, by omega⟩]
    obtain ⟨g1, g2, g3⟩ := h.1 j (by omega)
    have hn := h.2 j (by omega)
    rw [hc, ih]
    unfold addL
    rw [show (M.take (j + 1)).length - 1 = j by rw [List.length_take]; omega, take_get M (j + 1) j (by omega), if_neg (by rw [hM j (by omega), hM (j + 1) (by omega), hn]; exact g3), take_snoc M (j + 1) (by omega)]
theorem lenP_pos {cl : Bool} {L : List Pt} (h : lenP cl L ≠ 0) : L.all vP = true ∧ lenP cl L = lng (segs cl (dedC cl L)) ∧ 0 < lng (segs cl (dedC cl L)) ∧ 0 < (segs cl (dedC cl L)).length := by
  have hb := (lng_bd (segs cl (dedC cl L))).1
  unfold lenP at *
  split at h
  · rename_i hv
    rw [if_pos hv]
    refine ⟨hv, rfl, by omega, ?_⟩
    rcases Nat.eq_zero_or_pos (segs cl (dedC cl L)).length with e | e
    · rw [List.eq_nil_of_length_eq_zero e] at h; exact absurd rfl h
    · exact e
  · exact absurd rfl h
theorem subV_whole {cl : Bool} {L : List Pt} (h : lenP cl L ≠ 0) : subV cl L 0 (lenP cl L) = if cl = true then dedC cl L ++ [(dedC cl L).getD 0 pt0] else dedC cl L := by
  obtain ⟨hv, hz, hp, hk⟩ := lenP_pos h
  have hG := goodS cl L hv
  have hM0 : ∀ j, j < (segs cl (dedC cl L)).length → (dedC cl L).getD j pt0 = ((segs cl (dedC cl L)).getD j sg0).1 := fun j hj => by rw [segs_get cl _ j hj]; rfl
  have hM1 : ∀ j, j < (segs cl (dedC cl L)).length → (dedC cl L).getD ((j + 1) % (dedC cl L).length) pt0 = ((segs cl (dedC cl L)).getD j sg0).2 := fun j hj => by rw [segs_get cl _ j hj]; rfl
  obtain ⟨hm1, hkm⟩ := segs_pos hk
  have hkk : (segs cl (dedC cl L)).length = if cl = true then (dedC cl L).length else (dedC cl L).length - 1 := by
    unfold segs segN
    rw [upS_len, if_neg (by omega)]
  have hs : subV cl L 0 (lenP cl L) = cutL (segs cl (dedC cl L)) (dedC cl L) 0 (lng (segs cl (dedC cl L))) := by
    unfold subV clL
    rw [hz, show max 0 (min 0 (lng (segs cl (dedC cl L)))) = 0 by omega, show max 0 (min (lng (segs cl (dedC cl L))) (lng (segs cl (dedC cl L)))) = lng (segs cl (dedC cl L)) by omega, if_neg (by omega)]
  rw [hs]
  generalize segs cl (dedC cl L) = S at *
  generalize dedC cl L = M at *
  unfold cutL
  rw [cut_whole hG hM0 hkm S.length hk (Nat.le_refl _)]
  obtain ⟨k, hkq⟩ : ∃ k, S.length = k + 1 := ⟨S.length - 1, by omega⟩
  obtain ⟨g1, g2, g3⟩ := hG.1 k (by omega)
  have hsu := lng_take_succ S k (by omega)
  have hl := hG.len (j := k) (by omega)
  have hT : S.take (k + 1) = S := List.take_of_length_le (by omega)
  rw [hT] at hsu
  have hpt := pt_in hG (j := k) (x := lng S) (by omega) (by omega) (by rw [hT]; exact Int.le_refl _)
  have e2 := lerpS_d g1 g2 g3
  rw [show ((S.getD k sg0).1, (S.getD k sg0).2) = S.getD k sg0 from rfl] at e2
  rw [show lng S - lng (S.take k) = lenS (S.getD k sg0) by omega, e2, ← hM1 k (by omega)] at hpt
  have hne : M.getD k pt0 ≠ M.getD ((k + 1) % M.length) pt0 := by rw [hM0 k (by omega), hM1 k (by omega)]; exact g3
  rw [hpt]
  unfold addL
  rw [show (M.take S.length).length - 1 = k by rw [List.length_take]; omega, take_get M S.length k (by omega), if_neg hne]
  cases cl with
  | true =>
    rw [if_pos rfl] at hkk ⊢
    rw [hkk, List.take_length, show (k + 1) % M.length = 0 by rw [← hkq, hkk, Nat.mod_self]]
  | false =>
    rw [if_neg (by simp)] at hkk ⊢
    rw [Nat.mod_eq_of_lt (by omega), hkq, take_snoc M (k + 1) (by omega), List.take_of_length_le (by omega)]
theorem addL_head {O : List Pt} {p : Pt} (h : 0 < O.length) : (addL O p).getD 0 pt0 = O.getD 0 pt0 := by
  unfold addL
  split
  · rfl
  · rw [List.getD_eq_getElem?_getD, List.getD_eq_getElem?_getD, List.getElem?_append_left h]
theorem addL_last (O : List Pt) (p : Pt) : (addL O p).getD ((addL O p).length - 1) pt0 = p := by
  unfold addL
  split
  · assumption
  · rw [List.length_append, List.getD_eq_getElem?_getD, List.getElem?_append_right (by simp)]
    simp
theorem cutTo_head (S : List (Pt × Pt)) (M : List Pt) (f t : Int) : ∀ j, (cutTo S M f t j).getD 0 pt0 = ptF S f
  | 0 => rfl
  | j + 1 => by
    have ih := cutTo_head S M f t j
    unfold cutTo
    split
    · rw [addL_head (cutTo_len S M f t j).1, ih]
    · exact ih
theorem subV_head {cl : Bool} {L : List Pt} {f t : Int} (h : 0 < (subV cl L f t).length) : (subV cl L f t).getD 0 pt0 = ptF (segs cl (dedC cl L)) (clL f (lenP cl L)) := by
  unfold subV at *
  split at h
  · simp at h
  · rename_i hn
    rw [if_neg hn]
    unfold cutL
    rw [addL_head (cutTo_len _ _ _ _ _).1, cutTo_head]
theorem subV_last {cl : Bool} {L : List Pt} {f t : Int} (h : 0 < (subV cl L f t).length) : (subV cl L f t).getD ((subV cl L f t).length - 1) pt0 = ptF (segs cl (dedC cl L)) (clL t (lenP cl L)) := by
  unfold subV at *
  split at h
  · simp at h
  · rename_i hn
    rw [if_neg hn]
    unfold cutL
    exact addL_last _ _
theorem subV_zero {cl : Bool} {L : List Pt} (h : lenP cl L = 0) : subV cl L 0 (lenP cl L) = [] := by
  unfold subV clL
  rw [h, if_pos (by omega)]
theorem Pts.take {w : World} {A : Option Addr} {n c : Nat} {L : List Pt} (h : Pts w A n c L) (j : Nat) (hj : j ≤ n) (h0 : 0 < j) : Pts w A j c (L.take j) := by
  obtain ⟨h1, h2, h3, h4, h5⟩ := h
  refine ⟨by rw [List.length_take]; omega, by omega, h3, fun p hp => h4 p (List.mem_of_mem_take hp), fun _ => ?_⟩
  obtain ⟨b, o, rfl, hb, hx⟩ := h5 (by omega)
  refine ⟨b, o, rfl, hb, fun k hk => ?_⟩
  rw [take_get L j k hk]
  exact hx k (by omega)
theorem own_blt {w : World} {B n c k size : Nat} {e : TypeId} {A : Option Addr} {xs : List Value} (h : w.ownsRow B e size (.slice A n c) k xs) : ∀ b o, A = some ⟨b, o, none⟩ → b < w.heap.size := by
  intro b o e1
  subst e1
  rcases h.2 with ⟨hv, _⟩ | ⟨g, cap, cur, hv, _, hgb, _⟩
  · cases hv
  · cases hv
    exact (Array.getElem?_eq_some_iff.1 hgb).1
end Go.Proofs.Ytihmhpleiefodaa
