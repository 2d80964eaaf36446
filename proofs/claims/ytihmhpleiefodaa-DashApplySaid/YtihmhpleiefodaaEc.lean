/- The contract of reference 25's Apply. -/
import Derived.Test.YtihmhpleiefodaaEb
import Derived.Test.YtihmhpleiefodaaDw
namespace Go.Proofs.Ytihmhpleiefodaa
open Go.RowKit Go.Shelf
attribute [local go_sem ↓] Go.wp_at_zero Go.wp_at_succ
set_option linter.unusedVariables false
set_option linter.unusedSimpArgs false
theorem IvOf.whole {on : Int → Bool} {z a : Int} {L : List (Int × Int)} (h : IvOf on z a L) (hm : (a, z) ∈ L) : L = [(a, z)] := by
  cases L with
  | nil => cases hm
  | cons p r =>
    obtain ⟨s, e⟩ := p
    obtain ⟨h1, h2, h3, h4, h5, h6, h7⟩ := h
    rcases List.mem_cons.1 hm with h9 | h9
    · cases h9
      cases r with
      | nil => rfl
      | cons q r =>
        have := h7.bounds q (List.mem_cons_self ..)
        omega
    · have := h7.bounds _ h9
      dsimp only at this
      omega
theorem onL_bd {wd jn cp ml ph long : Int} {D : List Int} : ∀ p ∈ onL wd jn cp ml ph D long, 0 ≤ p.1 ∧ p.1 < p.2 ∧ p.2 ≤ long := by
  unfold onL
  split
  · rename_i h
    exact (ivs_of _ _ (by omega)).bounds
  · intro p hp; cases hp
theorem onL_whole {wd jn cp ml ph long : Int} {D : List Int} (h : (0, long) ∈ onL wd jn cp ml ph D long) : onL wd jn cp ml ph D long = [(0, long)] := by
  unfold onL at h ⊢
  split at h
  · rename_i h1
    rw [if_pos h1]
    exact (ivs_of _ _ (by omega)).whole h
  · cases h
theorem subV_in {cl : Bool} {L : List Pt} {x : Int × Int} (hv : L.all vP = true) (h : 0 ≤ x.1 ∧ x.1 < x.2 ∧ x.2 ≤ lng (segs cl (dedC cl L))) : subV cl L x.1 x.2 = cutL (segs cl (dedC cl L)) (dedC cl L) x.1 x.2 := by
  have hz : lenP cl L = lng (segs cl (dedC cl L)) := by unfold lenP; rw [if_pos hv]
  unfold subV clL
  rw [hz, show max 0 (min x.1 (lng (segs cl (dedC cl L)))) = x.1 by omega, show max 0 (min x.2 (lng (segs cl (dedC cl L)))) = x.2 by omega, if_neg (by omega)]
theorem subV_len (cl : Bool) (L : List Pt) (f t : Int) : (subV cl L f t).length ≤ L.length + 2 := by
  unfold subV
  split
  · simp
  · have h1 := dedC_len cl L
    have h2 : (segs cl (dedC cl L)).length ≤ (dedC cl L).length := by unfold segs segN; rw [upS_len]; split <;> (try split) <;> omega
    unfold cutL
    have h3 := addL_len (cutTo (segs cl (dedC cl L)) (dedC cl L) (clL f (lenP cl L)) (clL t (lenP cl L)) (segs cl (dedC cl L)).length) (ptF (segs cl (dedC cl L)) (clL t (lenP cl L)))
    have h4 := (cutTo_len (segs cl (dedC cl L)) (dedC cl L) (clL f (lenP cl L)) (clL t (lenP cl L)) (segs cl (dedC cl L)).length).2
    omega
theorem list_one {R : List (Int × Int)} (h : R.length = 1) : R = [R.getD 0 pt0] := by
  cases R with
  | nil => cases h
  | cons x r =>
    cases r with
    | nil => rfl
    | cons y r => simp at h
theorem cutL_pos (S : List (Pt × Pt)) (M : List Pt) (f t : Int) : 0 < (cutL S M f t).length := addL_pos (cutTo_len S M f t _).1
theorem cnt_ge : ∀ (P : List (Bool × List Pt)), (∀ p ∈ P, 0 < p.2.length) → P.length ≤ cnt P
  | [], _ => by simp [cnt]
  | p :: r, h => by
    have h1 := cnt_ge r fun q hq => h q (List.mem_cons_of_mem _ hq)
    have h2 := h p (List.mem_cons_self ..)
    have h3 : cnt (p :: r) = p.2.length + cnt r := by simp [cnt]
    rw [h3, List.length_cons]
    omega
/-- The lines of the reference's intervals. -/
def subs (cl : Bool) (L : List Pt) (R : List (Int × Int)) : List (Bool × List Pt) := R.map fun x => (false, subV cl L x.1 x.2)
theorem apV_subs {cl : Bool} {L : List Pt} {wd jn cp ml ph : Int} {D : List Int} (hs : stB wd jn cp ml ph D = true) (hv : L.all vP = true) (hd : D.length ≠ 0) {R : List (Int × Int)}
    (h : R = onL wd jn cp ml ph D (lng (segs cl (dedC cl L))) ∨ (R.length = 4096 + 1 ∧ 4096 + 1 ≤ (onL wd jn cp ml ph D (lng (segs cl (dedC cl L)))).length ∧ ∀ p ∈ R, 0 ≤ p.1 ∧ p.1 < p.2 ∧ p.2 ≤ lng (segs cl (dedC cl L))))
    (hw : ¬ (cl = true ∧ R = [(0, lng (segs cl (dedC cl L)))])) : apV cl L wd jn cp ml ph D = if 4096 < cnt (subs cl L R) then ([], 5) else (subs cl L R, 0) := by
  have hR : ∀ p ∈ R, 0 ≤ p.1 ∧ p.1 < p.2 ∧ p.2 ≤ lng (segs cl (dedC cl L)) := by
    rcases h with rfl | h
    · exact onL_bd
    · exact h.2.2
  have ha : apV cl L wd jn cp ml ph D = if 4096 < cnt ((onL wd jn cp ml ph D (lng (segs cl (dedC cl L)))).map (one cl (segs cl (dedC cl L)) (dedC cl L))) then ([], 5)
      else ((onL wd jn cp ml ph D (lng (segs cl (dedC cl L)))).map (one cl (segs cl (dedC cl L)) (dedC cl L)), 0) := by
    unfold apV; rw [if_neg (by rw [hs]; simp), if_neg (by rw [hv]; simp), if_neg hd]
  rw [ha]
  rcases h with h | ⟨h1, h2, -⟩
  · have hm : (onL wd jn cp ml ph D (lng (segs cl (dedC cl L)))).map (one cl (segs cl (dedC cl L)) (dedC cl L)) = subs cl L R := by
      unfold subs
      rw [← h]
      refine List.map_congr_left fun x hx => ?_
      rw [subV_in hv (hR x hx)]
      unfold one
      refine if_neg fun hh => hw ⟨hh.1, ?_⟩
      obtain ⟨x1, x2⟩ := x
      obtain ⟨h3, h4, h5⟩ := hh
      dsimp only at h4 h5
      subst h4 h5
      rw [h] at hx ⊢
      exact onL_whole hx
    rw [hm]
  · have e1 : 4096 < cnt (subs cl L R) := by
      have := cnt_ge (subs cl L R) (by
        intro p hp
        unfold subs at hp
        obtain ⟨x, hx, rfl⟩ := List.mem_map.1 hp
        dsimp only
        rw [subV_in hv (hR x hx)]
        exact cutL_pos _ _ _ _)
      unfold subs at *
      rw [List.length_map] at this
      omega
    have e2 : 4096 < cnt ((onL wd jn cp ml ph D (lng (segs cl (dedC cl L)))).map (one cl (segs cl (dedC cl L)) (dedC cl L))) := by
      have := cnt_ge ((onL wd jn cp ml ph D (lng (segs cl (dedC cl L)))).map (one cl (segs cl (dedC cl L)) (dedC cl L))) (by
        intro p hp
        obtain ⟨x, hx, rfl⟩ := List.mem_map.1 hp
        have hb := onL_bd x hx
        unfold one
        split
        · dsimp only
          rcases Nat.eq_zero_or_pos (dedC cl L).length with e | e
          · exfalso
            rw [List.eq_nil_of_length_eq_zero e] at hb
            have : lng (segs cl []) = 0 := rfl
            omega
          · exact e
        · exact cutL_pos _ _ _ _)
      rw [List.length_map] at this
      omega
    rw [if_pos e1, if_pos e2]
theorem apV_whole {cl : Bool} {L : List Pt} {wd jn cp ml ph : Int} {D : List Int} (hs : stB wd jn cp ml ph D = true) (hv : L.all vP = true) (hL : L.length ≤ 4096) {R : List (Int × Int)}
    (h : R = onL wd jn cp ml ph D (lng (segs cl (dedC cl L))) ∨ (R.length = 4096 + 1 ∧ 4096 + 1 ≤ (onL wd jn cp ml ph D (lng (segs cl (dedC cl L)))).length ∧ ∀ p ∈ R, 0 ≤ p.1 ∧ p.1 < p.2 ∧ p.2 ≤ lng (segs cl (dedC cl L))))
    (hw : D.length = 0 ∨ (cl = true ∧ R = [(0, lng (segs cl (dedC cl L)))])) : apV cl L wd jn cp ml ph D = ([(cl, dedC cl L)], 0) := by
  unfold apV
  rw [if_neg (by rw [hs]; simp), if_neg (by rw [hv]; simp)]
  by_cases hd : D.length = 0
  · rw [if_pos hd]
  · rw [if_neg hd]
    rcases hw with hw | ⟨hc, hw⟩
    · exact absurd hw hd
    · rcases h with h | h
      · rw [← h, hw]
        have hn := dedC_len cl L
        have he : List.map (one cl (segs cl (dedC cl L)) (dedC cl L)) [(0, lng (segs cl (dedC cl L)))] = [(cl, dedC cl L)] := by
          simp only [List.map_cons, List.map_nil]
          unfold one
          rw [if_pos ⟨hc, rfl, rfl⟩]
        have hcn : cnt [(cl, dedC cl L)] = (dedC cl L).length := by simp [cnt]
        rw [he, hcn, if_neg (by omega)]
      · rw [hw] at h
        have := h.1
        simp at this
theorem plsF_new {X : World} {A : Option Addr} {n c : Nat} {cl : Bool} {R : List Pt} (hP : Pts X A n c R) : Pls (X.alloc (.cells #[.slice A n c, .bool cl] 24)) (some ⟨X.heap.size, 0, none⟩) 1 1 [(cl, R)] := by
  refine ⟨rfl, by omega, by unfold maxLen; omega, fun _ => ⟨X.heap.size, 0, rfl, by simp, fun k hk => ?_⟩⟩
  obtain rfl : k = 0 := by omega
  exact ⟨A, n, c, poly_new X (.slice A n c) (.bool cl) 24 X.heap.size rfl 0 (.slice A n c) rfl, poly_new X (.slice A n c) (.bool cl) 24 X.heap.size rfl 1 (.bool cl) rfl, hP.keep ((Keeps.refl X).alloc _)⟩
set_option maxRecDepth 100000 in
set_option maxHeartbeats 8000000 in
theorem rapply_any (cl : Bool) (A : Option Addr) (n c : Nat) (L : List Pt) (wd jn cp ml ph : Int) (Ad : Option Addr) (nd cd : Nat) (D : List Int) (w : World) (h : Pts w A n c L) (hI : Ins w Ad nd cd D) (hn : n ≤ 4096) :
    Calls Try.prog 20 #[.agg #[.slice A n c, .bool cl], .agg #[.int .i64 wd, .int .i64 jn, .int .i64 cp, .int .i64 ml, .slice Ad nd cd, .int .i64 ph]] w (ApR w (apV cl L wd jn cp ml ph D)) := by
  have hl := h.1
  have hdl := hI.1
  obtain ⟨i0, hi, hz0, hz1, hz2⟩ := info_parts poly_info
  have HS := Lib.hid (show ∀ w', Keeps ((w.alloc (.cells #[.slice A n c, .bool cl] 24)).alloc (.cells #[.int .i64 wd, .int .i64 jn, .int .i64 cp, .int .i64 ml, .slice Ad nd cd, .int .i64 ph] 27)) w' → w'.cell? ⟨w.heap.size, 0, none⟩ = some (.slice A n c) ∧ w'.frozen? ⟨w.heap.size, 0, none⟩ = false ∧ w'.cell? ⟨w.heap.size, 1, none⟩ = some (.bool cl) ∧ w'.frozen? ⟨w.heap.size, 1, none⟩ = false ∧ w'.cell? ⟨w.heap.size + 1, 0, none⟩ = some (.int .i64 wd) ∧ w'.frozen? ⟨w.heap.size + 1, 0, none⟩ = false ∧ w'.cell? ⟨w.heap.size + 1, 1, none⟩ = some (.int .i64 jn) ∧ w'.frozen? ⟨w.heap.size + 1, 1, none⟩ = false ∧ w'.cell? ⟨w.heap.size + 1, 2, none⟩ = some (.int .i64 cp) ∧ w'.frozen? ⟨w.heap.size + 1, 2, none⟩ = false ∧ w'.cell? ⟨w.heap.size + 1, 3, none⟩ = some (.int .i64 ml) ∧ w'.frozen? ⟨w.heap.size + 1, 3, none⟩ = false ∧ w'.cell? ⟨w.heap.size + 1, 4, none⟩ = some (.slice Ad nd cd) ∧ w'.frozen? ⟨w.heap.size + 1, 4, none⟩ = false ∧ w'.cell? ⟨w.heap.size + 1, 5, none⟩ = some (.int .i64 ph) ∧ w'.frozen? ⟨w.heap.size + 1, 5, none⟩ = false from fun w' hk => ⟨(hk.cell (p := ⟨w.heap.size, 0, none⟩) (by first | (simp; done) | (simp; omega))).trans (by simp [go_sem]), (hk.frozen (p := ⟨w.heap.size, 0, none⟩) (by first | (simp; done) | (simp; omega))).trans (by simp [go_sem]), (hk.cell (p := ⟨w.heap.size, 1, none⟩) (by first | (simp; done) | (simp; omega))).trans (by simp [go_sem]), (hk.frozen (p := ⟨w.heap.size, 1, none⟩) (by first | (simp; done) | (simp; omega))).trans (by simp [go_sem]), (hk.cell (p := ⟨w.heap.size + 1, 0, none⟩) (by first | (simp; done) | (simp; omega))).trans (by simp [go_sem]), (hk.frozen (p := ⟨w.heap.size + 1, 0, none⟩) (by first | (simp; done) | (simp; omega))).trans (by simp [go_sem]), (hk.cell (p := ⟨w.heap.size + 1, 1, none⟩) (by first | (simp; done) | (simp; omega))).trans (by simp [go_sem]), (hk.frozen (p := ⟨w.heap.size + 1, 1, none⟩) (by first | (simp; done) | (simp; omega))).trans (by simp [go_sem]), (hk.cell (p := ⟨w.heap.size + 1, 2, none⟩) (by first | (simp; done) | (simp; omega))).trans (by simp [go_sem]), (hk.frozen (p := ⟨w.heap.size + 1, 2, none⟩) (by first | (simp; done) | (simp; omega))).trans (by simp [go_sem]), (hk.cell (p := ⟨w.heap.size + 1, 3, none⟩) (by first | (simp; done) | (simp; omega))).trans (by simp [go_sem]), (hk.frozen (p := ⟨w.heap.size + 1, 3, none⟩) (by first | (simp; done) | (simp; omega))).trans (by simp [go_sem]), (hk.cell (p := ⟨w.heap.size + 1, 4, none⟩) (by first | (simp; done) | (simp; omega))).trans (by simp [go_sem]), (hk.frozen (p := ⟨w.heap.size + 1, 4, none⟩) (by first | (simp; done) | (simp; omega))).trans (by simp [go_sem]), (hk.cell (p := ⟨w.heap.size + 1, 5, none⟩) (by first | (simp; done) | (simp; omega))).trans (by simp [go_sem]), (hk.frozen (p := ⟨w.heap.size + 1, 5, none⟩) (by first | (simp; done) | (simp; omega))).trans (by simp [go_sem])⟩)
  have HB := Lib.hid (show Keeps w ((w.alloc (.cells #[.slice A n c, .bool cl] 24)).alloc (.cells #[.int .i64 wd, .int .i64 jn, .int .i64 cp, .int .i64 ml, .slice Ad nd cd, .int .i64 ph] 27)) from (by (repeat (first | (with_reducible exact Keeps.refl _) | (with_reducible assumption) | (with_reducible refine Keeps.drewN ?_ _) | (with_reducible refine Keeps.drew ?_) | (with_reducible refine Keeps.alloc ?_ _) | (with_reducible refine Keeps.setNew ?_ ?_ _))) <;> (dsimp only; omega)))
  have hk0 := Keeps.refl ((w.alloc (.cells #[.slice A n c, .bool cl] 24)).alloc (.cells #[.int .i64 wd, .int .i64 jn, .int .i64 cp, .int .i64 ml, .slice Ad nd cd, .int .i64 ph] 27))
  have KV := Lib.hid (fun w' (hk : Keeps ((w.alloc (.cells #[.slice A n c, .bool cl] 24)).alloc (.cells #[.int .i64 wd, .int .i64 jn, .int .i64 cp, .int .i64 ml, .slice Ad nd cd, .int .i64 ph] 27)) w') => keepk (rstyle_any wd jn cp ml ph Ad nd cd D w' (hI.keep (HB.out.trans hk))) (Keeps.refl w'))
  have KG := Lib.hid (fun w' (hk : Keeps ((w.alloc (.cells #[.slice A n c, .bool cl] 24)).alloc (.cells #[.int .i64 wd, .int .i64 jn, .int .i64 cp, .int .i64 ml, .slice Ad nd cd, .int .i64 ph] 27)) w') => rright_any A n c L w' (h.keep (HB.out.trans hk)))
  have KN := Lib.hid (fun w' (hk : Keeps ((w.alloc (.cells #[.slice A n c, .bool cl] 24)).alloc (.cells #[.int .i64 wd, .int .i64 jn, .int .i64 cp, .int .i64 ml, .slice Ad nd cd, .int .i64 ph] 27)) w') => rdlen_any cl A n c L w' (h.keep (HB.out.trans hk)) (by omega))
  have KU := Lib.hid (fun w' (hk : Keeps ((w.alloc (.cells #[.slice A n c, .bool cl] 24)).alloc (.cells #[.int .i64 wd, .int .i64 jn, .int .i64 cp, .int .i64 ml, .slice Ad nd cd, .int .i64 ph] 27)) w') (long : Int) (hlo : long ≤ 4611686018427387904) => rruns_any wd jn cp ml ph long Ad nd cd D 4096 w' (hI.keep (HB.out.trans hk)) (by omega) hlo)
  rw [show ((4096 : Nat) : Int) = 4096 from rfl] at KU
  have KD := Lib.hid (fun w' (hk : Keeps ((w.alloc (.cells #[.slice A n c, .bool cl] 24)).alloc (.cells #[.int .i64 wd, .int .i64 jn, .int .i64 cp, .int .i64 ml, .slice Ad nd cd, .int .i64 ph] 27)) w') => rdedup_any cl A n c L w' (h.keep (HB.out.trans hk)) (by omega))
  have KB := Lib.hid (fun w' (hk : Keeps ((w.alloc (.cells #[.slice A n c, .bool cl] 24)).alloc (.cells #[.int .i64 wd, .int .i64 jn, .int .i64 cp, .int .i64 ml, .slice Ad nd cd, .int .i64 ph] 27)) w') (f t : Int) => rsubl_any cl A n c L f t w' (h.keep (HB.out.trans hk)) hn)
  have hsok := Lib.hid (fun f t => subV_ok cl h.2.2.2.1 f t)
  have hslen := Lib.hid (fun f t => (show (subV cl L f t).length ≤ 5000 from Nat.le_trans (subV_len cl L f t) (by omega)))
  have hn2 : ¬ (4096 : Int) < n := by omega
  obtain ⟨y0, y1, y2, y3, y4, y5, y6, y7, y8, y9, y10, y11, y12, y13, y14, y15⟩ := HS.out _ hk0
  cases hs : stB wd jn cp ml ph D with
  | false =>
    have hR := Lib.hid (show apV cl L wd jn cp ml ph D = ([], 13) by unfold apV; rw [if_pos hs])
    rw [hs] at KV
    clear hs h hI
    go_enter Try.func20, Try.ntmps20
    go_wp2_with (go_at_call 18; (with_reducible refine (KV.out _ hk0).mono ?_); rintro e w1 ⟨rfl, hk1⟩)
    rw [hR.out]
    refine bodyPost_ret (v := .tuple #[.slice none 0 0, .int .i64 13]) (by simp [results, Try.results20, go_sem, *]) rfl ⟨none, 0, rfl, Pls.nil _, HB.out.trans hk1⟩
  | true =>
    rw [hs] at KV
    cases hv : L.all vP with
    | false =>
      have hR := Lib.hid (show apV cl L wd jn cp ml ph D = ([], 6) by unfold apV; rw [if_neg (by rw [hs]; simp), if_pos hv])
      rw [hv] at KG
      clear hs hv h hI
      go_enter Try.func20, Try.ntmps20
      go_wp2_with (first | (go_at_call 18; (with_reducible refine (KV.out _ hk0).mono ?_); rintro e w1 ⟨rfl, hk1⟩; clear y0 y1 y2 y3 y4 y5 y6 y7 y8 y9 y10 y11 y12 y13 y14 y15; obtain ⟨y0, y1, y2, y3, y4, y5, y6, y7, y8, y9, y10, y11, y12, y13, y14, y15⟩ := HS.out _ hk1) | (go_at_call 29; (with_reducible refine (KG.out _ hk1).mono ?_); rintro e w2 ⟨rfl, hk2⟩))
      rw [hR.out]
      refine bodyPost_ret (v := .tuple #[.slice none 0 0, .int .i64 6]) (by simp [results, Try.results20, go_sem, *]) rfl ⟨none, 0, rfl, Pls.nil _, (HB.out.trans hk1).trans hk2⟩
    | true =>
      have hz : lenP cl L = lng (segs cl (dedC cl L)) := by unfold lenP; rw [if_pos hv]
      have hnu := dedC_len cl L
      have hNS : (segs cl (dedC cl L)).length ≤ 4096 := by unfold segs segN; rw [upS_len]; split <;> (try split) <;> omega
      have hlb := lng_bd (segs cl (dedC cl L))
      have hlo : lng (segs cl (dedC cl L)) ≤ 4611686018427387904 := by omega
      have hWh := Lib.hid (fun R h1 h2 => apV_whole (cl := cl) (L := L) (ml := ml) hs hv (by omega) (R := R) h1 h2)
      have hSu := Lib.hid (fun hd R h1 h2 => apV_subs (cl := cl) (L := L) (ml := ml) hs hv hd (R := R) h1 h2)
      rw [hv] at KG
      rw [hz] at KN
      replace KU := Lib.hid (fun w' hk => KU.out w' hk (lng (segs cl (dedC cl L))) hlo)
      have hdl2 := Lib.hid hdl
      clear hs hv h hI hz hnu hNS hdl
      generalize onL wd jn cp ml ph D (lng (segs cl (dedC cl L))) = OL at *
      generalize apV cl L wd jn cp ml ph D = res at *
      generalize dedC cl L = M at *
      generalize lng (segs cl M) = long at *
      go_enter Try.func20, Try.ntmps20
      go_upto_region 9 with (first | (go_at_call 18; (with_reducible refine (KV.out _ hk0).mono ?_); rintro e w1 ⟨rfl, hk1⟩; clear y0 y1 y2 y3 y4 y5 y6 y7 y8 y9 y10 y11 y12 y13 y14 y15; obtain ⟨y0, y1, y2, y3, y4, y5, y6, y7, y8, y9, y10, y11, y12, y13, y14, y15⟩ := HS.out _ hk1) | (go_at_call 29; (with_reducible refine (KG.out _ hk1).mono ?_); rintro e w2 ⟨rfl, hk2⟩; replace hk2 := hk1.trans hk2; clear y0 y1 y2 y3 y4 y5 y6 y7 y8 y9 y10 y11 y12 y13 y14 y15; obtain ⟨y0, y1, y2, y3, y4, y5, y6, y7, y8, y9, y10, y11, y12, y13, y14, y15⟩ := HS.out _ hk2) | (go_at_call 13; (with_reducible refine (KN.out _ hk2).mono ?_); rintro e w3 ⟨rfl, hk3⟩; replace hk3 := hk2.trans hk3; clear y0 y1 y2 y3 y4 y5 y6 y7 y8 y9 y10 y11 y12 y13 y14 y15; obtain ⟨y0, y1, y2, y3, y4, y5, y6, y7, y8, y9, y10, y11, y12, y13, y14, y15⟩ := HS.out _ hk3) | (go_at_call 35; (with_reducible refine (KU.out _ hk3).mono ?_); rintro e w4 ⟨R, A1, c1, rfl, hP1, hk4, hRO, hRl⟩; replace hk4 := hk3.trans hk4; clear y0 y1 y2 y3 y4 y5 y6 y7 y8 y9 y10 y11 y12 y13 y14 y15; replace hP1 := Lib.hid hP1; replace hRO := Lib.hid hRO) | fail "ARM")
      replace hWh := Lib.hid (fun h2 => hWh.out R hRO.out h2)
      replace hSu := Lib.hid (fun hd h2 => hSu.out hd R hRO.out h2)
      replace hRO := Lib.hid (show ∀ p ∈ R, (0 ≤ p.1 ∧ p.1 < p.2 ∧ p.2 ≤ long) ∨ p ∈ OL by
        rcases hRO.out with e | e
        · intro p hp; rw [e] at hp; exact .inr hp
        · intro p hp; exact .inl (e.2.2 p hp))
      clear KV KG KN KU
      obtain ⟨y0, y1, y2, y3, y4, y5, y6, y7, y8, y9, y10, y11, y12, y13, y14, y15⟩ := HS.out _ hk4
      have hmx := hP1.out.max
      have hgd := prGuard
      by_cases hnd : nd = 0
      · have hndz : ((nd : Int) == 0) = true := by rw [hnd]; rfl
        have hRes := Lib.hid (hWh.out (.inl (by rw [hdl2.out]; exact hnd)))
        clear hWh hSu hnd
        go_wp2_with (go_at_call 24; (with_reducible refine (KD.out _ hk4).mono ?_); rintro e w5 ⟨A5, c5, rfl, hP5, hk5, -⟩; replace hP5 := Lib.hid hP5)
        rw [hRes.out]
        refine bodyPost_ret (v := .tuple #[.slice (some ⟨w5.heap.size, 0, none⟩) 1 1, .int .i64 0]) (by simp [results, Try.results20, go_sem, *]) rfl ⟨some ⟨w5.heap.size, 0, none⟩, 1, rfl, plsF_new hP5.out, ((HB.out.trans hk4).trans hk5).alloc _⟩
      · have hndz : ((nd : Int) == 0) = false := by simp only [beq_eq_false_iff_ne]; omega
        replace hSu := Lib.hid (fun h2 => hSu.out (by rw [hdl2.out]; exact hnd) h2)
        clear hnd
        cases cl with
        | false =>
          have hRes := Lib.hid (hSu.out (by rintro ⟨h9, -⟩; cases h9))
          clear hSu hWh
          go_wp2_with fail
          clear y0 y1 y2 y3 y4 y5 y6 y7 y8 y9 y10 y11 y12 y13 y14 y15 hndz KD
          have hkz := (Keeps.refl w4).alloc (.cells #[] 24)
          have hr0 : (w4.alloc (.cells #[] 24)).ownsRow w4.heap.size 24 2 (.slice (some ⟨w4.heap.size, 0, none⟩) 0 0) 0 (qcells []) := by
            exact World.ownsRow_lit (base := w4.heap.size) (e := 24) (size := 2) w4 #[] 0 (by simp) (by unfold maxLen; omega) (by simp)
          have hT0 := Lib.hid (show cnt ((subs false L R).take 0) = 0 from rfl)
          have hTl := Lib.hid (show (subs false L R).length = R.length by unfold subs; rw [List.length_map])
          have hTs := Lib.hid (show ∀ j, j < R.length → (subs false L R).take (j + 1) = (subs false L R).take j ++ [(false, subV false L (R.getD j pt0).1 (R.getD j pt0).2)] from fun j hj => by
            unfold subs
            rw [List.take_add_one, List.getElem?_eq_getElem (by rw [List.length_map]; exact hj), List.getElem_map, List.getD_eq_getElem?_getD, List.getElem?_eq_getElem hj]
            rfl)
          have hTp := Lib.hid (show ∀ j, cnt ((subs false L R).take j) ≤ cnt (subs false L R) from fun j => cnt_pre (List.take_prefix _ _))
          generalize subs false L R = Z at *
          clear hRO
          generalize (w4.alloc (.cells #[] 24)) = Wz at *
          go_loopw [8, 9, 10] (fun v m i wr => ∃ (j : Nat) (Q : QL), j ≤ R.length ∧ i = .int .i64 j ∧ m = .int .i64 (cnt (Z.take j)) ∧ wr.ownsRow w4.heap.size 24 2 v Q.length (qcells Q) ∧ QOwn wr w.heap.size Q ∧ Q.length = j ∧ Hid (qPL Q = Z.take j ∧ cnt (Z.take j) ≤ 4096) ∧ Keeps ((w.alloc (.cells #[.slice A n c, .bool false] 24)).alloc (.cells #[.int .i64 wd, .int .i64 jn, .int .i64 cp, .int .i64 ml, .slice Ad nd cd, .int .i64 ph] 27)) wr ∧ Keeps w4 wr) (fun _ _ i _ => R.length - (intOf i).toNat)
          case atStart => exact ⟨0, [], by omega, rfl, rfl, hr0, (fun q hq => by cases hq), rfl, Lib.hid ⟨rfl, by rw [hT0.out]; omega⟩, hk4.trans hkz, hkz⟩
          case round =>
            obtain ⟨j, Q, hj, rfl, rfl, hown, hQ, hQl, hq, hkw, hkr⟩ := hrel
            have hcm := hq.out.2
            by_cases hlt : j < R.length
            · obtain ⟨b, o, rfl, hb, hx⟩ := hP1.out.2.2.2.2 (by omega)
              have D0 := Lib.hid (fun w' (hk : Keeps w4 w') => (hx j (by omega)).keep hb hk)
              have hltj : (j : Int) < R.length := by omega
              have hTT := Lib.hid (hTs.out j hlt)
              have hT1 := Lib.hid (hTp.out (j + 1))
              have KB1 := Lib.hid (fun w' hk => KB.out w' hk (R.getD j pt0).1 (R.getD j pt0).2)
              have hLl := hslen.out (R.getD j pt0).1 (R.getD j pt0).2
              have hok := Lib.hid (hsok.out (R.getD j pt0).1 (R.getD j pt0).2)
              clear hx
              generalize subV false L (R.getD j pt0).1 (R.getD j pt0).2 = LL at *
              generalize R.getD j pt0 = x at *
              generalize hcc : cnt (Z.take j) = cj at *
              replace hcc := Lib.hid hcc
              go_upto_region 16 with fail
              have HZ := Lib.hid (fun w' (hk : Keeps wr w') => (show w'.cell? ⟨w.heap.size, 0, none⟩ = some (.slice A n c) ∧ w'.cell? ⟨w.heap.size, 1, none⟩ = some (.bool false) ∧ w'.cell? ⟨b, o + j * 2, none⟩ = some (.int .i64 x.1) ∧ w'.cell? ⟨b, o + j * 2 + 1, none⟩ = some (.int .i64 x.2) from ⟨(HS.out _ (hkw.trans hk)).1, (HS.out _ (hkw.trans hk)).2.2.1, (D0.out _ (hkr.trans hk)).1, (D0.out _ (hkr.trans hk)).2⟩))
              go_region_held3 (fun w' => w'.cell? ⟨w.heap.size, 0, none⟩ = some (.slice A n c) ∧ w'.cell? ⟨w.heap.size, 1, none⟩ = some (.bool false) ∧ w'.cell? ⟨b, o + j * 2, none⟩ = some (.int .i64 x.1) ∧ w'.cell? ⟨b, o + j * 2 + 1, none⟩ = some (.int .i64 x.2)) (first | exact HZ.out _ (by repeat (first | assumption | exact Keeps.refl _ | refine Keeps.alloc ?_ _ | refine Keeps.drewN ?_ _ | refine Keeps.drew ?_ | refine Keeps.setNew ?_ (by dsimp only; omega) _)) | go_keep) (first | (go_at_call 23; (with_reducible refine (KB1.out _ (hkw.trans (by repeat (first | assumption | exact Keeps.refl _ | refine Keeps.alloc ?_ _ | refine Keeps.drewN ?_ _ | refine Keeps.drew ?_ | refine Keeps.setNew ?_ (by dsimp only; omega) _)))).mono ?_); rintro e w6 ⟨A6, c6, rfl, ho6, hk6⟩; replace ho6 := Lib.hid ho6; have hkx : Keeps wr w6 := Keeps.trans (by repeat (first | assumption | exact Keeps.refl _ | refine Keeps.alloc ?_ _ | refine Keeps.drewN ?_ _ | refine Keeps.drew ?_ | refine Keeps.setNew ?_ (by dsimp only; omega) _)) hk6; (first | have b6 := BoxN.keep (BoxN.keep (BoxN.new _ _ _) (Keeps.drew (Keeps.refl _))) hk6; have e60 := (b6.cell 0).trans rfl; have e61 := (b6.cell 1).trans rfl; have g60 := b6.frozen 0; have g61 := b6.frozen 1 | skip)))
              · have hW : Keeps wr (w6.alloc (.cells #[.slice A6 LL.length c6, .bool false] 24)) := hkx.alloc (.cells #[.slice A6 LL.length c6, .bool false] 24)
                have e0 : (w6.alloc (.cells #[.slice A6 LL.length c6, .bool false] 24)).cell? ⟨w6.heap.size, 0, none⟩ = some (.slice A6 LL.length c6) := poly_new w6 (.slice A6 LL.length c6) (.bool false) 24 w6.heap.size rfl 0 _ rfl
                have e1 : (w6.alloc (.cells #[.slice A6 LL.length c6, .bool false] 24)).cell? ⟨w6.heap.size, 1, none⟩ = some (.bool false) := poly_new w6 (.slice A6 LL.length c6) (.bool false) 24 w6.heap.size rfl 1 _ rfl
                have r6 : (w6.alloc (.cells #[.slice A6 LL.length c6, .bool false] 24)).ownsRow w.heap.size 50 2 (.slice A6 LL.length c6) LL.length (rowP LL) := own_base (row_keep ho6.out ((Keeps.refl _).alloc _)) (by have := (HB.out.trans hkw).size; simp; omega)
                have hown7 := row_keep hown hW
                have hQ7 := hQ.keep hW
                have hkr7 := hkr.trans hW
                have hkw7 := hkw.trans hW
                have o7 : QOwn (w6.alloc (.cells #[.slice A6 LL.length c6, .bool false] 24)) w.heap.size [(A6, c6, false, LL)] := fun q hq => by rw [List.mem_singleton.1 hq]; exact ⟨r6, hok.out⟩
                clear hown hQ r6
                generalize hW7 : (w6.alloc (.cells #[.slice A6 LL.length c6, .bool false] 24)) = W7 at *
                clear hW7
                generalize hHH : w6.heap.size = H7 at *
                clear hHH
                have hs7 := hkr7.size
                by_cases hbg : (4096 : Int) < (cj : Int) + (LL.length : Int)
                · have hbig := Lib.hid (show 4096 < cnt Z by have := hT1.out; rw [hTT.out, cnt_snoc, hcc.out] at this; dsimp only at this; omega)
                  go_wp2_with fail
                  rw [hRes.out, if_pos hbig.out]
                  refine bodyPost_ret (v := .tuple #[.slice none 0 0, .int .i64 5]) (by simp [results, Try.results20, go_sem, *]) rfl ⟨none, 0, rfl, Pls.nil _, HB.out.trans hkw7⟩
                · go_wp2_with (at_builtin; refine wpList_append_own _ rfl _ _ 40 rfl w4.heap.size 24 i0 (.agg #[.slice none 0 0, .bool false]) 2 32 Try.underlying40 hi hz0 hz1 hz2 rfl (by decide) _ _ _ rfl (row_keep hown7 ((Keeps.refl _).alloc _)) ⟨W7.heap.size, 0, none⟩ 1 1 [.slice A6 LL.length c6, .bool false] rfl rfl (poly_new _ _ _ _ _ rfl) (by simp [Value.oneCell']) (by unfold maxLen; omega) (by omega) (by simp; omega) ?_; intro v8 w8 hown8 hgrow hz9; clear hz9)
                  have hra := row_keep hown7 ((Keeps.refl W7).alloc (.cells #[.slice A6 LL.length c6, .bool false] 24))
                  have hk8r : Keeps w4 w8 := Below.grown (hkr7.alloc _) hgrow (by simp; omega) (fun k e => row_base hra k e)
                  have Q8 := (hQ7.keep ((Keeps.refl _).alloc (.cells #[.slice A6 LL.length c6, .bool false] 24))).app hra hgrow (by decide)
                  have o8 := (o7.keep ((Keeps.refl _).alloc (.cells #[.slice A6 LL.length c6, .bool false] 24))).app hra hgrow (by decide)
                  go_roundw
                  case rel =>
                    refine ⟨j + 1, Q ++ [(A6, c6, false, LL)], by omega, by go_num, by rw [hTT.out, cnt_snoc, hcc.out]; go_num, by rw [List.length_append, qcells_append]; exact hown8, ?_, by rw [List.length_append, hQl]; rfl, Lib.hid ⟨by rw [hTT.out, ← hq.out.1]; simp [qPL], by rw [hTT.out, cnt_snoc, hcc.out]; dsimp only; omega⟩, hk4.trans hk8r, hk8r⟩
                    intro q hq'
                    rcases List.mem_append.1 hq' with h9 | h9
                    · exact Q8 q h9
                    · exact o8 q h9
                  case measure => simp [intOf]; omega
              · have hW : Keeps wr ((w6.setCell ⟨wr.heap.size, 0, none⟩ (.slice A6 LL.length c6)).setCell ⟨wr.heap.size, 1, none⟩ (.bool false)) := (hkx.setNew (p := ⟨wr.heap.size, 0, none⟩) (by dsimp only; omega) (.slice A6 LL.length c6)).setNew (p := ⟨wr.heap.size, 1, none⟩) (by dsimp only; omega) (.bool false)
                have e0 : ((w6.setCell ⟨wr.heap.size, 0, none⟩ (.slice A6 LL.length c6)).setCell ⟨wr.heap.size, 1, none⟩ (.bool false)).cell? ⟨wr.heap.size, 0, none⟩ = some (.slice A6 LL.length c6) := by simp [go_sem, e60, e61]
                have e1 : ((w6.setCell ⟨wr.heap.size, 0, none⟩ (.slice A6 LL.length c6)).setCell ⟨wr.heap.size, 1, none⟩ (.bool false)).cell? ⟨wr.heap.size, 1, none⟩ = some (.bool false) := by simp [go_sem, e60, e61]
                have r6 : ((w6.setCell ⟨wr.heap.size, 0, none⟩ (.slice A6 LL.length c6)).setCell ⟨wr.heap.size, 1, none⟩ (.bool false)).ownsRow w.heap.size 50 2 (.slice A6 LL.length c6) LL.length (rowP LL) := own_base (row_far (row_far ho6.out (by simp)) (by simp)) (by have := (HB.out.trans hkw).size; simp; omega)
                have hown7 := row_keep hown hW
                have hQ7 := hQ.keep hW
                have hkr7 := hkr.trans hW
                have hkw7 := hkw.trans hW
                have o7 : QOwn ((w6.setCell ⟨wr.heap.size, 0, none⟩ (.slice A6 LL.length c6)).setCell ⟨wr.heap.size, 1, none⟩ (.bool false)) w.heap.size [(A6, c6, false, LL)] := fun q hq => by rw [List.mem_singleton.1 hq]; exact ⟨r6, hok.out⟩
                clear hown hQ r6
                generalize hW7 : ((w6.setCell ⟨wr.heap.size, 0, none⟩ (.slice A6 LL.length c6)).setCell ⟨wr.heap.size, 1, none⟩ (.bool false)) = W7 at *
                clear hW7
                generalize hHH : wr.heap.size = H7 at *
                clear hHH
                have hs7 := hkr7.size
                by_cases hbg : (4096 : Int) < (cj : Int) + (LL.length : Int)
                · have hbig := Lib.hid (show 4096 < cnt Z by have := hT1.out; rw [hTT.out, cnt_snoc, hcc.out] at this; dsimp only at this; omega)
                  go_wp2_with fail
                  rw [hRes.out, if_pos hbig.out]
                  refine bodyPost_ret (v := .tuple #[.slice none 0 0, .int .i64 5]) (by simp [results, Try.results20, go_sem, *]) rfl ⟨none, 0, rfl, Pls.nil _, HB.out.trans hkw7⟩
                · go_wp2_with (at_builtin; refine wpList_append_own _ rfl _ _ 40 rfl w4.heap.size 24 i0 (.agg #[.slice none 0 0, .bool false]) 2 32 Try.underlying40 hi hz0 hz1 hz2 rfl (by decide) _ _ _ rfl (row_keep hown7 ((Keeps.refl _).alloc _)) ⟨W7.heap.size, 0, none⟩ 1 1 [.slice A6 LL.length c6, .bool false] rfl rfl (poly_new _ _ _ _ _ rfl) (by simp [Value.oneCell']) (by unfold maxLen; omega) (by omega) (by simp; omega) ?_; intro v8 w8 hown8 hgrow hz9; clear hz9)
                  have hra := row_keep hown7 ((Keeps.refl W7).alloc (.cells #[.slice A6 LL.length c6, .bool false] 24))
                  have hk8r : Keeps w4 w8 := Below.grown (hkr7.alloc _) hgrow (by simp; omega) (fun k e => row_base hra k e)
                  have Q8 := (hQ7.keep ((Keeps.refl _).alloc (.cells #[.slice A6 LL.length c6, .bool false] 24))).app hra hgrow (by decide)
                  have o8 := (o7.keep ((Keeps.refl _).alloc (.cells #[.slice A6 LL.length c6, .bool false] 24))).app hra hgrow (by decide)
                  go_roundw
                  case rel =>
                    refine ⟨j + 1, Q ++ [(A6, c6, false, LL)], by omega, by go_num, by rw [hTT.out, cnt_snoc, hcc.out]; go_num, by rw [List.length_append, qcells_append]; exact hown8, ?_, by rw [List.length_append, hQl]; rfl, Lib.hid ⟨by rw [hTT.out, ← hq.out.1]; simp [qPL], by rw [hTT.out, cnt_snoc, hcc.out]; dsimp only; omega⟩, hk4.trans hk8r, hk8r⟩
                    intro q hq'
                    rcases List.mem_append.1 hq' with h9 | h9
                    · exact Q8 q h9
                    · exact o8 q h9
                  case measure => simp [intOf]; omega
            · obtain ⟨hq9⟩ : Nonempty (j = R.length) := ⟨by omega⟩
              subst hq9
              have hqe := Lib.hid (show qPL Q = Z by rw [hq.out.1, List.take_of_length_le (by rw [hTl.out]; omega)])
              have hce := Lib.hid (show ¬ 4096 < cnt Z by have := hq.out.2; rw [List.take_of_length_le (by rw [hTl.out]; omega)] at this; omega)
              obtain ⟨A9, c9, rfl, hPl⟩ := pls_of_own hown rfl hQ
              have hql := Lib.hid (show (qPL Q).length = Q.length by simp [qPL])
              replace hPl := Lib.hid hPl
              go_wp2_with fail
              rw [hRes.out, if_neg hce.out, ← hqe.out]
              refine bodyPost_ret (v := .tuple #[.slice A9 Q.length c9, .int .i64 0]) (by simp [results, Try.results20, go_sem, *]) rfl ⟨A9, c9, by rw [hql.out], by rw [hql.out]; exact hPl.out, HB.out.trans hkw⟩
        | true =>
          by_cases hr1 : R.length = 1
          · have hrz : ((R.length : Int) == 1) = true := by rw [hr1]; rfl
            obtain ⟨b, o, rfl, hb, hx⟩ := hP1.out.2.2.2.2 (by omega)
            obtain ⟨c2, c3⟩ := hx 0 (by omega)
            simp only [Nat.zero_mul, Nat.add_zero] at c2 c3
            have HX := Lib.hid hx
            have hRe := list_one hr1
            have hlt0 : (0 : Int) < R.length := by omega
            clear hr1 hx
            by_cases he : R.getD 0 pt0 = (0, long)
            · rw [he] at c2 c3
              have hRes := Lib.hid (hWh.out (.inr ⟨rfl, by rw [hRe, he]⟩))
              have hpe := fun w => prEql 0 long 0 long w
              simp only [beq_self_eq_true, Bool.and_self] at hpe
              clear hSu hWh hRe he
              go_wp2_with (go_at_call 24; (with_reducible refine (KD.out _ hk4).mono ?_); rintro e w5 ⟨A5, c5, rfl, hP5, hk5, -⟩; replace hP5 := Lib.hid hP5)
              rw [hRes.out]
              refine bodyPost_ret (v := .tuple #[.slice (some ⟨w5.heap.size, 0, none⟩) 1 1, .int .i64 0]) (by simp [results, Try.results20, go_sem, *]) rfl ⟨some ⟨w5.heap.size, 0, none⟩, 1, rfl, plsF_new hP5.out, ((HB.out.trans hk4).trans hk5).alloc _⟩
            · have hRes := Lib.hid (hSu.out (by rintro ⟨-, h9⟩; exact he (by rw [h9]; rfl)))
              have hpe := fun w => prEql (R.getD 0 pt0).1 (R.getD 0 pt0).2 0 long w
              rw [show (((R.getD 0 pt0).1 == 0) && ((R.getD 0 pt0).2 == long)) = false by
                rw [Bool.and_eq_false_iff]
                by_cases e1 : (R.getD 0 pt0).1 = 0
                · right; rw [beq_eq_false_iff_ne]; intro e2; exact he (Prod.ext e1 e2)
                · left; rw [beq_eq_false_iff_ne]; exact e1] at hpe
              clear hSu hWh hRe he
              generalize hx0 : R.getD 0 pt0 = x0 at *
              replace hx0 := Lib.hid hx0
              go_wp2_with fail
              clear y0 y1 y2 y3 y4 y5 y6 y7 y8 y9 y10 y11 y12 y13 y14 y15 hpe c2 c3 hrz hndz KD
              have hkz := (Keeps.refl w4).alloc (.cells #[] 24)
              have hr0 : (w4.alloc (.cells #[] 24)).ownsRow w4.heap.size 24 2 (.slice (some ⟨w4.heap.size, 0, none⟩) 0 0) 0 (qcells []) := by
                exact World.ownsRow_lit (base := w4.heap.size) (e := 24) (size := 2) w4 #[] 0 (by simp) (by unfold maxLen; omega) (by simp)
              have hT0 := Lib.hid (show cnt ((subs true L R).take 0) = 0 from rfl)
              have hTl := Lib.hid (show (subs true L R).length = R.length by unfold subs; rw [List.length_map])
              have hTs := Lib.hid (show ∀ j, j < R.length → (subs true L R).take (j + 1) = (subs true L R).take j ++ [(false, subV true L (R.getD j pt0).1 (R.getD j pt0).2)] from fun j hj => by
                unfold subs
                rw [List.take_add_one, List.getElem?_eq_getElem (by rw [List.length_map]; exact hj), List.getElem_map, List.getD_eq_getElem?_getD, List.getElem?_eq_getElem hj]
                rfl)
              have hTp := Lib.hid (show ∀ j, cnt ((subs true L R).take j) ≤ cnt (subs true L R) from fun j => cnt_pre (List.take_prefix _ _))
              generalize subs true L R = Z at *
              clear hRO
              generalize (w4.alloc (.cells #[] 24)) = Wz at *
              go_loopw [8, 9, 10] (fun v m i wr => ∃ (j : Nat) (Q : QL), j ≤ R.length ∧ i = .int .i64 j ∧ m = .int .i64 (cnt (Z.take j)) ∧ wr.ownsRow w4.heap.size 24 2 v Q.length (qcells Q) ∧ QOwn wr w.heap.size Q ∧ Q.length = j ∧ Hid (qPL Q = Z.take j ∧ cnt (Z.take j) ≤ 4096) ∧ Keeps ((w.alloc (.cells #[.slice A n c, .bool true] 24)).alloc (.cells #[.int .i64 wd, .int .i64 jn, .int .i64 cp, .int .i64 ml, .slice Ad nd cd, .int .i64 ph] 27)) wr ∧ Keeps w4 wr) (fun _ _ i _ => R.length - (intOf i).toNat)
              case atStart => exact ⟨0, [], by omega, rfl, rfl, hr0, (fun q hq => by cases hq), rfl, Lib.hid ⟨rfl, by rw [hT0.out]; omega⟩, hk4.trans hkz, hkz⟩
              case round =>
                obtain ⟨j, Q, hj, rfl, rfl, hown, hQ, hQl, hq, hkw, hkr⟩ := hrel
                have hcm := hq.out.2
                by_cases hlt : j < R.length
                · have hx := HX.out
                  have D0 := Lib.hid (fun w' (hk : Keeps w4 w') => (hx j (by omega)).keep hb hk)
                  have hltj : (j : Int) < R.length := by omega
                  have hTT := Lib.hid (hTs.out j hlt)
                  have hT1 := Lib.hid (hTp.out (j + 1))
                  have KB1 := Lib.hid (fun w' hk => KB.out w' hk (R.getD j pt0).1 (R.getD j pt0).2)
                  have hLl := hslen.out (R.getD j pt0).1 (R.getD j pt0).2
                  have hok := Lib.hid (hsok.out (R.getD j pt0).1 (R.getD j pt0).2)
                  clear hx
                  generalize subV true L (R.getD j pt0).1 (R.getD j pt0).2 = LL at *
                  generalize R.getD j pt0 = x at *
                  generalize hcc : cnt (Z.take j) = cj at *
                  replace hcc := Lib.hid hcc
                  go_upto_region 16 with fail
                  have HZ := Lib.hid (fun w' (hk : Keeps wr w') => (show w'.cell? ⟨w.heap.size, 0, none⟩ = some (.slice A n c) ∧ w'.cell? ⟨w.heap.size, 1, none⟩ = some (.bool true) ∧ w'.cell? ⟨b, o + j * 2, none⟩ = some (.int .i64 x.1) ∧ w'.cell? ⟨b, o + j * 2 + 1, none⟩ = some (.int .i64 x.2) from ⟨(HS.out _ (hkw.trans hk)).1, (HS.out _ (hkw.trans hk)).2.2.1, (D0.out _ (hkr.trans hk)).1, (D0.out _ (hkr.trans hk)).2⟩))
                  go_region_held3 (fun w' => w'.cell? ⟨w.heap.size, 0, none⟩ = some (.slice A n c) ∧ w'.cell? ⟨w.heap.size, 1, none⟩ = some (.bool true) ∧ w'.cell? ⟨b, o + j * 2, none⟩ = some (.int .i64 x.1) ∧ w'.cell? ⟨b, o + j * 2 + 1, none⟩ = some (.int .i64 x.2)) (first | exact HZ.out _ (by repeat (first | assumption | exact Keeps.refl _ | refine Keeps.alloc ?_ _ | refine Keeps.drewN ?_ _ | refine Keeps.drew ?_ | refine Keeps.setNew ?_ (by dsimp only; omega) _)) | go_keep) (first | (go_at_call 23; (with_reducible refine (KB1.out _ (hkw.trans (by repeat (first | assumption | exact Keeps.refl _ | refine Keeps.alloc ?_ _ | refine Keeps.drewN ?_ _ | refine Keeps.drew ?_ | refine Keeps.setNew ?_ (by dsimp only; omega) _)))).mono ?_); rintro e w6 ⟨A6, c6, rfl, ho6, hk6⟩; replace ho6 := Lib.hid ho6; have hkx : Keeps wr w6 := Keeps.trans (by repeat (first | assumption | exact Keeps.refl _ | refine Keeps.alloc ?_ _ | refine Keeps.drewN ?_ _ | refine Keeps.drew ?_ | refine Keeps.setNew ?_ (by dsimp only; omega) _)) hk6; (first | have b6 := BoxN.keep (BoxN.keep (BoxN.new _ _ _) (Keeps.drew (Keeps.refl _))) hk6; have e60 := (b6.cell 0).trans rfl; have e61 := (b6.cell 1).trans rfl; have g60 := b6.frozen 0; have g61 := b6.frozen 1 | skip)))
                  · have hW : Keeps wr (w6.alloc (.cells #[.slice A6 LL.length c6, .bool false] 24)) := hkx.alloc (.cells #[.slice A6 LL.length c6, .bool false] 24)
                    have e0 : (w6.alloc (.cells #[.slice A6 LL.length c6, .bool false] 24)).cell? ⟨w6.heap.size, 0, none⟩ = some (.slice A6 LL.length c6) := poly_new w6 (.slice A6 LL.length c6) (.bool false) 24 w6.heap.size rfl 0 _ rfl
                    have e1 : (w6.alloc (.cells #[.slice A6 LL.length c6, .bool false] 24)).cell? ⟨w6.heap.size, 1, none⟩ = some (.bool false) := poly_new w6 (.slice A6 LL.length c6) (.bool false) 24 w6.heap.size rfl 1 _ rfl
                    have r6 : (w6.alloc (.cells #[.slice A6 LL.length c6, .bool false] 24)).ownsRow w.heap.size 50 2 (.slice A6 LL.length c6) LL.length (rowP LL) := own_base (row_keep ho6.out ((Keeps.refl _).alloc _)) (by have := (HB.out.trans hkw).size; simp; omega)
                    have hown7 := row_keep hown hW
                    have hQ7 := hQ.keep hW
                    have hkr7 := hkr.trans hW
                    have hkw7 := hkw.trans hW
                    have o7 : QOwn (w6.alloc (.cells #[.slice A6 LL.length c6, .bool false] 24)) w.heap.size [(A6, c6, false, LL)] := fun q hq => by rw [List.mem_singleton.1 hq]; exact ⟨r6, hok.out⟩
                    clear hown hQ r6
                    generalize hW7 : (w6.alloc (.cells #[.slice A6 LL.length c6, .bool false] 24)) = W7 at *
                    clear hW7
                    generalize hHH : w6.heap.size = H7 at *
                    clear hHH
                    have hs7 := hkr7.size
                    by_cases hbg : (4096 : Int) < (cj : Int) + (LL.length : Int)
                    · have hbig := Lib.hid (show 4096 < cnt Z by have := hT1.out; rw [hTT.out, cnt_snoc, hcc.out] at this; dsimp only at this; omega)
                      go_wp2_with fail
                      rw [hRes.out, if_pos hbig.out]
                      refine bodyPost_ret (v := .tuple #[.slice none 0 0, .int .i64 5]) (by simp [results, Try.results20, go_sem, *]) rfl ⟨none, 0, rfl, Pls.nil _, HB.out.trans hkw7⟩
                    · go_wp2_with (at_builtin; refine wpList_append_own _ rfl _ _ 40 rfl w4.heap.size 24 i0 (.agg #[.slice none 0 0, .bool false]) 2 32 Try.underlying40 hi hz0 hz1 hz2 rfl (by decide) _ _ _ rfl (row_keep hown7 ((Keeps.refl _).alloc _)) ⟨W7.heap.size, 0, none⟩ 1 1 [.slice A6 LL.length c6, .bool false] rfl rfl (poly_new _ _ _ _ _ rfl) (by simp [Value.oneCell']) (by unfold maxLen; omega) (by omega) (by simp; omega) ?_; intro v8 w8 hown8 hgrow hz9; clear hz9)
                      have hra := row_keep hown7 ((Keeps.refl W7).alloc (.cells #[.slice A6 LL.length c6, .bool false] 24))
                      have hk8r : Keeps w4 w8 := Below.grown (hkr7.alloc _) hgrow (by simp; omega) (fun k e => row_base hra k e)
                      have Q8 := (hQ7.keep ((Keeps.refl _).alloc (.cells #[.slice A6 LL.length c6, .bool false] 24))).app hra hgrow (by decide)
                      have o8 := (o7.keep ((Keeps.refl _).alloc (.cells #[.slice A6 LL.length c6, .bool false] 24))).app hra hgrow (by decide)
                      go_roundw
                      case rel =>
                        refine ⟨j + 1, Q ++ [(A6, c6, false, LL)], by omega, by go_num, by rw [hTT.out, cnt_snoc, hcc.out]; go_num, by rw [List.length_append, qcells_append]; exact hown8, ?_, by rw [List.length_append, hQl]; rfl, Lib.hid ⟨by rw [hTT.out, ← hq.out.1]; simp [qPL], by rw [hTT.out, cnt_snoc, hcc.out]; dsimp only; omega⟩, hk4.trans hk8r, hk8r⟩
                        intro q hq'
                        rcases List.mem_append.1 hq' with h9 | h9
                        · exact Q8 q h9
                        · exact o8 q h9
                      case measure => simp [intOf]; omega
                  · have hW : Keeps wr ((w6.setCell ⟨wr.heap.size, 0, none⟩ (.slice A6 LL.length c6)).setCell ⟨wr.heap.size, 1, none⟩ (.bool false)) := (hkx.setNew (p := ⟨wr.heap.size, 0, none⟩) (by dsimp only; omega) (.slice A6 LL.length c6)).setNew (p := ⟨wr.heap.size, 1, none⟩) (by dsimp only; omega) (.bool false)
                    have e0 : ((w6.setCell ⟨wr.heap.size, 0, none⟩ (.slice A6 LL.length c6)).setCell ⟨wr.heap.size, 1, none⟩ (.bool false)).cell? ⟨wr.heap.size, 0, none⟩ = some (.slice A6 LL.length c6) := by simp [go_sem, e60, e61]
                    have e1 : ((w6.setCell ⟨wr.heap.size, 0, none⟩ (.slice A6 LL.length c6)).setCell ⟨wr.heap.size, 1, none⟩ (.bool false)).cell? ⟨wr.heap.size, 1, none⟩ = some (.bool false) := by simp [go_sem, e60, e61]
                    have r6 : ((w6.setCell ⟨wr.heap.size, 0, none⟩ (.slice A6 LL.length c6)).setCell ⟨wr.heap.size, 1, none⟩ (.bool false)).ownsRow w.heap.size 50 2 (.slice A6 LL.length c6) LL.length (rowP LL) := own_base (row_far (row_far ho6.out (by simp)) (by simp)) (by have := (HB.out.trans hkw).size; simp; omega)
                    have hown7 := row_keep hown hW
                    have hQ7 := hQ.keep hW
                    have hkr7 := hkr.trans hW
                    have hkw7 := hkw.trans hW
                    have o7 : QOwn ((w6.setCell ⟨wr.heap.size, 0, none⟩ (.slice A6 LL.length c6)).setCell ⟨wr.heap.size, 1, none⟩ (.bool false)) w.heap.size [(A6, c6, false, LL)] := fun q hq => by rw [List.mem_singleton.1 hq]; exact ⟨r6, hok.out⟩
                    clear hown hQ r6
                    generalize hW7 : ((w6.setCell ⟨wr.heap.size, 0, none⟩ (.slice A6 LL.length c6)).setCell ⟨wr.heap.size, 1, none⟩ (.bool false)) = W7 at *
                    clear hW7
                    generalize hHH : wr.heap.size = H7 at *
                    clear hHH
                    have hs7 := hkr7.size
                    by_cases hbg : (4096 : Int) < (cj : Int) + (LL.length : Int)
                    · have hbig := Lib.hid (show 4096 < cnt Z by have := hT1.out; rw [hTT.out, cnt_snoc, hcc.out] at this; dsimp only at this; omega)
                      go_wp2_with fail
                      rw [hRes.out, if_pos hbig.out]
                      refine bodyPost_ret (v := .tuple #[.slice none 0 0, .int .i64 5]) (by simp [results, Try.results20, go_sem, *]) rfl ⟨none, 0, rfl, Pls.nil _, HB.out.trans hkw7⟩
                    · go_wp2_with (at_builtin; refine wpList_append_own _ rfl _ _ 40 rfl w4.heap.size 24 i0 (.agg #[.slice none 0 0, .bool false]) 2 32 Try.underlying40 hi hz0 hz1 hz2 rfl (by decide) _ _ _ rfl (row_keep hown7 ((Keeps.refl _).alloc _)) ⟨W7.heap.size, 0, none⟩ 1 1 [.slice A6 LL.length c6, .bool false] rfl rfl (poly_new _ _ _ _ _ rfl) (by simp [Value.oneCell']) (by unfold maxLen; omega) (by omega) (by simp; omega) ?_; intro v8 w8 hown8 hgrow hz9; clear hz9)
                      have hra := row_keep hown7 ((Keeps.refl W7).alloc (.cells #[.slice A6 LL.length c6, .bool false] 24))
                      have hk8r : Keeps w4 w8 := Below.grown (hkr7.alloc _) hgrow (by simp; omega) (fun k e => row_base hra k e)
                      have Q8 := (hQ7.keep ((Keeps.refl _).alloc (.cells #[.slice A6 LL.length c6, .bool false] 24))).app hra hgrow (by decide)
                      have o8 := (o7.keep ((Keeps.refl _).alloc (.cells #[.slice A6 LL.length c6, .bool false] 24))).app hra hgrow (by decide)
                      go_roundw
                      case rel =>
                        refine ⟨j + 1, Q ++ [(A6, c6, false, LL)], by omega, by go_num, by rw [hTT.out, cnt_snoc, hcc.out]; go_num, by rw [List.length_append, qcells_append]; exact hown8, ?_, by rw [List.length_append, hQl]; rfl, Lib.hid ⟨by rw [hTT.out, ← hq.out.1]; simp [qPL], by rw [hTT.out, cnt_snoc, hcc.out]; dsimp only; omega⟩, hk4.trans hk8r, hk8r⟩
                        intro q hq'
                        rcases List.mem_append.1 hq' with h9 | h9
                        · exact Q8 q h9
                        · exact o8 q h9
                      case measure => simp [intOf]; omega
                · obtain ⟨hq9⟩ : Nonempty (j = R.length) := ⟨by omega⟩
                  subst hq9
                  have hqe := Lib.hid (show qPL Q = Z by rw [hq.out.1, List.take_of_length_le (by rw [hTl.out]; omega)])
                  have hce := Lib.hid (show ¬ 4096 < cnt Z by have := hq.out.2; rw [List.take_of_length_le (by rw [hTl.out]; omega)] at this; omega)
                  obtain ⟨A9, c9, rfl, hPl⟩ := pls_of_own hown rfl hQ
                  have hql := Lib.hid (show (qPL Q).length = Q.length by simp [qPL])
                  replace hPl := Lib.hid hPl
                  go_wp2_with fail
                  rw [hRes.out, if_neg hce.out, ← hqe.out]
                  refine bodyPost_ret (v := .tuple #[.slice A9 Q.length c9, .int .i64 0]) (by simp [results, Try.results20, go_sem, *]) rfl ⟨A9, c9, by rw [hql.out], by rw [hql.out]; exact hPl.out, HB.out.trans hkw⟩
          · have hrz : ((R.length : Int) == 1) = false := by simp only [beq_eq_false_iff_ne]; omega
            have hRes := Lib.hid (hSu.out (by rintro ⟨-, h9⟩; exact hr1 (by rw [h9]; rfl)))
            clear hSu hWh hr1
            go_wp2_with fail
            clear y0 y1 y2 y3 y4 y5 y6 y7 y8 y9 y10 y11 y12 y13 y14 y15 hrz hndz KD
            have hkz := (Keeps.refl w4).alloc (.cells #[] 24)
            have hr0 : (w4.alloc (.cells #[] 24)).ownsRow w4.heap.size 24 2 (.slice (some ⟨w4.heap.size, 0, none⟩) 0 0) 0 (qcells []) := by
              exact World.ownsRow_lit (base := w4.heap.size) (e := 24) (size := 2) w4 #[] 0 (by simp) (by unfold maxLen; omega) (by simp)
            have hT0 := Lib.hid (show cnt ((subs true L R).take 0) = 0 from rfl)
            have hTl := Lib.hid (show (subs true L R).length = R.length by unfold subs; rw [List.length_map])
            have hTs := Lib.hid (show ∀ j, j < R.length → (subs true L R).take (j + 1) = (subs true L R).take j ++ [(false, subV true L (R.getD j pt0).1 (R.getD j pt0).2)] from fun j hj => by
              unfold subs
              rw [List.take_add_one, List.getElem?_eq_getElem (by rw [List.length_map]; exact hj), List.getElem_map, List.getD_eq_getElem?_getD, List.getElem?_eq_getElem hj]
              rfl)
            have hTp := Lib.hid (show ∀ j, cnt ((subs true L R).take j) ≤ cnt (subs true L R) from fun j => cnt_pre (List.take_prefix _ _))
            generalize subs true L R = Z at *
            clear hRO
            generalize (w4.alloc (.cells #[] 24)) = Wz at *
            go_loopw [8, 9, 10] (fun v m i wr => ∃ (j : Nat) (Q : QL), j ≤ R.length ∧ i = .int .i64 j ∧ m = .int .i64 (cnt (Z.take j)) ∧ wr.ownsRow w4.heap.size 24 2 v Q.length (qcells Q) ∧ QOwn wr w.heap.size Q ∧ Q.length = j ∧ Hid (qPL Q = Z.take j ∧ cnt (Z.take j) ≤ 4096) ∧ Keeps ((w.alloc (.cells #[.slice A n c, .bool true] 24)).alloc (.cells #[.int .i64 wd, .int .i64 jn, .int .i64 cp, .int .i64 ml, .slice Ad nd cd, .int .i64 ph] 27)) wr ∧ Keeps w4 wr) (fun _ _ i _ => R.length - (intOf i).toNat)
            case atStart => exact ⟨0, [], by omega, rfl, rfl, hr0, (fun q hq => by cases hq), rfl, Lib.hid ⟨rfl, by rw [hT0.out]; omega⟩, hk4.trans hkz, hkz⟩
            case round =>
              obtain ⟨j, Q, hj, rfl, rfl, hown, hQ, hQl, hq, hkw, hkr⟩ := hrel
              have hcm := hq.out.2
              by_cases hlt : j < R.length
              · obtain ⟨b, o, rfl, hb, hx⟩ := hP1.out.2.2.2.2 (by omega)
                have D0 := Lib.hid (fun w' (hk : Keeps w4 w') => (hx j (by omega)).keep hb hk)
                have hltj : (j : Int) < R.length := by omega
                have hTT := Lib.hid (hTs.out j hlt)
                have hT1 := Lib.hid (hTp.out (j + 1))
                have KB1 := Lib.hid (fun w' hk => KB.out w' hk (R.getD j pt0).1 (R.getD j pt0).2)
                have hLl := hslen.out (R.getD j pt0).1 (R.getD j pt0).2
                have hok := Lib.hid (hsok.out (R.getD j pt0).1 (R.getD j pt0).2)
                clear hx
                generalize subV true L (R.getD j pt0).1 (R.getD j pt0).2 = LL at *
                generalize R.getD j pt0 = x at *
                generalize hcc : cnt (Z.take j) = cj at *
                replace hcc := Lib.hid hcc
                go_upto_region 16 with fail
                have HZ := Lib.hid (fun w' (hk : Keeps wr w') => (show w'.cell? ⟨w.heap.size, 0, none⟩ = some (.slice A n c) ∧ w'.cell? ⟨w.heap.size, 1, none⟩ = some (.bool true) ∧ w'.cell? ⟨b, o + j * 2, none⟩ = some (.int .i64 x.1) ∧ w'.cell? ⟨b, o + j * 2 + 1, none⟩ = some (.int .i64 x.2) from ⟨(HS.out _ (hkw.trans hk)).1, (HS.out _ (hkw.trans hk)).2.2.1, (D0.out _ (hkr.trans hk)).1, (D0.out _ (hkr.trans hk)).2⟩))
                go_region_held3 (fun w' => w'.cell? ⟨w.heap.size, 0, none⟩ = some (.slice A n c) ∧ w'.cell? ⟨w.heap.size, 1, none⟩ = some (.bool true) ∧ w'.cell? ⟨b, o + j * 2, none⟩ = some (.int .i64 x.1) ∧ w'.cell? ⟨b, o + j * 2 + 1, none⟩ = some (.int .i64 x.2)) (first | exact HZ.out _ (by repeat (first | assumption | exact Keeps.refl _ | refine Keeps.alloc ?_ _ | refine Keeps.drewN ?_ _ | refine Keeps.drew ?_ | refine Keeps.setNew ?_ (by dsimp only; omega) _)) | go_keep) (first | (go_at_call 23; (with_reducible refine (KB1.out _ (hkw.trans (by repeat (first | assumption | exact Keeps.refl _ | refine Keeps.alloc ?_ _ | refine Keeps.drewN ?_ _ | refine Keeps.drew ?_ | refine Keeps.setNew ?_ (by dsimp only; omega) _)))).mono ?_); rintro e w6 ⟨A6, c6, rfl, ho6, hk6⟩; replace ho6 := Lib.hid ho6; have hkx : Keeps wr w6 := Keeps.trans (by repeat (first | assumption | exact Keeps.refl _ | refine Keeps.alloc ?_ _ | refine Keeps.drewN ?_ _ | refine Keeps.drew ?_ | refine Keeps.setNew ?_ (by dsimp only; omega) _)) hk6; (first | have b6 := BoxN.keep (BoxN.keep (BoxN.new _ _ _) (Keeps.drew (Keeps.refl _))) hk6; have e60 := (b6.cell 0).trans rfl; have e61 := (b6.cell 1).trans rfl; have g60 := b6.frozen 0; have g61 := b6.frozen 1 | skip)))
                · have hW : Keeps wr (w6.alloc (.cells #[.slice A6 LL.length c6, .bool false] 24)) := hkx.alloc (.cells #[.slice A6 LL.length c6, .bool false] 24)
                  have e0 : (w6.alloc (.cells #[.slice A6 LL.length c6, .bool false] 24)).cell? ⟨w6.heap.size, 0, none⟩ = some (.slice A6 LL.length c6) := poly_new w6 (.slice A6 LL.length c6) (.bool false) 24 w6.heap.size rfl 0 _ rfl
                  have e1 : (w6.alloc (.cells #[.slice A6 LL.length c6, .bool false] 24)).cell? ⟨w6.heap.size, 1, none⟩ = some (.bool false) := poly_new w6 (.slice A6 LL.length c6) (.bool false) 24 w6.heap.size rfl 1 _ rfl
                  have r6 : (w6.alloc (.cells #[.slice A6 LL.length c6, .bool false] 24)).ownsRow w.heap.size 50 2 (.slice A6 LL.length c6) LL.length (rowP LL) := own_base (row_keep ho6.out ((Keeps.refl _).alloc _)) (by have := (HB.out.trans hkw).size; simp; omega)
                  have hown7 := row_keep hown hW
                  have hQ7 := hQ.keep hW
                  have hkr7 := hkr.trans hW
                  have hkw7 := hkw.trans hW
                  have o7 : QOwn (w6.alloc (.cells #[.slice A6 LL.length c6, .bool false] 24)) w.heap.size [(A6, c6, false, LL)] := fun q hq => by rw [List.mem_singleton.1 hq]; exact ⟨r6, hok.out⟩
                  clear hown hQ r6
                  generalize hW7 : (w6.alloc (.cells #[.slice A6 LL.length c6, .bool false] 24)) = W7 at *
                  clear hW7
                  generalize hHH : w6.heap.size = H7 at *
                  clear hHH
                  have hs7 := hkr7.size
                  by_cases hbg : (4096 : Int) < (cj : Int) + (LL.length : Int)
                  · have hbig := Lib.hid (show 4096 < cnt Z by have := hT1.out; rw [hTT.out, cnt_snoc, hcc.out] at this; dsimp only at this; omega)
                    go_wp2_with fail
                    rw [hRes.out, if_pos hbig.out]
                    refine bodyPost_ret (v := .tuple #[.slice none 0 0, .int .i64 5]) (by simp [results, Try.results20, go_sem, *]) rfl ⟨none, 0, rfl, Pls.nil _, HB.out.trans hkw7⟩
                  · go_wp2_with (at_builtin; refine wpList_append_own _ rfl _ _ 40 rfl w4.heap.size 24 i0 (.agg #[.slice none 0 0, .bool false]) 2 32 Try.underlying40 hi hz0 hz1 hz2 rfl (by decide) _ _ _ rfl (row_keep hown7 ((Keeps.refl _).alloc _)) ⟨W7.heap.size, 0, none⟩ 1 1 [.slice A6 LL.length c6, .bool false] rfl rfl (poly_new _ _ _ _ _ rfl) (by simp [Value.oneCell']) (by unfold maxLen; omega) (by omega) (by simp; omega) ?_; intro v8 w8 hown8 hgrow hz9; clear hz9)
                    have hra := row_keep hown7 ((Keeps.refl W7).alloc (.cells #[.slice A6 LL.length c6, .bool false] 24))
                    have hk8r : Keeps w4 w8 := Below.grown (hkr7.alloc _) hgrow (by simp; omega) (fun k e => row_base hra k e)
                    have Q8 := (hQ7.keep ((Keeps.refl _).alloc (.cells #[.slice A6 LL.length c6, .bool false] 24))).app hra hgrow (by decide)
                    have o8 := (o7.keep ((Keeps.refl _).alloc (.cells #[.slice A6 LL.length c6, .bool false] 24))).app hra hgrow (by decide)
                    go_roundw
                    case rel =>
                      refine ⟨j + 1, Q ++ [(A6, c6, false, LL)], by omega, by go_num, by rw [hTT.out, cnt_snoc, hcc.out]; go_num, by rw [List.length_append, qcells_append]; exact hown8, ?_, by rw [List.length_append, hQl]; rfl, Lib.hid ⟨by rw [hTT.out, ← hq.out.1]; simp [qPL], by rw [hTT.out, cnt_snoc, hcc.out]; dsimp only; omega⟩, hk4.trans hk8r, hk8r⟩
                      intro q hq'
                      rcases List.mem_append.1 hq' with h9 | h9
                      · exact Q8 q h9
                      · exact o8 q h9
                    case measure => simp [intOf]; omega
                · have hW : Keeps wr ((w6.setCell ⟨wr.heap.size, 0, none⟩ (.slice A6 LL.length c6)).setCell ⟨wr.heap.size, 1, none⟩ (.bool false)) := (hkx.setNew (p := ⟨wr.heap.size, 0, none⟩) (by dsimp only; omega) (.slice A6 LL.length c6)).setNew (p := ⟨wr.heap.size, 1, none⟩) (by dsimp only; omega) (.bool false)
                  have e0 : ((w6.setCell ⟨wr.heap.size, 0, none⟩ (.slice A6 LL.length c6)).setCell ⟨wr.heap.size, 1, none⟩ (.bool false)).cell? ⟨wr.heap.size, 0, none⟩ = some (.slice A6 LL.length c6) := by simp [go_sem, e60, e61]
                  have e1 : ((w6.setCell ⟨wr.heap.size, 0, none⟩ (.slice A6 LL.length c6)).setCell ⟨wr.heap.size, 1, none⟩ (.bool false)).cell? ⟨wr.heap.size, 1, none⟩ = some (.bool false) := by simp [go_sem, e60, e61]
                  have r6 : ((w6.setCell ⟨wr.heap.size, 0, none⟩ (.slice A6 LL.length c6)).setCell ⟨wr.heap.size, 1, none⟩ (.bool false)).ownsRow w.heap.size 50 2 (.slice A6 LL.length c6) LL.length (rowP LL) := own_base (row_far (row_far ho6.out (by simp)) (by simp)) (by have := (HB.out.trans hkw).size; simp; omega)
                  have hown7 := row_keep hown hW
                  have hQ7 := hQ.keep hW
                  have hkr7 := hkr.trans hW
                  have hkw7 := hkw.trans hW
                  have o7 : QOwn ((w6.setCell ⟨wr.heap.size, 0, none⟩ (.slice A6 LL.length c6)).setCell ⟨wr.heap.size, 1, none⟩ (.bool false)) w.heap.size [(A6, c6, false, LL)] := fun q hq => by rw [List.mem_singleton.1 hq]; exact ⟨r6, hok.out⟩
                  clear hown hQ r6
                  generalize hW7 : ((w6.setCell ⟨wr.heap.size, 0, none⟩ (.slice A6 LL.length c6)).setCell ⟨wr.heap.size, 1, none⟩ (.bool false)) = W7 at *
                  clear hW7
                  generalize hHH : wr.heap.size = H7 at *
                  clear hHH
                  have hs7 := hkr7.size
                  by_cases hbg : (4096 : Int) < (cj : Int) + (LL.length : Int)
                  · have hbig := Lib.hid (show 4096 < cnt Z by have := hT1.out; rw [hTT.out, cnt_snoc, hcc.out] at this; dsimp only at this; omega)
                    go_wp2_with fail
                    rw [hRes.out, if_pos hbig.out]
                    refine bodyPost_ret (v := .tuple #[.slice none 0 0, .int .i64 5]) (by simp [results, Try.results20, go_sem, *]) rfl ⟨none, 0, rfl, Pls.nil _, HB.out.trans hkw7⟩
                  · go_wp2_with (at_builtin; refine wpList_append_own _ rfl _ _ 40 rfl w4.heap.size 24 i0 (.agg #[.slice none 0 0, .bool false]) 2 32 Try.underlying40 hi hz0 hz1 hz2 rfl (by decide) _ _ _ rfl (row_keep hown7 ((Keeps.refl _).alloc _)) ⟨W7.heap.size, 0, none⟩ 1 1 [.slice A6 LL.length c6, .bool false] rfl rfl (poly_new _ _ _ _ _ rfl) (by simp [Value.oneCell']) (by unfold maxLen; omega) (by omega) (by simp; omega) ?_; intro v8 w8 hown8 hgrow hz9; clear hz9)
                    have hra := row_keep hown7 ((Keeps.refl W7).alloc (.cells #[.slice A6 LL.length c6, .bool false] 24))
                    have hk8r : Keeps w4 w8 := Below.grown (hkr7.alloc _) hgrow (by simp; omega) (fun k e => row_base hra k e)
                    have Q8 := (hQ7.keep ((Keeps.refl _).alloc (.cells #[.slice A6 LL.length c6, .bool false] 24))).app hra hgrow (by decide)
                    have o8 := (o7.keep ((Keeps.refl _).alloc (.cells #[.slice A6 LL.length c6, .bool false] 24))).app hra hgrow (by decide)
                    go_roundw
                    case rel =>
                      refine ⟨j + 1, Q ++ [(A6, c6, false, LL)], by omega, by go_num, by rw [hTT.out, cnt_snoc, hcc.out]; go_num, by rw [List.length_append, qcells_append]; exact hown8, ?_, by rw [List.length_append, hQl]; rfl, Lib.hid ⟨by rw [hTT.out, ← hq.out.1]; simp [qPL], by rw [hTT.out, cnt_snoc, hcc.out]; dsimp only; omega⟩, hk4.trans hk8r, hk8r⟩
                      intro q hq'
                      rcases List.mem_append.1 hq' with h9 | h9
                      · exact Q8 q h9
                      · exact o8 q h9
                    case measure => simp [intOf]; omega
              · obtain ⟨hq9⟩ : Nonempty (j = R.length) := ⟨by omega⟩
                subst hq9
                have hqe := Lib.hid (show qPL Q = Z by rw [hq.out.1, List.take_of_length_le (by rw [hTl.out]; omega)])
                have hce := Lib.hid (show ¬ 4096 < cnt Z by have := hq.out.2; rw [List.take_of_length_le (by rw [hTl.out]; omega)] at this; omega)
                obtain ⟨A9, c9, rfl, hPl⟩ := pls_of_own hown rfl hQ
                have hql := Lib.hid (show (qPL Q).length = Q.length by simp [qPL])
                replace hPl := Lib.hid hPl
                go_wp2_with fail
                rw [hRes.out, if_neg hce.out, ← hqe.out]
                refine bodyPost_ret (v := .tuple #[.slice A9 Q.length c9, .int .i64 0]) (by simp [results, Try.results20, go_sem, *]) rfl ⟨A9, c9, by rw [hql.out], by rw [hql.out]; exact hPl.out, HB.out.trans hkw⟩
end Go.Proofs.Ytihmhpleiefodaa
