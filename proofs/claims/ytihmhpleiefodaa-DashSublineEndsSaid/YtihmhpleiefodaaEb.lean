/- Sublines read as points; slices of one polyline. -/
import Derived.Test.YtihmhpleiefodaaDz
import Derived.Test.YtihmhpleiefodaaE25
namespace Go.Proofs.Ytihmhpleiefodaa
section
open Go.RowKit Go.Shelf
attribute [local go_sem ↓] Go.wp_at_zero Go.wp_at_succ
set_option linter.unusedVariables false
set_option linter.unusedSimpArgs false
theorem addR_len (O : List Pt) (p : Pt) : (addR O p).length ≤ O.length + 1 := by unfold addR; split <;> simp
theorem addR_ok {O : List Pt} {p : Pt} (h : ∀ x ∈ O, okP x) (hp : okP p) : ∀ x ∈ addR O p, okP x := by
  unfold addR
  split
  · intro x hx
    rcases List.mem_append.1 hx with hx | hx
    · exact h x hx
    · rw [List.mem_singleton.1 hx]; exact hp
  · exact h
theorem refTo_len (S : List (Pt × Pt)) (lo hi : Int) : ∀ j, (refTo S lo hi j).length ≤ 3 * j
  | 0 => by simp [refTo]
  | j + 1 => by
    have ih := refTo_len S lo hi j
    unfold refTo
    dsimp only
    have e1 := addR_len (refTo S lo hi j) (lerpS (S.getD j sg0) (lo - lng (S.take j)))
    generalize ho1 : (if lng (S.take j) ≤ lo ∧ lo < lng (S.take j) + lenS (S.getD j sg0) then addR (refTo S lo hi j) (lerpS (S.getD j sg0) (lo - lng (S.take j))) else refTo S lo hi j) = o1
    have h1 : o1.length ≤ 3 * j + 1 := by rw [← ho1]; split <;> omega
    have e2 := addR_len o1 (S.getD j sg0).1
    generalize ho2 : (if lo < lng (S.take j) ∧ lng (S.take j) < hi then addR o1 (S.getD j sg0).1 else o1) = o2
    have h2 : o2.length ≤ 3 * j + 2 := by rw [← ho2]; split <;> omega
    have e3 := addR_len o2 (lerpS (S.getD j sg0) (hi - lng (S.take j)))
    split <;> omega
theorem refTo_ok {S : List (Pt × Pt)} (hS : ∀ j, okP (S.getD j sg0).1) (lo hi : Int) : ∀ j, ∀ p ∈ refTo S lo hi j, okP p
  | 0 => fun p hp => by simp [refTo] at hp
  | j + 1 => by
    have ih := refTo_ok hS lo hi j
    unfold refTo
    dsimp only
    have k1 := lerpS_ok (S.getD j sg0) (lo - lng (S.take j))
    have k2 := lerpS_ok (S.getD j sg0) (hi - lng (S.take j))
    split <;> split <;> split <;> first | exact ih | exact addR_ok (addR_ok ih k1) k2 | exact addR_ok (addR_ok ih (hS j)) k2 | exact addR_ok ih k1 | exact addR_ok ih k2 | exact addR_ok ih (hS j) | exact addR_ok (addR_ok (addR_ok ih k1) (hS j)) k2 | exact addR_ok (addR_ok ih k1) (hS j)
set_option maxRecDepth 100000 in
set_option maxHeartbeats 4000000 in
theorem rsubl_any (cl : Bool) (A : Option Addr) (n c : Nat) (L : List Pt) (f t : Int) (w : World) (h : Pts w A n c L) (hn : n ≤ 4096) :
    Calls Try.prog 23 #[.agg #[.slice A n c, .bool cl], .int .i64 f, .int .i64 t] w (RetPo w (subV cl L f t)) := by
  have hl := h.1
  have HS := Lib.hid (show ∀ w', Keeps ((w.alloc (.cells #[.slice A n c, .bool cl] 24)).alloc (.cells #[.slice none 0 0, .bool false] 24)) w' → w'.cell? ⟨w.heap.size, 0, none⟩ = some (.slice A n c) ∧ w'.frozen? ⟨w.heap.size, 0, none⟩ = false ∧ w'.cell? ⟨w.heap.size, 1, none⟩ = some (.bool cl) ∧ w'.frozen? ⟨w.heap.size, 1, none⟩ = false ∧ w'.cell? ⟨w.heap.size + 1, 0, none⟩ = some (.slice none 0 0) ∧ w'.frozen? ⟨w.heap.size + 1, 0, none⟩ = false ∧ w'.cell? ⟨w.heap.size + 1, 1, none⟩ = some (.bool false) ∧ w'.frozen? ⟨w.heap.size + 1, 1, none⟩ = false from fun w' hk => ⟨(hk.cell (p := ⟨w.heap.size, 0, none⟩) (by first | (simp; done) | (simp; omega))).trans (by simp [go_sem]), (hk.frozen (p := ⟨w.heap.size, 0, none⟩) (by first | (simp; done) | (simp; omega))).trans (by simp [go_sem]), (hk.cell (p := ⟨w.heap.size, 1, none⟩) (by first | (simp; done) | (simp; omega))).trans (by simp [go_sem]), (hk.frozen (p := ⟨w.heap.size, 1, none⟩) (by first | (simp; done) | (simp; omega))).trans (by simp [go_sem]), (hk.cell (p := ⟨w.heap.size + 1, 0, none⟩) (by first | (simp; done) | (simp; omega))).trans (by simp [go_sem]), (hk.frozen (p := ⟨w.heap.size + 1, 0, none⟩) (by first | (simp; done) | (simp; omega))).trans (by simp [go_sem]), (hk.cell (p := ⟨w.heap.size + 1, 1, none⟩) (by first | (simp; done) | (simp; omega))).trans (by simp [go_sem]), (hk.frozen (p := ⟨w.heap.size + 1, 1, none⟩) (by first | (simp; done) | (simp; omega))).trans (by simp [go_sem])⟩)
  have HB := Lib.hid (show Keeps w ((w.alloc (.cells #[.slice A n c, .bool cl] 24)).alloc (.cells #[.slice none 0 0, .bool false] 24)) from (by (repeat (first | (with_reducible exact Keeps.refl _) | (with_reducible assumption) | (with_reducible refine Keeps.drewN ?_ _) | (with_reducible refine Keeps.drew ?_) | (with_reducible refine Keeps.alloc ?_ _) | (with_reducible refine Keeps.setNew ?_ ?_ _))) <;> (dsimp only; omega)))
  have hk0 := Keeps.refl ((w.alloc (.cells #[.slice A n c, .bool cl] 24)).alloc (.cells #[.slice none 0 0, .bool false] 24))
  have KN := Lib.hid (fun w' (hk : Keeps w w') => rdlen_any cl A n c L w' (h.keep hk) (by omega))
  have KLi := Lib.hid (fun w' (hk : Keeps w w') => rline_any cl A n c L w' (h.keep hk) (by omega))
  have hnu := dedC_len cl L
  have hNS : (segs cl (dedC cl L)).length ≤ 4096 := by unfold segs segN; rw [upS_len]; split <;> (try split) <;> omega
  have hlS := lng_bd (segs cl (dedC cl L))
  have hlP : 0 ≤ lenP cl L ∧ lenP cl L ≤ 4294967295 * 4096 := by
    unfold lenP
    split
    · omega
    · omega
  have hlo : max 0 (min f (lenP cl L)) = clL f (lenP cl L) := rfl
  have hhi : max 0 (min t (lenP cl L)) = clL t (lenP cl L) := rfl
  have hb1 := clL_bd f hlP.1
  have hb2 := clL_bd t hlP.1
  have hR := Lib.hid (show subV cl L f t = if clL t (lenP cl L) ≤ clL f (lenP cl L) then [] else cutL (segs cl (dedC cl L)) (dedC cl L) (clL f (lenP cl L)) (clL t (lenP cl L)) from rfl)
  generalize subV cl L f t = R at *
  by_cases hle : clL t (lenP cl L) ≤ clL f (lenP cl L)
  · have hRR := Lib.hid (show R = [] by rw [hR.out, if_pos hle])
    clear h hlS hNS hnu
    generalize lenP cl L = lp at *
    generalize clL t lp = hi at *
    generalize clL f lp = lo at *
    obtain ⟨y0, y1, y2, y3, y4, y5, y6, y7⟩ := HS.out _ hk0
    go_enter Try.func23, Try.ntmps23
    go_wp2_with (go_at_call 13; (with_reducible refine (KN.out _ HB.out).mono ?_); rintro e w1 ⟨rfl, hk1⟩; clear y0 y1 y2 y3 y4 y5 y6 y7; obtain ⟨y0, y1, y2, y3, y4, y5, y6, y7⟩ := HS.out _ hk1)
    have hs1 : w.heap.size + 1 < w1.heap.size := by have := hk1.size; simp at this; omega
    rw [hRR.out]
    refine bodyPost_ret (v := .agg #[.slice none 0 0, .bool false]) (by simp [results, Try.results23, go_sem, *]) rfl ⟨none, 0, rfl, ⟨rfl, .inl ⟨rfl, rfl⟩⟩, ?_⟩
    exact ((HB.out.trans hk1).setNew (by dsimp only; omega) _).setNew (by dsimp only; omega) _
  · have hv : L.all vP = true := by
      cases hv : L.all vP with
      | true => rfl
      | false =>
        have hz : lenP cl L = 0 := by unfold lenP; rw [hv]; rfl
        exfalso
        rw [hz] at hle
        unfold clL at hle
        omega
    have hz : lenP cl L = lng (segs cl (dedC cl L)) := by unfold lenP; rw [if_pos hv]
    have hG := goodS cl L hv
    have hok := Lib.hid (dedC_ok cl L h.2.2.2.1)
    have hM0 : ∀ j, j < (segs cl (dedC cl L)).length → (dedC cl L).getD j pt0 = ((segs cl (dedC cl L)).getD j sg0).1 := fun j hj => by rw [segs_get cl _ j hj]; rfl
    have hRR := Lib.hid (show R = refTo (segs cl (dedC cl L)) (clL f (lenP cl L)) (clL t (lenP cl L)) (segs cl (dedC cl L)).length by
      rw [hR.out, if_neg hle, ref_cutL hG hM0 (by omega) (by omega) (by rw [← hz]; omega)])
    have hsk := Lib.hid (show ∀ j, okP ((segs cl (dedC cl L)).getD j sg0).1 from fun j => by
      by_cases hj : j < (segs cl (dedC cl L)).length
      · rw [← hM0 j hj]; exact okL _ hok.out j
      · rw [List.getD_eq_getElem?_getD, List.getElem?_eq_none (by omega)]; exact okP0)
    have hTl := Lib.hid (refTo_len (segs cl (dedC cl L)) (clL f (lenP cl L)) (clL t (lenP cl L)))
    have hTk := Lib.hid (refTo_ok hsk.out (clL f (lenP cl L)) (clL t (lenP cl L)))
    have hT0 := Lib.hid (show refTo (segs cl (dedC cl L)) (clL f (lenP cl L)) (clL t (lenP cl L)) 0 = [] from rfl)
    have hTs := Lib.hid (show ∀ j, refTo (segs cl (dedC cl L)) (clL f (lenP cl L)) (clL t (lenP cl L)) (j + 1) = if lng ((segs cl (dedC cl L)).take j) < clL t (lenP cl L) ∧ clL t (lenP cl L) ≤ lng ((segs cl (dedC cl L)).take j) + lenS ((segs cl (dedC cl L)).getD j sg0) then addR (if clL f (lenP cl L) < lng ((segs cl (dedC cl L)).take j) ∧ lng ((segs cl (dedC cl L)).take j) < clL t (lenP cl L) then addR (if lng ((segs cl (dedC cl L)).take j) ≤ clL f (lenP cl L) ∧ clL f (lenP cl L) < lng ((segs cl (dedC cl L)).take j) + lenS ((segs cl (dedC cl L)).getD j sg0) then addR (refTo (segs cl (dedC cl L)) (clL f (lenP cl L)) (clL t (lenP cl L)) j) (lerpS ((segs cl (dedC cl L)).getD j sg0) (clL f (lenP cl L) - lng ((segs cl (dedC cl L)).take j))) else refTo (segs cl (dedC cl L)) (clL f (lenP cl L)) (clL t (lenP cl L)) j) ((segs cl (dedC cl L)).getD j sg0).1 else (if lng ((segs cl (dedC cl L)).take j) ≤ clL f (lenP cl L) ∧ clL f (lenP cl L) < lng ((segs cl (dedC cl L)).take j) + lenS ((segs cl (dedC cl L)).getD j sg0) then addR (refTo (segs cl (dedC cl L)) (clL f (lenP cl L)) (clL t (lenP cl L)) j) (lerpS ((segs cl (dedC cl L)).getD j sg0) (clL f (lenP cl L) - lng ((segs cl (dedC cl L)).take j))) else refTo (segs cl (dedC cl L)) (clL f (lenP cl L)) (clL t (lenP cl L)) j)) (lerpS ((segs cl (dedC cl L)).getD j sg0) (clL t (lenP cl L) - lng ((segs cl (dedC cl L)).take j))) else (if clL f (lenP cl L) < lng ((segs cl (dedC cl L)).take j) ∧ lng ((segs cl (dedC cl L)).take j) < clL t (lenP cl L) then addR (if lng ((segs cl (dedC cl L)).take j) ≤ clL f (lenP cl L) ∧ clL f (lenP cl L) < lng ((segs cl (dedC cl L)).take j) + lenS ((segs cl (dedC cl L)).getD j sg0) then addR (refTo (segs cl (dedC cl L)) (clL f (lenP cl L)) (clL t (lenP cl L)) j) (lerpS ((segs cl (dedC cl L)).getD j sg0) (clL f (lenP cl L) - lng ((segs cl (dedC cl L)).take j))) else refTo (segs cl (dedC cl L)) (clL f (lenP cl L)) (clL t (lenP cl L)) j) ((segs cl (dedC cl L)).getD j sg0).1 else (if lng ((segs cl (dedC cl L)).take j) ≤ clL f (lenP cl L) ∧ clL f (lenP cl L) < lng ((segs cl (dedC cl L)).take j) + lenS ((segs cl (dedC cl L)).getD j sg0) then addR (refTo (segs cl (dedC cl L)) (clL f (lenP cl L)) (clL t (lenP cl L)) j) (lerpS ((segs cl (dedC cl L)).getD j sg0) (clL f (lenP cl L) - lng ((segs cl (dedC cl L)).take j))) else refTo (segs cl (dedC cl L)) (clL f (lenP cl L)) (clL t (lenP cl L)) j)) from fun _ => rfl)
    have hll := lineL_len cl (dedC cl L)
    have hlk := Lib.hid (lineL_ok (cl := cl) hok.out)
    have hsl := Lib.hid (fun h => lineL_segs (cl := cl) (M := dedC cl L) h)
    have hge := Lib.hid (fun k h => lineL_get (cl := cl) (M := dedC cl L) (k := k) h)
    have hzz := Lib.hid (show (lineL cl (dedC cl L)).length = 0 → (segs cl (dedC cl L)) = [] from fun h => by
      have : (dedC cl L).length ≤ 1 := by
        rw [hll] at h
        split at h
        · assumption
        · omega
      unfold segs segN
      rw [if_pos this]; rfl)
    have hKL := Lib.hid (fun (s : Pt × Pt) (x : Int) (w' : World) (x0 : -9223372036854775808 ≤ x) => show Calls Try.prog 42 #[ptA s.1, ptA s.2, .int .i64 x, .int .i64 (lenS s)] w' (fun e w2 => e = .returned (ptA (lerpS s x)) ∧ Keeps w' w2) from rlerp_any s.1.1 s.1.2 s.2.1 s.2.2 x (lenS s) w' (by have := lenS_bd s; omega) (by have := lenS_bd s; omega))
    clear h hok hll hnu hz hG hM0 hR hv
    generalize refTo (segs cl (dedC cl L)) (clL f (lenP cl L)) (clL t (lenP cl L)) = T at *
    generalize segs cl (dedC cl L) = S at *
    generalize lineL cl (dedC cl L) = Q at *
    generalize lenP cl L = lp at *
    generalize clL t lp = hi at *
    generalize clL f lp = lo at *
    obtain ⟨y0, y1, y2, y3, y4, y5, y6, y7⟩ := HS.out _ hk0
    go_enter Try.func23, Try.ntmps23
    go_wp2_with (first | (go_at_call 13; (with_reducible refine (KN.out _ HB.out).mono ?_); rintro e w0 ⟨rfl, hk0'⟩; clear y0 y1 y2 y3 y4 y5 y6 y7; obtain ⟨y0, y1, y2, y3, y4, y5, y6, y7⟩ := HS.out _ hk0') | (go_at_call 28; (with_reducible refine (KLi.out _ (HB.out.trans hk0')).mono ?_); rintro e w1 ⟨A1, c1, rfl, ho1, hk1'⟩; clear y0 y1 y2 y3 y4 y5 y6 y7; have hk1 := hk0'.trans hk1'; replace ho1 := Lib.hid ho1))
    obtain ⟨A1', c1', e1, hP1⟩ := Pts.of_own ho1.out rfl hlk.out
    cases e1
    have hkw1 := (Keeps.refl w1).alloc (.cells #[] 50)
    have hs1 : w.heap.size + 2 ≤ w1.heap.size := by have := hk1.size; simp at this; omega
    have hr0 : (w1.alloc (.cells #[] 50)).ownsRow (w.heap.size + 2) 50 2 (.slice (some ⟨w1.heap.size, 0, none⟩) 0 0) 0 (rowP []) := by
      have := World.ownsRow_lit (base := w1.heap.size) (e := 50) (size := 2) w1 #[] 0 (by simp) (by unfold maxLen; omega) (by simp)
      exact own_base this hs1
    have hmx := hP1.max
    have HP1 := Lib.hid hP1
    clear hP1 ho1 KN KLi hlk
    generalize (w1.alloc (.cells #[] 50)) = W1 at *
    go_loopw [11, 12, 13] (fun v a i wr => ∃ (j : Nat) (A9 : Option Addr) (c9 : Nat), j ≤ S.length ∧ i = .int .i64 ((j : Int) + 1) ∧ a = .int .i64 (lng (S.take j)) ∧ v = .slice A9 (T j).length c9 ∧ wr.ownsRow (w.heap.size + 2) 50 2 (.slice A9 (T j).length c9) (T j).length (rowP (T j)) ∧ Keeps ((w.alloc (.cells #[.slice A n c, .bool cl] 24)).alloc (.cells #[.slice none 0 0, .bool false] 24)) wr ∧ Keeps w1 wr) (fun _ _ i _ => S.length + 2 - (intOf i).toNat)
    case atStart => exact ⟨0, some ⟨w1.heap.size, 0, none⟩, 0, by omega, rfl, rfl, by rw [hT0.out]; rfl, by rw [hT0.out]; exact hr0, hk1.trans hkw1, hkw1⟩
    case round =>
      obtain ⟨j, A9, c9, hj, rfl, rfl, rfl, hown, hkw, hkr⟩ := hrel
      have hRl : Q.length = 0 ∨ Q.length = S.length + 1 := by
        rcases Nat.eq_zero_or_pos Q.length with e | e
        · exact .inl e
        · exact .inr (hsl.out e)
      have hS0 : Q.length = 0 → S.length = 0 := fun e => by rw [hzz.out e]; rfl
      have hTj := hTl.out j
      by_cases hlt : j < S.length
      · have h1i : (j : Int) + 1 < Q.length := by omega
        have hqi : (j : Int) < Q.length := by omega
        obtain ⟨g0, g1⟩ := hge.out j hlt
        obtain ⟨b, o, rfl, hb, hx⟩ := HP1.out.2.2.2.2 (by omega)
        have D0 := Lib.hid (fun w' (hk : Keeps w1 w') => by have := (hx j (by omega)).keep hb hk; rw [g0] at this; exact this)
        have D1 := Lib.hid (fun w' (hk : Keeps w1 w') => by have := (hx (j + 1) (by omega)).keep hb hk; rw [g1] at this; exact this)
        have hT := Lib.hid (lng_take_succ S j hlt)
        have hls := lenS_bd (S.getD j sg0)
        have KP0 := Lib.hid (fun w' => rpiece_any (S.getD j sg0).1 (S.getD j sg0).2 w')
        have hww : IntKind.i64.wrap (j : Int) = j := i64_in _ (by omega)
        have hTT := Lib.hid (hTs.out j)
        have hlv := lng_bd (S.take j)
        have hlt9 : (S.take j).length ≤ 4096 := by rw [List.length_take]; omega
        have hlv : 0 ≤ lng (S.take j) ∧ lng (S.take j) ≤ 4294967295 * 4096 := ⟨hlv.1, by omega⟩
        have hwl : IntKind.i64.wrap (lo - lng (S.take j)) = lo - lng (S.take j) := i64_in _ (by omega)
        have hwh : IntKind.i64.wrap (hi - lng (S.take j)) = hi - lng (S.take j) := i64_in _ (by omega)
        have K1 := Lib.hid (fun w' => hKL.out (S.getD j sg0) (lo - lng (S.take j)) w' (by omega))
        have K2 := Lib.hid (fun w' => hKL.out (S.getD j sg0) (hi - lng (S.take j)) w' (by omega))
        have k1 := Lib.hid (lerpS_ok (S.getD j sg0) (lo - lng (S.take j)))
        have k2 := Lib.hid (lerpS_ok (S.getD j sg0) (hi - lng (S.take j)))
        have kp := Lib.hid (hsk.out j)
        have hTok := Lib.hid (hTk.out j)
        have hTok1 := Lib.hid (hTk.out (j + 1))
        clear hx g0 g1 hS0 hRl hlt9
        rw [show ((S.getD j sg0).1, (S.getD j sg0).2) = S.getD j sg0 from rfl] at KP0
        generalize lerpS (S.getD j sg0) (lo - lng (S.take j)) = pl at *
        generalize lerpS (S.getD j sg0) (hi - lng (S.take j)) = ph at *
        generalize (S.getD j sg0).1 = pa at *
        generalize (S.getD j sg0).2 = pb at *
        generalize lenS (S.getD j sg0) = ls at *
        generalize lng (S.take j) = lv at *
        generalize hG1 : T (j + 1) = T1 at *
        replace hG1 := Lib.hid hG1
        generalize T j = T0 at *
        unfold ptA at KP0 K1 K2
        go_upto_region 11 with fail
        have z0 := fun k : KW wr => (D0.out _ ((hkr).trans k.keeps)).1
        have z1 := fun k : KW wr => (D0.out _ ((hkr).trans k.keeps)).2
        have z2 := fun k : KW wr => (D1.out _ ((hkr).trans k.keeps)).1
        have z3 := fun k : KW wr => (D1.out _ ((hkr).trans k.keeps)).2
        have KP := Lib.hid (fun k : KW wr => keepq (KP0.out k.w))
        refine wp_region_kept (wr) (by kernel_rfl) (by kernel_rfl) (Keeps.refl _) ?_
        repeat (first | go_big_quiet_skip | (go_big_quiet_want; go_big_quiet_op; first | go_big_quiet_on | go_big_quiet_call ((go_at_call 30; first | (with_reducible exact KP.out _)))))
        refine wpQuiet_nil ?_
        rintro w' ⟨k9, rfl⟩
        have hka := k9.keeps
        generalize k9.w = wa at hka ⊢
        clear k9
        clear z0 z1 z2 z3 KP KP0
        have hkra := hkr.trans hka
        have hkwa := hkw.trans hka
        have howa := row_keep hown hka
        clear hown
        by_cases h1 : lv ≤ lo
        · have f1 : ¬ lo < lv := by omega
          have f2 : lv < hi := by omega
          by_cases h2 : lo < lv + ls
          · by_cases h3 : hi ≤ lv + ls
            · skip
              have hT1 := Lib.hid (show T1 = addR (addR T0 pl) ph by rw [hTT.out, if_pos (show lv < hi ∧ hi ≤ lv + ls by omega), if_neg (show ¬ (lo < lv ∧ lv < hi) by omega), if_pos (show lv ≤ lo ∧ lo < lv + ls by omega)])
              clear hTT
              have z0 := fun k : KW wa => (D0.out _ ((hkra).trans k.keeps)).1
              have z1 := fun k : KW wa => (D0.out _ ((hkra).trans k.keeps)).2
              have z2 := fun k : KW wa => (D1.out _ ((hkra).trans k.keeps)).1
              have z3 := fun k : KW wa => (D1.out _ ((hkra).trans k.keeps)).2
              have KQ := Lib.hid (fun k : KW wa => keepq (K1.out k.w))
              go_upto_region 13 with fail
              refine wp_region_kept_tail 15 (wa) (by kernel_rfl) (by kernel_rfl) (Keeps.refl _) ?_
              simp only [List.take_succ_cons, List.take_zero, List.drop_succ_cons, List.drop_zero]
              repeat (first | go_big_quiet_skip | (go_big_quiet_want; go_big_quiet_op; first | go_big_quiet_on | go_big_quiet_call ((go_at_call 42; first | (with_reducible exact KQ.out _)))))
              refine wpQuiet_nil ?_
              rintro w' ⟨k9, rfl⟩
              have hq1 := k9.keeps
              generalize k9.w = wk1 at hq1 ⊢
              clear k9
              clear z0 z1 z2 z3 KQ
              have hkr1 := (hkra).trans hq1
              have hkw1 := (hkwa).trans hq1
              have how1 := row_keep (howa) hq1
              obtain ⟨_, _, e1, hP1⟩ := Pts.of_own (how1) rfl hTok.out
              cases e1
              have KA1 := Lib.hid (raddp_any _ _ _ T0 pl _ hP1 (by have := hTj; omega))
              unfold ptA at KA1
              clear hP1
              go_upto_region 17 with (go_at_call 41; (with_reducible refine KA1.out.mono ?_); rintro e wm1 ⟨A11, c11, rfl, ho1, hn1⟩; replace ho1 := Lib.hid ho1)
              have how101 := own_base ho1.out (show w.heap.size + 2 ≤ wk1.heap.size by have := (hkw1).size; simp at this; omega)
              have z0 := fun k : KW wm1 => (D0.out _ (((hkr1).trans hn1).trans k.keeps)).1
              have z1 := fun k : KW wm1 => (D0.out _ (((hkr1).trans hn1).trans k.keeps)).2
              have z2 := fun k : KW wm1 => (D1.out _ (((hkr1).trans hn1).trans k.keeps)).1
              have z3 := fun k : KW wm1 => (D1.out _ (((hkr1).trans hn1).trans k.keeps)).2
              have KQ := Lib.hid (fun k : KW wm1 => keepq (K2.out k.w))
              go_upto_region 17 with fail
              refine wp_region_kept_tail 15 (wm1) (by kernel_rfl) (by kernel_rfl) (Keeps.refl _) ?_
              simp only [List.take_succ_cons, List.take_zero, List.drop_succ_cons, List.drop_zero]
              repeat (first | go_big_quiet_skip | (go_big_quiet_want; go_big_quiet_op; first | go_big_quiet_on | go_big_quiet_call ((go_at_call 42; first | (with_reducible exact KQ.out _)))))
              refine wpQuiet_nil ?_
              rintro w' ⟨k9, rfl⟩
              have hq2 := k9.keeps
              generalize k9.w = wk2 at hq2 ⊢
              clear k9
              clear z0 z1 z2 z3 KQ
              have hkr2 := ((hkr1).trans hn1).trans hq2
              have hkw2 := ((hkw1).trans hn1).trans hq2
              have how2 := row_keep (how101) hq2
              obtain ⟨_, _, e2, hP2⟩ := Pts.of_own (how2) rfl (addR_ok hTok.out k1.out)
              cases e2
              have KA2 := Lib.hid (raddp_any _ _ _ (addR T0 pl) ph _ hP2 (by have := Nat.le_trans (addR_len T0 pl) (Nat.succ_le_succ (hTj)); omega))
              unfold ptA at KA2
              clear hP2
              go_wp2_with (go_at_call 41; (with_reducible refine KA2.out.mono ?_); rintro e wm2 ⟨A12, c12, rfl, ho2, hn2⟩; replace ho2 := Lib.hid ho2)
              have how102 := own_base ho2.out (show w.heap.size + 2 ≤ wk2.heap.size by have := (hkw2).size; simp at this; omega)
              go_roundw
              case rel => exact ⟨j + 1, A12, c12, by omega, by go_num, by rw [hT.out], by rw [hG1.out, hT1.out], by rw [hG1.out, hT1.out]; exact how102, (hkw2).trans hn2, (hkr2).trans hn2⟩
              case measure => simp [intOf]; omega
            · skip
              have hT1 := Lib.hid (show T1 = addR T0 pl by rw [hTT.out, if_neg (show ¬ (lv < hi ∧ hi ≤ lv + ls) by omega), if_neg (show ¬ (lo < lv ∧ lv < hi) by omega), if_pos (show lv ≤ lo ∧ lo < lv + ls by omega)])
              clear hTT
              have z0 := fun k : KW wa => (D0.out _ ((hkra).trans k.keeps)).1
              have z1 := fun k : KW wa => (D0.out _ ((hkra).trans k.keeps)).2
              have z2 := fun k : KW wa => (D1.out _ ((hkra).trans k.keeps)).1
              have z3 := fun k : KW wa => (D1.out _ ((hkra).trans k.keeps)).2
              have KQ := Lib.hid (fun k : KW wa => keepq (K1.out k.w))
              go_upto_region 13 with fail
              refine wp_region_kept_tail 15 (wa) (by kernel_rfl) (by kernel_rfl) (Keeps.refl _) ?_
              simp only [List.take_succ_cons, List.take_zero, List.drop_succ_cons, List.drop_zero]
              repeat (first | go_big_quiet_skip | (go_big_quiet_want; go_big_quiet_op; first | go_big_quiet_on | go_big_quiet_call ((go_at_call 42; first | (with_reducible exact KQ.out _)))))
              refine wpQuiet_nil ?_
              rintro w' ⟨k9, rfl⟩
              have hq3 := k9.keeps
              generalize k9.w = wk3 at hq3 ⊢
              clear k9
              clear z0 z1 z2 z3 KQ
              have hkr3 := (hkra).trans hq3
              have hkw3 := (hkwa).trans hq3
              have how3 := row_keep (howa) hq3
              obtain ⟨_, _, e3, hP3⟩ := Pts.of_own (how3) rfl hTok.out
              cases e3
              have KA3 := Lib.hid (raddp_any _ _ _ T0 pl _ hP3 (by have := hTj; omega))
              unfold ptA at KA3
              clear hP3
              go_wp2_with (go_at_call 41; (with_reducible refine KA3.out.mono ?_); rintro e wm3 ⟨A13, c13, rfl, ho3, hn3⟩; replace ho3 := Lib.hid ho3)
              have how103 := own_base ho3.out (show w.heap.size + 2 ≤ wk3.heap.size by have := (hkw3).size; simp at this; omega)
              go_roundw
              case rel => exact ⟨j + 1, A13, c13, by omega, by go_num, by rw [hT.out], by rw [hG1.out, hT1.out], by rw [hG1.out, hT1.out]; exact how103, (hkw3).trans hn3, (hkr3).trans hn3⟩
              case measure => simp [intOf]; omega
          · have h3 : ¬ hi ≤ lv + ls := by omega
            have hT1 := Lib.hid (show T1 = T0 by rw [hTT.out, if_neg (show ¬ (lv < hi ∧ hi ≤ lv + ls) by omega), if_neg (show ¬ (lo < lv ∧ lv < hi) by omega), if_neg (show ¬ (lv ≤ lo ∧ lo < lv + ls) by omega)])
            clear hTT
            go_wp2_with fail
            go_roundw
            case rel => exact ⟨j + 1, A9, c9, by omega, by go_num, by rw [hT.out], by rw [hG1.out, hT1.out], by rw [hG1.out, hT1.out]; exact howa, hkwa, hkra⟩
            case measure => simp [intOf]; omega
        · have f1 : lo < lv := by omega
          by_cases h2 : lv < hi
          · by_cases h3 : hi ≤ lv + ls
            · skip
              have hT1 := Lib.hid (show T1 = addR (addR T0 pa) ph by rw [hTT.out, if_pos (show lv < hi ∧ hi ≤ lv + ls by omega), if_pos (show lo < lv ∧ lv < hi by omega), if_neg (show ¬ (lv ≤ lo ∧ lo < lv + ls) by omega)])
              clear hTT
              obtain ⟨c0, c1⟩ := D0.out _ (hkra)
              obtain ⟨_, _, e4, hP4⟩ := Pts.of_own (howa) rfl hTok.out
              cases e4
              have KA4 := Lib.hid (raddp_any _ _ _ T0 pa _ hP4 (by have := hTj; omega))
              unfold ptA at KA4
              clear hP4
              go_upto_region 17 with (go_at_call 41; (with_reducible refine KA4.out.mono ?_); rintro e wm4 ⟨A14, c14, rfl, ho4, hn4⟩; replace ho4 := Lib.hid ho4)
              have how104 := own_base ho4.out (show w.heap.size + 2 ≤ wa.heap.size by have := (hkwa).size; simp at this; omega)
              have z0 := fun k : KW wm4 => (D0.out _ (((hkra).trans hn4).trans k.keeps)).1
              have z1 := fun k : KW wm4 => (D0.out _ (((hkra).trans hn4).trans k.keeps)).2
              have z2 := fun k : KW wm4 => (D1.out _ (((hkra).trans hn4).trans k.keeps)).1
              have z3 := fun k : KW wm4 => (D1.out _ (((hkra).trans hn4).trans k.keeps)).2
              have KQ := Lib.hid (fun k : KW wm4 => keepq (K2.out k.w))
              go_upto_region 17 with fail
              refine wp_region_kept_tail 15 (wm4) (by kernel_rfl) (by kernel_rfl) (Keeps.refl _) ?_
              simp only [List.take_succ_cons, List.take_zero, List.drop_succ_cons, List.drop_zero]
              repeat (first | go_big_quiet_skip | (go_big_quiet_want; go_big_quiet_op; first | go_big_quiet_on | go_big_quiet_call ((go_at_call 42; first | (with_reducible exact KQ.out _)))))
              refine wpQuiet_nil ?_
              rintro w' ⟨k9, rfl⟩
              have hq5 := k9.keeps
              generalize k9.w = wk5 at hq5 ⊢
              clear k9
              clear z0 z1 z2 z3 KQ
              have hkr5 := ((hkra).trans hn4).trans hq5
              have hkw5 := ((hkwa).trans hn4).trans hq5
              have how5 := row_keep (how104) hq5
              obtain ⟨_, _, e5, hP5⟩ := Pts.of_own (how5) rfl (addR_ok hTok.out kp.out)
              cases e5
              have KA5 := Lib.hid (raddp_any _ _ _ (addR T0 pa) ph _ hP5 (by have := Nat.le_trans (addR_len T0 pa) (Nat.succ_le_succ (hTj)); omega))
              unfold ptA at KA5
              clear hP5
              go_wp2_with (go_at_call 41; (with_reducible refine KA5.out.mono ?_); rintro e wm5 ⟨A15, c15, rfl, ho5, hn5⟩; replace ho5 := Lib.hid ho5)
              have how105 := own_base ho5.out (show w.heap.size + 2 ≤ wk5.heap.size by have := (hkw5).size; simp at this; omega)
              go_roundw
              case rel => exact ⟨j + 1, A15, c15, by omega, by go_num, by rw [hT.out], by rw [hG1.out, hT1.out], by rw [hG1.out, hT1.out]; exact how105, (hkw5).trans hn5, (hkr5).trans hn5⟩
              case measure => simp [intOf]; omega
            · skip
              have hT1 := Lib.hid (show T1 = addR T0 pa by rw [hTT.out, if_neg (show ¬ (lv < hi ∧ hi ≤ lv + ls) by omega), if_pos (show lo < lv ∧ lv < hi by omega), if_neg (show ¬ (lv ≤ lo ∧ lo < lv + ls) by omega)])
              clear hTT
              obtain ⟨c0, c1⟩ := D0.out _ (hkra)
              obtain ⟨_, _, e6, hP6⟩ := Pts.of_own (howa) rfl hTok.out
              cases e6
              have KA6 := Lib.hid (raddp_any _ _ _ T0 pa _ hP6 (by have := hTj; omega))
              unfold ptA at KA6
              clear hP6
              go_wp2_with (go_at_call 41; (with_reducible refine KA6.out.mono ?_); rintro e wm6 ⟨A16, c16, rfl, ho6, hn6⟩; replace ho6 := Lib.hid ho6)
              have how106 := own_base ho6.out (show w.heap.size + 2 ≤ wa.heap.size by have := (hkwa).size; simp at this; omega)
              go_roundw
              case rel => exact ⟨j + 1, A16, c16, by omega, by go_num, by rw [hT.out], by rw [hG1.out, hT1.out], by rw [hG1.out, hT1.out]; exact how106, (hkwa).trans hn6, (hkra).trans hn6⟩
              case measure => simp [intOf]; omega
          · skip
            have hT1 := Lib.hid (show T1 = T0 by rw [hTT.out, if_neg (show ¬ (lv < hi ∧ hi ≤ lv + ls) by omega), if_neg (show ¬ (lo < lv ∧ lv < hi) by omega), if_neg (show ¬ (lv ≤ lo ∧ lo < lv + ls) by omega)])
            clear hTT
            go_wp2_with fail
            go_roundw
            case rel => exact ⟨j + 1, A9, c9, by omega, by go_num, by rw [hT.out], by rw [hG1.out, hT1.out], by rw [hG1.out, hT1.out]; exact howa, hkwa, hkra⟩
            case measure => simp [intOf]; omega
      · obtain rfl : j = S.length := by omega
        obtain ⟨y0, y1, y2, y3, y4, y5, y6, y7⟩ := HS.out _ hkw
        have h1i : ¬ ((S.length : Int) + 1 < Q.length) := by omega
        rw [← hRR.out] at hown
        rw [← hRR.out]
        go_wp2_with fail
        have hsz := hkw.size
        have hsw : w.heap.size + 2 ≤ wr.heap.size := by simpa using hsz
        refine bodyPost_ret (v := .agg #[.slice A9 R.length c9, .bool false]) (by simp [results, Try.results23, go_sem, *]) rfl ⟨A9, c9, rfl, ?_, ?_⟩
        · exact own_base (row_far (row_far hown (by omega)) (by omega)) (by omega)
        · exact ((HB.out.trans hkw).setNew (by dsimp only; omega) _).setNew (by dsimp only; omega) _
end

section
open Go.RowKit Go.Shelf
set_option linter.unusedVariables false
set_option linter.unusedSimpArgs false
theorem subV_ok (cl : Bool) {L : List Pt} (h : ∀ p ∈ L, okP p) (f t : Int) : ∀ p ∈ subV cl L f t, okP p := by
  unfold subV
  split
  · intro p hp; simp at hp
  · exact cutL_ok _ _ (dedC_ok cl L h) _ _
/-- A polyline that is not closed, read as points. -/
def RetPp (w : World) (R : List Pt) (e : Ending) (w' : World) : Prop := ∃ A c, e = .returned (.agg #[.slice A R.length c, .bool false]) ∧ Pts w' A R.length c R ∧ Keeps w w'
theorem RetPo.pts {w w' : World} {R : List Pt} {e : Ending} (h : RetPo w R e w') (ho : ∀ p ∈ R, okP p) : RetPp w R e w' := by
  obtain ⟨A, c, rfl, h2, h3⟩ := h
  obtain ⟨A', c', e1, hP⟩ := Pts.of_own h2 rfl ho
  cases e1
  exact ⟨A, c, rfl, hP, h3⟩
theorem sublP_any (cl : Bool) (A : Option Addr) (n c : Nat) (L : List Pt) (f t : Int) (w : World) (h : Pts w A n c L) (hn : n ≤ 4096) :
    Calls Try.prog 22 #[.agg #[.slice A n c, .bool cl], .int .i64 f, .int .i64 t] w (RetPp w (subV cl L f t)) := (subl_any cl A n c L f t w h hn).mono fun _ _ hr => hr.pts (subV_ok cl h.2.2.2.1 f t)
theorem rsublP_any (cl : Bool) (A : Option Addr) (n c : Nat) (L : List Pt) (f t : Int) (w : World) (h : Pts w A n c L) (hn : n ≤ 4096) :
    Calls Try.prog 23 #[.agg #[.slice A n c, .bool cl], .int .i64 f, .int .i64 t] w (RetPp w (subV cl L f t)) := (rsubl_any cl A n c L f t w h hn).mono fun _ _ hr => hr.pts (subV_ok cl h.2.2.2.1 f t)
theorem pls_at {w : World} {H : Nat} {A : Option Addr} {n c : Nat} {R : List Pt} (c0 : w.cell? ⟨H, 0, none⟩ = some (.slice A n c)) (c1 : w.cell? ⟨H, 1, none⟩ = some (.bool false)) (hP : Pts w A n c R) (hH : H < w.heap.size) : Pls w (some ⟨H, 0, none⟩) 1 1 [(false, R)] := by
  refine ⟨rfl, by omega, by unfold maxLen; omega, fun _ => ⟨H, 0, rfl, hH, fun k hk => ?_⟩⟩
  obtain rfl : k = 0 := by omega
  exact ⟨A, n, c, c0, c1, hP⟩
theorem pls_new {X Y : World} {A : Option Addr} {n c : Nat} {R : List Pt} (hk : Keeps (X.alloc (.cells #[.slice A n c, .bool false] 24)) Y) (hP : Pts Y A n c R) : Pls Y (some ⟨X.heap.size, 0, none⟩) 1 1 [(false, R)] := by
  have hH : X.heap.size < (X.alloc (.cells #[.slice A n c, .bool false] 24)).heap.size := by simp
  refine pls_at ((hk.cell (p := ⟨X.heap.size, 0, none⟩) hH).trans ?_) ((hk.cell (p := ⟨X.heap.size, 1, none⟩) hH).trans ?_) hP (Nat.lt_of_lt_of_le hH hk.size)
  · exact poly_new X (.slice A n c) (.bool false) 24 X.heap.size rfl 0 (.slice A n c) rfl
  · exact poly_new X (.slice A n c) (.bool false) 24 X.heap.size rfl 1 (.bool false) rfl
theorem pls_new2 {X Y : World} {o : Obj} {A : Option Addr} {n c : Nat} {R : List Pt} (hk : Keeps ((X.alloc o).alloc (.cells #[.slice A n c, .bool false] 24)) Y) (hP : Pts Y A n c R) : Pls Y (some ⟨X.heap.size + 1, 0, none⟩) 1 1 [(false, R)] := by
  have := pls_new hk hP
  rwa [World.size_alloc] at this
end
end Go.Proofs.Ytihmhpleiefodaa
