/- Contracts of reference 25: right, line, piece, Length. -/
import Derived.Test.YtihmhpleiefodaaDj
import Derived.Test.YtihmhpleiefodaaDe
namespace Go.Proofs.Ytihmhpleiefodaa
open Go.RowKit Go.Shelf
attribute [local go_sem ↓] Go.wp_at_zero Go.wp_at_succ
set_option linter.unusedVariables false
set_option linter.unusedSimpArgs false
set_option maxRecDepth 100000 in
set_option maxHeartbeats 2000000 in
theorem rright_any (A : Option Addr) (n c : Nat) (L : List Pt) (w : World) (h : Pts w A n c L) :
    Calls Try.prog 29 #[.slice A n c] w fun e w' => e = .returned (.bool (L.all vP)) ∧ Keeps w w' := by
  have hl := h.1
  have hmx := h.max
  have HI := Lib.hid h
  clear h
  go_enter Try.func29, Try.ntmps29
  go_wp2_with fail
  go_loopw [3] (fun i wr => ∃ j : Nat, j ≤ n ∧ i = .int .i64 j ∧ Hid ((L.take j).all vP = true) ∧ Keeps w wr) (fun i _ => n - (intOf i).toNat)
  case atStart => exact ⟨0, by omega, rfl, Lib.hid rfl, Keeps.refl _⟩
  case round =>
    obtain ⟨j, hj, rfl, hR, hkw⟩ := hrel
    by_cases hlt : j < n
    · obtain ⟨b, o, rfl, hb, hx⟩ := HI.out.2.2.2.2 (by omega)
      obtain ⟨c0, c1⟩ := (hx j hlt).keep hb hkw
      have hlt2 : (j : Int) < n := by omega
      have hA := Lib.hid (fun hq => all_take hR.out (by omega : j < L.length) hq)
      have hN := Lib.hid (fun (hq : vP (L.getD j pt0) = false) => (show L.all vP = false by
        rw [List.all_eq_false]
        refine ⟨L.getD j pt0, ?_, by rw [hq]; simp⟩
        rw [List.getD_eq_getElem?_getD, List.getElem?_eq_getElem (by omega)]
        exact List.getElem_mem _))
      clear hx
      generalize L.getD j pt0 = p at *
      have KV := Lib.hid (rvalid_any p.1 p.2)
      cases hp : vP p with
      | false =>
        rw [show validB p.1 p.2 = false from hp] at KV
        have hN2 := Lib.hid (hN.out hp)
        clear hp
        go_wp2_with (go_at_call 47; (with_reducible refine (KV.out _).mono ?_); rintro e w1 ⟨rfl, hk⟩)
        go_ret
        exact ⟨ret_bool hN2.out.symm, hkw.trans hk⟩
      | true =>
        rw [show validB p.1 p.2 = true from hp] at KV
        go_wp2_with (go_at_call 47; (with_reducible refine (KV.out _).mono ?_); rintro e w1 ⟨rfl, hk⟩)
        go_roundw
        case rel => exact ⟨j + 1, by omega, by go_num, Lib.hid (hA.out hp), hkw.trans hk⟩
        case measure => simp [intOf]; omega
    · obtain rfl : j = n := by omega
      have h1 := hR.out
      rw [← hl, List.take_length] at h1
      replace h1 := Lib.hid h1
      go_wp2_with fail
      go_ret
      exact ⟨ret_bool h1.out.symm, hkw⟩
set_option maxHeartbeats 1000000 in
theorem rpiece_any (a b : Pt) (w : World) :
    Calls Try.prog 30 #[ptA a, ptA b] w fun e w' => e = .returned (.int .i64 (lenS (a, b))) ∧ Keeps w w' := by
  have K1 := Lib.hid (rsub_any b.1 b.2 a.1 a.2)
  have K2 := Lib.hid (fun w' => (show Calls Try.prog 48 #[.agg #[.int .i64 (subc b.1 a.1), .int .i64 (subc b.2 a.2)]] w' fun e w'' => e = .returned (.int .i64 (lenS (a, b))) ∧ Keeps w' w'' from rlength_any _ _ w'))
  have HS := Lib.hid (show ∀ w', Keeps ((w.alloc (.cells #[.int .i64 a.1, .int .i64 a.2] 50)).alloc (.cells #[.int .i64 b.1, .int .i64 b.2] 50)) w' → w'.cell? ⟨w.heap.size, 0, none⟩ = some (.int .i64 a.1) ∧ w'.frozen? ⟨w.heap.size, 0, none⟩ = false ∧ w'.cell? ⟨w.heap.size, 1, none⟩ = some (.int .i64 a.2) ∧ w'.frozen? ⟨w.heap.size, 1, none⟩ = false ∧ w'.cell? ⟨w.heap.size + 1, 0, none⟩ = some (.int .i64 b.1) ∧ w'.frozen? ⟨w.heap.size + 1, 0, none⟩ = false ∧ w'.cell? ⟨w.heap.size + 1, 1, none⟩ = some (.int .i64 b.2) ∧ w'.frozen? ⟨w.heap.size + 1, 1, none⟩ = false from fun w' hk => ⟨(hk.cell (p := ⟨w.heap.size, 0, none⟩) (by first | (simp; done) | (simp; omega))).trans (by simp [go_sem]), (hk.frozen (p := ⟨w.heap.size, 0, none⟩) (by first | (simp; done) | (simp; omega))).trans (by simp [go_sem]), (hk.cell (p := ⟨w.heap.size, 1, none⟩) (by first | (simp; done) | (simp; omega))).trans (by simp [go_sem]), (hk.frozen (p := ⟨w.heap.size, 1, none⟩) (by first | (simp; done) | (simp; omega))).trans (by simp [go_sem]), (hk.cell (p := ⟨w.heap.size + 1, 0, none⟩) (by first | (simp; done) | (simp; omega))).trans (by simp [go_sem]), (hk.frozen (p := ⟨w.heap.size + 1, 0, none⟩) (by first | (simp; done) | (simp; omega))).trans (by simp [go_sem]), (hk.cell (p := ⟨w.heap.size + 1, 1, none⟩) (by first | (simp; done) | (simp; omega))).trans (by simp [go_sem]), (hk.frozen (p := ⟨w.heap.size + 1, 1, none⟩) (by first | (simp; done) | (simp; omega))).trans (by simp [go_sem])⟩)
  have HB := Lib.hid (show Keeps w ((w.alloc (.cells #[.int .i64 a.1, .int .i64 a.2] 50)).alloc (.cells #[.int .i64 b.1, .int .i64 b.2] 50)) from (by (repeat (first | (with_reducible exact Keeps.refl _) | (with_reducible assumption) | (with_reducible refine Keeps.drewN ?_ _) | (with_reducible refine Keeps.drew ?_) | (with_reducible refine Keeps.alloc ?_ _) | (with_reducible refine Keeps.setNew ?_ ?_ _))) <;> (dsimp only; omega)))
  have hk0 := Keeps.refl ((w.alloc (.cells #[.int .i64 a.1, .int .i64 a.2] 50)).alloc (.cells #[.int .i64 b.1, .int .i64 b.2] 50))
  unfold ptA
  go_enter Try.func30, Try.ntmps30
  obtain ⟨y0, y1, y2, y3, y4, y5, y6, y7⟩ := HS.out _ hk0
  go_wp2_with (first | (go_at_call 49; (with_reducible refine (K1.out _).mono ?_); rintro e w1 ⟨rfl, hk1⟩) | (go_at_call 48; (with_reducible refine (K2.out _).mono ?_); rintro e w2 ⟨rfl, hk2⟩))
  go_ret
  exact ⟨rfl, (HB.out.trans hk1).trans hk2⟩
/-- The points of a polyline, the first one again at the end where it is closed. -/
def lineL (cl : Bool) (M : List Pt) : List Pt := if cl = true ∧ 2 ≤ M.length then M ++ [M.getD 0 pt0] else M
theorem lineL_len (cl : Bool) (M : List Pt) : (lineL cl M).length = if M.length ≤ 1 then M.length else segN cl M.length + 1 := by
  unfold lineL segN
  cases cl <;> (split <;> split <;> simp_all <;> omega)
theorem lineL_get {cl : Bool} {M : List Pt} {k : Nat} (h : k < (segs cl M).length) : (lineL cl M).getD k pt0 = ((segs cl M).getD k sg0).1 ∧ (lineL cl M).getD (k + 1) pt0 = ((segs cl M).getD k sg0).2 := by
  rw [segs_get cl M k h]
  unfold segs at h
  rw [upS_len] at h
  unfold seg
  dsimp only
  unfold segN at h
  unfold lineL
  split at h
  · omega
  · rename_i h1
    split at h
    · rename_i hc
      rw [if_pos ⟨hc, by omega⟩]
      refine ⟨getD_left _ _ _ h, ?_⟩
      by_cases e : k + 1 = M.length
      · rw [e, Nat.mod_self, getD_snoc]
      · rw [Nat.mod_eq_of_lt (by omega), getD_left _ _ _ (by omega)]
    · rename_i hc
      rw [if_neg (fun hh => hc hh.1)]
      exact ⟨rfl, by rw [Nat.mod_eq_of_lt (by omega)]⟩
theorem lineL_segs {cl : Bool} {M : List Pt} (h : 1 ≤ (lineL cl M).length) : (lineL cl M).length = (segs cl M).length + 1 := by
  rw [lineL_len] at *
  unfold segs
  rw [upS_len]
  unfold segN at *
  split <;> (try split) <;> simp_all <;> omega
theorem lineL_ok {cl : Bool} {M : List Pt} (h : ∀ p ∈ M, okP p) : ∀ p ∈ lineL cl M, okP p := by
  unfold lineL
  split
  · intro p hp
    rcases List.mem_append.1 hp with hp | hp
    · exact h p hp
    · rw [List.mem_singleton.1 hp]; exact okL M h 0
  · exact h
set_option maxRecDepth 100000 in
set_option maxHeartbeats 2000000 in
theorem rline_any (cl : Bool) (A : Option Addr) (n c : Nat) (L : List Pt) (w : World) (h : Pts w A n c L) (hn : n ≤ 1000000) :
    Calls Try.prog 28 #[.agg #[.slice A n c, .bool cl]] w (RetO w (lineL cl (dedC cl L))) := by
  obtain ⟨i0, hi, hz0, hz1, hz2⟩ := info_parts pt_info
  have hl := h.1
  have HS := Lib.hid (show ∀ w', Keeps (w.alloc (.cells #[.slice A n c, .bool cl] 24)) w' → w'.cell? ⟨w.heap.size, 0, none⟩ = some (.slice A n c) ∧ w'.frozen? ⟨w.heap.size, 0, none⟩ = false ∧ w'.cell? ⟨w.heap.size, 1, none⟩ = some (.bool cl) ∧ w'.frozen? ⟨w.heap.size, 1, none⟩ = false from fun w' hk => ⟨(hk.cell (p := ⟨w.heap.size, 0, none⟩) (by first | (simp; done) | (simp; omega))).trans (by simp [go_sem]), (hk.frozen (p := ⟨w.heap.size, 0, none⟩) (by first | (simp; done) | (simp; omega))).trans (by simp [go_sem]), (hk.cell (p := ⟨w.heap.size, 1, none⟩) (by first | (simp; done) | (simp; omega))).trans (by simp [go_sem]), (hk.frozen (p := ⟨w.heap.size, 1, none⟩) (by first | (simp; done) | (simp; omega))).trans (by simp [go_sem])⟩)
  have HB := Lib.hid (show Keeps w (w.alloc (.cells #[.slice A n c, .bool cl] 24)) from (by (repeat (first | (with_reducible exact Keeps.refl _) | (with_reducible assumption) | (with_reducible refine Keeps.drewN ?_ _) | (with_reducible refine Keeps.drew ?_) | (with_reducible refine Keeps.alloc ?_ _) | (with_reducible refine Keeps.setNew ?_ ?_ _))) <;> (dsimp only; omega)))
  have hk0 := Keeps.refl (w.alloc (.cells #[.slice A n c, .bool cl] 24))
  have KD := Lib.hid (fun w' (hk : Keeps w w') => rdedup_any cl A n c L w' (h.keep hk) hn)
  have hnu := dedC_len cl L
  have hLL := Lib.hid (fun (h2 : cl = true ∧ 2 ≤ (dedC cl L).length) => (show lineL cl (dedC cl L) = dedC cl L ++ [(dedC cl L).getD 0 pt0] from if_pos h2))
  have hLN := Lib.hid (fun (h2 : ¬ (cl = true ∧ 2 ≤ (dedC cl L).length)) => (show lineL cl (dedC cl L) = dedC cl L from if_neg h2))
  clear h
  generalize lineL cl (dedC cl L) = R at *
  generalize dedC cl L = M at *
  go_enter Try.func28, Try.ntmps28
  obtain ⟨y0, y1, y2, y3⟩ := HS.out _ hk0
  go_wp2_with (go_at_call 24; (with_reducible refine (KD.out _ HB.out).mono ?_); rintro e w1 ⟨A1, c1, rfl, hP1, hk1, ho1⟩; replace hP1 := Lib.hid hP1)
  have bx3 := (BoxN.new w1 24 #[.slice A1 M.length c1, .bool cl]).alloc (.cells #[] 50)
  have hkA := ((HB.out.trans hk1).alloc (.cells #[.slice A1 M.length c1, .bool cl] 24)).alloc (.cells #[] 50)
  have hP2 := hP1.out.keep (((Keeps.refl w1).alloc (.cells #[.slice A1 M.length c1, .bool cl] 24)).alloc (.cells #[] 50))
  have hws := (HB.out.trans hk1).size
  have hr0 : ((w1.alloc (.cells #[.slice A1 M.length c1, .bool cl] 24)).alloc (.cells #[] 50)).ownsRow (w1.heap.size + 1) 50 2 (.slice (some ⟨w1.heap.size + 1, 0, none⟩) 0 0) 0 (rowP []) := by
    have := (World.ownsRow_lit (base := w1.heap.size + 1) (e := 50) (size := 2) (w1.alloc (.cells #[.slice A1 M.length c1, .bool cl] 24)) #[] 0 (by simp) (by unfold maxLen; omega) (by simp))
    rw [World.size_alloc] at this
    exact this
  clear y0 y1 y2 y3 KD HS hk0 ho1 hk1
  generalize hW2 : ((w1.alloc (.cells #[.slice A1 M.length c1, .bool cl] 24)).alloc (.cells #[] 50)) = W2 at *
  have hs2 : W2.heap.size = w1.heap.size + 2 := by rw [← hW2]; simp
  clear hW2
  have hP1s : 0 < M.length → ∃ b o, A1 = some ⟨b, o, none⟩ ∧ b < w1.heap.size ∧ True := fun h0 => by obtain ⟨b, o, e, hb, _⟩ := hP1.out.2.2.2.2 h0; exact ⟨b, o, e, hb, trivial⟩
  clear hP1
  generalize w1.heap.size = B at *
  replace hP2 := Lib.hid hP2
  have hP1B : 0 < M.length → ∀ b o, A1 = some ⟨b, o, none⟩ → b < B + 1 ∧ b ∉ ([] : List Nat) := fun h0 b o e => by
    obtain ⟨b', o', e', hb', _⟩ := hP1s h0
    rw [e] at e'; cases e'
    exact ⟨by omega, by simp⟩
  have hws9 : B + 2 = W2.heap.size := hs2.symm
  clear hP1s
  go_loopw [4, 5] (fun v i wr => ∃ j : Nat, j ≤ M.length ∧ i = .int .i64 j ∧ wr.ownsRow (B + 1) 50 2 v j (rowP (M.take j)) ∧ Keeps w wr ∧ KpX (B + 1) [] W2 wr) (fun _ i _ => M.length - (intOf i).toNat)
  case atStart => exact ⟨0, by omega, rfl, hr0, hkA, KpX.refl _ _ _⟩
  case round =>
    obtain ⟨j, hj, rfl, hown, hkw, hX⟩ := hrel
    have hws2 : B + 1 ≤ wr.heap.size := by have := hX.1; omega
    have bx : BoxN wr B 24 #[.slice A1 M.length c1, .bool cl] := (hX.2 B (by omega) (by simp)).trans bx3
    have x0 : wr.cell? ⟨B, 0, none⟩ = some (.slice A1 M.length c1) := (bx.cell 0).trans rfl
    have x1 : wr.cell? ⟨B, 1, none⟩ = some (.bool cl) := (bx.cell 1).trans rfl
    have hPw := hX.pts hP2.out hP1B
    by_cases hlt : j < M.length
    · obtain ⟨b, o, rfl, hb, hx⟩ := hPw.2.2.2.2 (by omega)
      obtain ⟨c0, c1'⟩ := hx j hlt
      have hT := Lib.hid (takeP_succ M j (by omega))
      have hlt2 : (j : Int) < M.length := by omega
      clear hx hPw
      generalize M.getD j pt0 = p at *
      go_wp2_with (at_builtin; refine wpList_append_own _ rfl _ _ 22 rfl (B + 1) 50 i0 (.agg #[.int .i64 0, .int .i64 0]) 2 16 Try.underlying22 hi hz0 hz1 hz2 rfl (by decide) _ _ _ rfl (row_keep hown ((Keeps.refl wr).alloc _)) ⟨wr.heap.size, 0, none⟩ 1 1 (ptV p) rfl rfl (two_newA wr p _ _ rfl) (oneCell_ptV _) (by unfold maxLen; omega) (by omega) (by simp; omega) ?_; intro v1 w4 hown1 hgrow1 hz9; clear hz9; rw [← rowP_one, ← rowP_append] at hown1)
      have hra := row_keep hown ((Keeps.refl wr).alloc (.cells #[.int .i64 p.1, .int .i64 p.2] 50))
      have hX4 : KpX (B + 1) [] W2 w4 := (hX.trans (KpX.of ((Keeps.refl _).alloc _) hws2)).trans (KpX.grown hgrow1 (by simp; omega) (fun k e => .inr (row_base hra k e)))
      have hk4 : Keeps w w4 := Below.grown (hkw.alloc _) hgrow1 (by have := hkw.size; simp; omega) (fun k e => by have := row_base hra k e; omega)
      go_roundw
      case rel => exact ⟨j + 1, by omega, by go_num, by rw [hT.out]; exact hown1, hk4, hX4⟩
      case measure => simp [intOf]; omega
    · obtain ⟨hj9⟩ : Nonempty (j = M.length) := ⟨by omega⟩
      subst hj9
      rw [List.take_of_length_le (Nat.le_refl _)] at hown
      by_cases hc : cl = true ∧ 2 ≤ M.length
      · have hRR := Lib.hid (hLL.out hc)
        obtain ⟨rfl, h2⟩ := hc
        obtain ⟨b, o, rfl, hb, hx⟩ := hPw.2.2.2.2 (by omega)
        obtain ⟨c0, c1'⟩ := hx 0 (by omega)
        rw [Nat.zero_mul, Nat.add_zero] at c0 c1'
        have h2i : (2 : Int) ≤ M.length := by omega
        have h0i : (0 : Int) < M.length := by omega
        clear hx hPw
        generalize M.getD 0 pt0 = p at *
        go_wp2_with (at_builtin; refine wpList_append_own _ rfl _ _ 22 rfl (B + 1) 50 i0 (.agg #[.int .i64 0, .int .i64 0]) 2 16 Try.underlying22 hi hz0 hz1 hz2 rfl (by decide) _ _ _ rfl (row_keep hown ((Keeps.refl wr).alloc _)) ⟨wr.heap.size, 0, none⟩ 1 1 (ptV p) rfl rfl (two_newA wr p _ _ rfl) (oneCell_ptV _) (by unfold maxLen; omega) (by omega) (by simp; omega) ?_; intro v1 w4 hown1 hgrow1 hz9; clear hz9; rw [← rowP_one, ← rowP_append] at hown1)
        have hra := row_keep hown ((Keeps.refl wr).alloc (.cells #[.int .i64 p.1, .int .i64 p.2] 50))
        have hX4 : KpX (B + 1) [] W2 w4 := (hX.trans (KpX.of ((Keeps.refl _).alloc _) hws2)).trans (KpX.grown hgrow1 (by simp; omega) (fun k e => .inr (row_base hra k e)))
        have hk4 : Keeps w w4 := Below.grown (hkw.alloc _) hgrow1 (by have := hkw.size; simp; omega) (fun k e => by have := row_base hra k e; omega)
        go_ret
        obtain ⟨A9, c9, rfl⟩ := own_len hown1
        rw [hRR.out]
        exact ⟨A9, c9, by rw [List.length_append]; rfl, by rw [List.length_append]; exact own_base hown1 (by have := hws; omega), hk4⟩
      · have hRR := Lib.hid (hLN.out hc)
        obtain ⟨A9, c9, rfl⟩ := own_len hown
        by_cases hcl : cl = true
        · subst hcl
          have h2i : ¬ (2 : Int) ≤ M.length := fun h => hc ⟨rfl, by omega⟩
          go_wp2_with fail
          go_ret
          rw [hRR.out]
          exact ⟨A9, c9, rfl, own_base hown (by omega), hkw⟩
        · obtain rfl : cl = false := by simpa using hcl
          go_wp2_with fail
          go_ret
          rw [hRR.out]
          exact ⟨A9, c9, rfl, own_base hown (by omega), hkw⟩
end Go.Proofs.Ytihmhpleiefodaa
