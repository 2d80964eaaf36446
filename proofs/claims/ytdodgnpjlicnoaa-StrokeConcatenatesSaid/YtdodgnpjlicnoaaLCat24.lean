/- StrokeConcatenates of grisaillelaw24 returns true for all its arguments; no condition. -/
import Derived.Test.YtdodgnpjlicnoaaOz
import Derived.Test.YtdodgnpjlicnoaaOp
import Derived.Test.YtdodgnpjlicnoaaKq
namespace Go.Proofs.Ytdodgnpjlicnoaa.strokeConcatenates
open Go.RowKit Go.ChangeShapes Go.WideShapes Go.ChangeAt
set_option linter.unusedVariables false
open Go.Proofs.Ytdodgnpjlicnoaa
attribute [local go_sem ↓] Go.wp_at_zero Go.wp_at_succ
set_option linter.unusedSimpArgs false
def sumS (PL : List (Bool × List Pt)) : Nat := (PL.map fun p => min p.2.length 1000).sum
def smB (PL : List (Bool × List Pt)) : Bool := decide (PL.length ≤ 200) && decide (sumS PL ≤ 400)
theorem sum_take (PL : List (Bool × List Pt)) (k : Nat) (h : k < PL.length) : sumS (PL.take (k + 1)) = sumS (PL.take k) + min (PL.getD k pl0).2.length 1000 := by
  have e : PL.take (k + 1) = PL.take k ++ [PL.getD k pl0] := by
    rw [List.take_succ_eq_append_getElem h, List.getD_eq_getElem?_getD, List.getElem?_eq_getElem h]; rfl
  rw [e]; unfold sumS; simp
theorem sum_le : ∀ (PL : List (Bool × List Pt)), sumS PL ≤ PL.length * 1000
  | [] => Nat.le_refl _
  | p :: r => by
    have := sum_le r
    unfold sumS at this ⊢
    rw [List.map_cons, List.sum_cons, List.length_cons]; omega
theorem sum_mem : ∀ {PL : List (Bool × List Pt)} {p : Bool × List Pt}, p ∈ PL → min p.2.length 1000 ≤ sumS PL
  | q :: r, p, h => by
    unfold sumS
    rw [List.map_cons, List.sum_cons]
    rcases List.mem_cons.1 h with rfl | h
    · omega
    · have := sum_mem h; unfold sumS at this; omega
theorem smB_yes {PL : List (Bool × List Pt)} (h : smB PL = true) : PL.length ≤ 200 ∧ ∀ p ∈ PL, p.2.length ≤ 400 := by
  unfold smB at h
  simp at h
  refine ⟨h.1, fun p hp => ?_⟩
  have := sum_mem hp
  omega
set_option maxRecDepth 100000 in
set_option maxHeartbeats 2000000 in
theorem smallAll_any (A : Option Addr) (n c : Nat) (PL : List (Bool × List Pt)) (w : World) (h : Pls w A n c PL) :
    Calls Try.prog 35 #[.slice A n c] w fun e w' => e = .returned (.bool (smB PL)) ∧ Keeps w w' := by
  have hl := h.1
  have hmx : (n : Int) ≤ 9223372036854775807 := by have h1 := h.2.1; have h2 := h.2.2.1; unfold maxLen at h2; omega
  have HP := Lib.hid h
  clear h
  by_cases hn : n ≤ 200
  · have hni : (n : Int) ≤ 200 := by omega
    have hsb := Lib.hid (fun k => sum_le (PL.take k))
    obtain ⟨bx, hb⟩ : ∃ bx, Hid (bx = smB PL) := ⟨_, Lib.hid rfl⟩
    rw [← hb.out]
    go_enter Try.func35, Try.ntmps35
    go_wp2_with fail
    go_loopw [3, 7] (fun a i wr => ∃ (j x : Nat), j ≤ n ∧ i = .int .i64 j ∧ a = .int .i64 x ∧ Keeps w wr ∧ Hid (x = sumS (PL.take j))) (fun _ i _ => n - (intOf i).toNat)
    case atStart => exact ⟨0, 0, by omega, rfl, rfl, Keeps.refl _, Lib.hid rfl⟩
    case round =>
      obtain ⟨j, x, hj, rfl, rfl, hkw, hR⟩ := hrel
      have hxb : x ≤ 200000 := by
        have h1 := hsb.out j
        rw [List.length_take, ← hR.out] at h1
        exact Nat.le_trans h1 (Nat.le_trans (Nat.mul_le_mul_right 1000 (show min j PL.length ≤ 200 by omega)) (by omega))
      have hxi : (x : Int) ≤ 200000 := by omega
      by_cases hlt : j < n
      · have hlt2 : (j : Int) < n := by omega
        obtain ⟨b, o, rfl, hb0, hC⟩ := HP.out.2.2.2 (by omega)
        obtain ⟨Ak, nk, ck, e0, e1, hPk⟩ := hC j hlt
        have c0 := (hkw.cell hb0).trans e0
        have hnk := hPk.1
        have hT := Lib.hid (show x + min nk 1000 = sumS (PL.take (j + 1)) by rw [sum_take PL j (by omega), ← hR.out, hnk])
        have hnm : (nk : Int) ≤ 9223372036854775807 := by have h1 := hPk.2.1; have h2 := hPk.2.2.1; unfold maxLen at h2; omega
        have hmi : (min (nk : Int) 1000) = ((min nk 1000 : Nat) : Int) := by omega
        have hmb : ((min nk 1000 : Nat) : Int) ≤ 1000 := by omega
        clear hC e0 e1 hPk hnk
        generalize min nk 1000 = m at *
        go_wp2_with fail
        go_roundw
        case rel => exact ⟨j + 1, x + m, by omega, by go_num, by go_num, hkw, hT⟩
        case measure => simp [intOf]; omega
      · obtain rfl : j = n := by omega
        rw [List.take_of_length_le (by omega)] at hR
        by_cases h4 : x ≤ 400
        · have h4i : (x : Int) ≤ 400 := by omega
          go_wp2_with fail
          go_ret
          refine ⟨ret_bool ?_, hkw⟩
          rw [hb.out]; unfold smB; rw [← hR.out]; simp; omega
        · have h4i : ¬ (x : Int) ≤ 400 := by omega
          go_wp2_with fail
          go_ret
          refine ⟨ret_bool ?_, hkw⟩
          rw [hb.out]; unfold smB; rw [← hR.out]; simp; omega
  · have hni : ¬ (n : Int) ≤ 200 := by omega
    have hb : smB PL = false := by unfold smB; rw [hl, decide_eq_false hn]; rfl
    rw [hb]
    clear hb
    go_enter Try.func35, Try.ntmps35
    go_wp2_with fail
    go_loopw [3, 7] (fun a i wr => ∃ (j : Nat) (x : Int), j ≤ n ∧ i = .int .i64 j ∧ a = .int .i64 x ∧ Keeps w wr) (fun _ i _ => n - (intOf i).toNat)
    case atStart => exact ⟨0, 0, by omega, rfl, rfl, Keeps.refl _⟩
    case round =>
      obtain ⟨j, x, hj, rfl, rfl, hkw⟩ := hrel
      by_cases hlt : j < n
      · have hlt2 : (j : Int) < n := by omega
        obtain ⟨b, o, rfl, hb0, hC⟩ := HP.out.2.2.2 (by omega)
        obtain ⟨Ak, nk, ck, e0, e1, hPk⟩ := hC j hlt
        have c0 := (hkw.cell hb0).trans e0
        clear hC e0 e1 hPk
        go_wp2_with fail
        go_roundw
        case rel => exact ⟨j + 1, _, by omega, by go_num, rfl, hkw⟩
        case measure => simp [intOf]; omega
      · obtain rfl : j = n := by omega
        go_wp2_with fail
        go_ret
        exact ⟨rfl, hkw⟩

theorem firstE_13 {wd jn cp ml ph : Int} {D : List Int} (h : stB wd jn cp ml ph D = false) : ∀ (PL : List (Bool × List Pt)), firstE wd jn cp ml ph D PL = 13 ∨ PL = []
  | [] => Or.inr rfl
  | p :: r => by
    have e : polyE p.1 p.2 wd jn cp ml ph D = 13 := by unfold polyE; rw [if_pos h]
    left; rw [firstE, e, if_neg (by decide)]
theorem polys_first {PL : List (Bool × List Pt)} {wd jn cp ml ph : Int} {D : List Int} (h : firstE wd jn cp ml ph D PL ≠ 0) : polysE PL wd jn cp ml ph D = firstE wd jn cp ml ph D PL ∧ polysL PL wd jn cp ml ph D = [] := by
  have e : polysE PL wd jn cp ml ph D = firstE wd jn cp ml ph D PL := by
    unfold polysE
    cases hs : stB wd jn cp ml ph D with
    | false =>
      rw [if_pos rfl]
      rcases firstE_13 hs PL with h1 | h1
      · exact h1.symm
      · subst h1; exact absurd rfl h
    | true => rw [if_neg (by decide), if_pos h]
  exact ⟨e, by unfold polysL; rw [e, if_neg h]⟩
theorem polys_rest {PL : List (Bool × List Pt)} {wd jn cp ml ph : Int} {D : List Int} (h : firstE wd jn cp ml ph D PL = 0) :
    (4096 < cnt (catL wd jn cp ml ph D PL) ∧ polysE PL wd jn cp ml ph D = 5 ∧ polysL PL wd jn cp ml ph D = []) ∨
    (¬ 4096 < cnt (catL wd jn cp ml ph D PL) ∧ polysE PL wd jn cp ml ph D = 0 ∧ polysL PL wd jn cp ml ph D = catL wd jn cp ml ph D PL) ∨
    (PL = [] ∧ polysE PL wd jn cp ml ph D = 13) := by
  cases hs : stB wd jn cp ml ph D with
  | false =>
    rcases firstE_13 hs PL with h1 | h1
    · rw [h1] at h; cases h
    · right; right; exact ⟨h1, by unfold polysE; rw [hs, if_pos rfl]⟩
  | true =>
    by_cases hc : 4096 < cnt (catL wd jn cp ml ph D PL)
    · have e : polysE PL wd jn cp ml ph D = 5 := by unfold polysE; rw [hs, if_neg (by decide), if_neg (by rw [h]; decide), if_pos hc]
      left; exact ⟨hc, e, by unfold polysL; rw [e, if_neg (by decide)]⟩
    · have e : polysE PL wd jn cp ml ph D = 0 := by unfold polysE; rw [hs, if_neg (by decide), if_neg (by rw [h]; decide), if_neg hc]
      right; left; exact ⟨hc, e, by unfold polysL; rw [e, if_pos rfl]⟩
set_option maxRecDepth 100000 in
set_option maxHeartbeats 8000000 in
theorem walk (A : Option Addr) (n c : Nat) (PL : List (Bool × List Pt)) (wd jn cp ml ph : Int) (Ad : Option Addr) (nd cd : Nat) (D : List Int) (w : World) (P : Pls w A n c PL) (I : Ins w Ad nd cd D) (hB : i64b wd ∧ i64b jn ∧ i64b cp ∧ i64b ml ∧ i64b ph) :
    Calls Try.prog 12 #[.slice A n c, .agg #[.int .i64 wd, .int .i64 jn, .int .i64 cp, .int .i64 ml, .slice Ad nd cd, .int .i64 ph]] w fun e w' => e = .returned (.bool true) ∧ Keeps w w' := by
  clear hB
  obtain ⟨j0, ji, jz0, jz1, jz2⟩ := info_parts rows_info
  have HJ0 := Lib.hid (And.intro ji (And.intro jz0 (And.intro jz1 jz2)))
  clear ji jz0 jz1 jz2
  have hl := P.1
  have HS := Lib.hid (show ∀ w', Keeps (w.alloc (.cells #[.int .i64 wd, .int .i64 jn, .int .i64 cp, .int .i64 ml, .slice Ad nd cd, .int .i64 ph] 35)) w' → w'.cell? ⟨w.heap.size, 0, none⟩ = some (.int .i64 wd) ∧ w'.frozen? ⟨w.heap.size, 0, none⟩ = false ∧ w'.cell? ⟨w.heap.size, 1, none⟩ = some (.int .i64 jn) ∧ w'.frozen? ⟨w.heap.size, 1, none⟩ = false ∧ w'.cell? ⟨w.heap.size, 2, none⟩ = some (.int .i64 cp) ∧ w'.frozen? ⟨w.heap.size, 2, none⟩ = false ∧ w'.cell? ⟨w.heap.size, 3, none⟩ = some (.int .i64 ml) ∧ w'.frozen? ⟨w.heap.size, 3, none⟩ = false ∧ w'.cell? ⟨w.heap.size, 4, none⟩ = some (.slice Ad nd cd) ∧ w'.frozen? ⟨w.heap.size, 4, none⟩ = false ∧ w'.cell? ⟨w.heap.size, 5, none⟩ = some (.int .i64 ph) ∧ w'.frozen? ⟨w.heap.size, 5, none⟩ = false from fun w' hk => ⟨(hk.cell (p := ⟨w.heap.size, 0, none⟩) (by first | (simp; done) | (simp; omega))).trans (by simp [go_sem]), (hk.frozen (p := ⟨w.heap.size, 0, none⟩) (by first | (simp; done) | (simp; omega))).trans (by simp [go_sem]), (hk.cell (p := ⟨w.heap.size, 1, none⟩) (by first | (simp; done) | (simp; omega))).trans (by simp [go_sem]), (hk.frozen (p := ⟨w.heap.size, 1, none⟩) (by first | (simp; done) | (simp; omega))).trans (by simp [go_sem]), (hk.cell (p := ⟨w.heap.size, 2, none⟩) (by first | (simp; done) | (simp; omega))).trans (by simp [go_sem]), (hk.frozen (p := ⟨w.heap.size, 2, none⟩) (by first | (simp; done) | (simp; omega))).trans (by simp [go_sem]), (hk.cell (p := ⟨w.heap.size, 3, none⟩) (by first | (simp; done) | (simp; omega))).trans (by simp [go_sem]), (hk.frozen (p := ⟨w.heap.size, 3, none⟩) (by first | (simp; done) | (simp; omega))).trans (by simp [go_sem]), (hk.cell (p := ⟨w.heap.size, 4, none⟩) (by first | (simp; done) | (simp; omega))).trans (by simp [go_sem]), (hk.frozen (p := ⟨w.heap.size, 4, none⟩) (by first | (simp; done) | (simp; omega))).trans (by simp [go_sem]), (hk.cell (p := ⟨w.heap.size, 5, none⟩) (by first | (simp; done) | (simp; omega))).trans (by simp [go_sem]), (hk.frozen (p := ⟨w.heap.size, 5, none⟩) (by first | (simp; done) | (simp; omega))).trans (by simp [go_sem])⟩)
  have HB := Lib.hid (show Keeps w (w.alloc (.cells #[.int .i64 wd, .int .i64 jn, .int .i64 cp, .int .i64 ml, .slice Ad nd cd, .int .i64 ph] 35)) from (by (repeat (first | (with_reducible exact Keeps.refl _) | (with_reducible assumption) | (with_reducible refine Keeps.drewN ?_ _) | (with_reducible refine Keeps.drew ?_) | (with_reducible refine Keeps.alloc ?_ _) | (with_reducible refine Keeps.setNew ?_ ?_ _))) <;> (dsimp only; omega)))
  have hk0 := Keeps.refl (w.alloc (.cells #[.int .i64 wd, .int .i64 jn, .int .i64 cp, .int .i64 ml, .slice Ad nd cd, .int .i64 ph] 35))
  have hk := hk0
  have hkw := hk0
  have KX := Lib.hid (fun w => example24_any w)
  have KS := Lib.hid (fun w' (hk : Keeps w w') => smallAll_any A n c PL w' (P.keep hk))
  cases hsm : smB PL with
  | false =>
    rw [hsm] at KS
    clear P I
    go_enter Try.func12, Try.ntmps12
    go_wp2_with (first | (go_at_call 35; (with_reducible refine (keepk (KS.out _ (HB.out.trans hkw)) hkw).mono ?_); rintro e w1 ⟨rfl, hkw⟩) | (go_at_call 26; (with_reducible refine (keepk (KX.out _) hkw).mono ?_); rintro e w9 ⟨rfl, hkw⟩) | fail "ARM")
    go_ret
    exact ⟨rfl, HB.out.trans hkw⟩
  | true =>
    obtain ⟨h200, h400⟩ := smB_yes hsm
    rw [hsm] at KS
    clear hsm
    have hni : (n : Int) ≤ 200 := by omega
    have KL := Lib.hid (fun w' (hk : Keeps w w') => polys_any A n c PL wd jn cp ml ph Ad nd cd D w' (P.keep hk) (I.keep hk) (by omega) h400)
    have HPl := Lib.hid (fun w' (hk : Keeps w w') => P.keep hk)
    have HI := Lib.hid (fun w' (hk : Keeps w w') => I.keep hk)
    have hcl := Lib.hid (fun k => catL_len (wd := wd) (jn := jn) (cp := cp) (ml := ml) (ph := ph) (D := D) (PL.take k) (fun p hp => h400 p (List.mem_of_mem_take hp)))
    have hL := Lib.hid h400
    obtain ⟨ea, he⟩ : ∃ ea, Hid (ea = polysE PL wd jn cp ml ph D) := ⟨_, Lib.hid rfl⟩
    obtain ⟨RA, hRA⟩ : ∃ RA, Hid (RA = polysL PL wd jn cp ml ph D) := ⟨_, Lib.hid rfl⟩
    rw [← he.out, ← hRA.out] at KL
    clear P I h400
    go_enter Try.func12, Try.ntmps12
    go_wp2_with (first | (go_at_call 35; (with_reducible refine (keepk (KS.out _ (HB.out.trans hk)) hk).mono ?_); rintro e w1 ⟨rfl, hk⟩; obtain ⟨y0, y1, y2, y3, y4, y5, y6, y7, y8, y9, y10, y11⟩ := HS.out _ hk) | (go_at_call 36; (with_reducible refine (KL.out _ (HB.out.trans hk)).mono ?_); rintro e w2 ⟨A2, c2, rfl, hR2, hk2, -⟩; have hW2 := Lib.hid (hk.trans hk2); have hR2 := Lib.hid hR2.rws) | fail "ARM")
    clear y0 y1 y2 y3 y4 y5 y6 y7 y8 y9 y10 y11
    have hs2 : w.heap.size < w2.heap.size := by have h1 := HB.out.size; have h2 := hW2.out.size; simp at h2; omega
    generalize (w.alloc (.cells #[.int .i64 wd, .int .i64 jn, .int .i64 cp, .int .i64 ml, .slice Ad nd cd, .int .i64 ph] 35)) = W0 at *
    go_loopw [7, 23] (fun q i wr => ∃ (j : Nat) (Aq : Option Addr) (cq : Nat), j ≤ n ∧ i = .int .i64 j ∧ q = .slice Aq (catL wd jn cp ml ph D (PL.take j)).length cq ∧ Keeps w2 wr ∧ Hid (FRws wr w2.heap.size (.slice Aq (catL wd jn cp ml ph D (PL.take j)).length cq) (catL wd jn cp ml ph D (PL.take j))) ∧ Hid (firstE wd jn cp ml ph D PL = firstE wd jn cp ml ph D (PL.drop j))) (fun _ i _ => n - (intOf i).toNat)
    case atStart => exact ⟨0, none, 0, by omega, rfl, rfl, Keeps.refl _, Lib.hid (FRws.nil _ _), Lib.hid rfl⟩
    case round =>
      clear hk hk0 hkw hk2
      obtain ⟨j, Aq, cq, hj, rfl, rfl, hkw, hF, hD⟩ := hrel
      by_cases hlt : j < n
      · have hlt2 : (j : Int) < n := by omega
        have hlt0 : w.heap.size < wr.heap.size := by have := hkw.size; omega
        obtain ⟨b, o, rfl, hb, hC⟩ := (HPl.out w (Keeps.refl _)).2.2.2 (by omega)
        obtain ⟨Ak, nk, ck, e0, e1, hPk⟩ := hC j hlt
        have hmem : PL.getD j pl0 ∈ PL := by rw [List.getD_eq_getElem?_getD, List.getElem?_eq_getElem (by omega)]; exact List.getElem_mem _
        have hpl := hL.out _ hmem
        have hnk := hPk.1
        have hDr := Lib.hid (drop_pl PL j (by omega))
        have hTk := Lib.hid (catL_take (wd := wd) (jn := jn) (cp := cp) (ml := ml) (ph := ph) (D := D) PL j (by omega))
        have hRp := Lib.hid (fun r (h : r ∈ polyL (PL.getD j pl0).1 (PL.getD j pl0).2 wd jn cp ml ph D) => (polyL_ring h).1)
        have hRl := polyL_len (PL.getD j pl0).1 (PL.getD j pl0).2 wd jn cp ml ph D
        have hcj := hcl.out j
        rw [List.length_take] at hcj
        have hcj2 : (catL wd jn cp ml ph D (PL.take j)).length ≤ 160400 := Nat.le_trans hcj (Nat.le_trans (Nat.mul_le_mul_right 802 (show min j PL.length ≤ 200 by omega)) (by omega))
        have KP := Lib.hid (fun w' (hk : Keeps w w') => poly_any (PL.getD j pl0).1 Ak nk ck (PL.getD j pl0).2 wd jn cp ml ph Ad nd cd D w' (hPk.keep hk) (HI.out _ hk) (by omega))
        have e0 := Lib.hid e0
        have e1 := Lib.hid e1
        clear hC hPk hmem hcj
        generalize PL.getD j pl0 = p at *
        obtain ⟨cl, Lk⟩ := p
        dsimp only at *
        have HT := Lib.hid (show ∀ w', Keeps wr w' → (w'.cell? ⟨b, o + j * 2, none⟩ = some (.slice Ak nk ck) ∧ w'.cell? ⟨b, o + j * 2 + 1, none⟩ = some (.bool cl) ∧ w'.cell? ⟨w.heap.size, 0, none⟩ = some (.int .i64 wd) ∧ w'.cell? ⟨w.heap.size, 1, none⟩ = some (.int .i64 jn) ∧ w'.cell? ⟨w.heap.size, 2, none⟩ = some (.int .i64 cp) ∧ w'.cell? ⟨w.heap.size, 3, none⟩ = some (.int .i64 ml) ∧ w'.cell? ⟨w.heap.size, 4, none⟩ = some (.slice Ad nd cd) ∧ w'.cell? ⟨w.heap.size, 5, none⟩ = some (.int .i64 ph)) from fun w' hq => by
          have h1 := hW2.out.trans (hkw.trans hq)
          obtain ⟨y0, y1, y2, y3, y4, y5, y6, y7, y8, y9, y10, y11⟩ := HS.out _ h1
          exact ⟨((HB.out.trans h1).cell hb).trans e0.out, ((HB.out.trans h1).cell hb).trans e1.out, y0, y2, y4, y6, y8, y10⟩)
        have hFs := hF.out
        have hF9 := hF
        generalize catL wd jn cp ml ph D (PL.take j) = LT at *
        have hk := Keeps.refl wr
        go_wp2_with fail
        by_cases hee : polyE cl Lk wd jn cp ml ph D = 0
        · have hD2 := Lib.hid (show firstE wd jn cp ml ph D PL = firstE wd jn cp ml ph D (PL.drop (j + 1)) by rw [hD.out, hDr.out, firstE, if_pos hee])
          rw [hee] at KP
          generalize polyL cl Lk wd jn cp ml ph D = R at *
          clear hDr hD hee
          obtain ⟨VS, hv1, hv2, -⟩ := hFs
          have hv1 := Lib.hid hv1
          have hv2 := Lib.hid hv2
          clear hF
          go_region_held3 (fun w' => (w'.cell? ⟨b, o + j * 2, none⟩ = some (.slice Ak nk ck) ∧ w'.cell? ⟨b, o + j * 2 + 1, none⟩ = some (.bool cl) ∧ w'.cell? ⟨w.heap.size, 0, none⟩ = some (.int .i64 wd) ∧ w'.cell? ⟨w.heap.size, 1, none⟩ = some (.int .i64 jn) ∧ w'.cell? ⟨w.heap.size, 2, none⟩ = some (.int .i64 cp) ∧ w'.cell? ⟨w.heap.size, 3, none⟩ = some (.int .i64 ml) ∧ w'.cell? ⟨w.heap.size, 4, none⟩ = some (.slice Ad nd cd) ∧ w'.cell? ⟨w.heap.size, 5, none⟩ = some (.int .i64 ph))) (first | exact HT.out _ (by first | assumption | exact Keeps.drew (by assumption) | exact Keeps.drewN (by assumption) _) | go_keep) (first | (go_at_call 31; (with_reducible refine (KP.out _ (HB.out.trans (hW2.out.trans (by first | assumption | exact Keeps.drew (by assumption) | exact Keeps.drewN (by assumption) _)))).mono ?_); rintro e w3 ⟨A3, c3, rfl, hR3, hk3, hz3⟩; have hk3w : Keeps wr w3 := Keeps.trans (by first | assumption | exact Keeps.drew (by assumption) | exact Keeps.drewN (by assumption) _) hk3) | fail "ARM")
          have hk3w := Lib.hid hk3w
          by_cases hR0 : R.length = 0
          · obtain rfl : R = [] := List.length_eq_zero_iff.1 hR0
            obtain ⟨rfl, rfl⟩ := hz3 rfl
            rw [List.append_nil] at hTk
            obtain ⟨ji, jz0, jz1, jz2⟩ := HJ0.out
            have hv3 := Lib.hid (own_keep hv1.out hk3w.out)
            go_wp2_with (at_builtin; refine wpList_append_own_none rfl _ _ 37 rfl w2.heap.size 44 j0 1 Try.underlying37 ji _ _ _ rfl hv3.out rfl ?_)
            go_roundw
            case rel => exact ⟨j + 1, Aq, cq, by omega, by go_num, by rw [hTk.out], hkw.trans hk3w.out, Lib.hid (by rw [hTk.out]; exact hF9.out.keep hk3w.out), hD2⟩
            case measure => simp [intOf]; omega
          · have hR1 : 0 < R.length := by omega
            have hR2' : R.length ≤ 802 := by omega
            obtain ⟨ji, jz0, jz1, jz2⟩ := HJ0.out
            obtain ⟨b3, o3, VN, rfl, hVl, hVc, hV1, hVk⟩ := hR3.news hR1 hRp.out
            have hv3 := Lib.hid (own_keep hv1.out hk3w.out)
            have hVc := Lib.hid hVc
            have hVk := Lib.hid hVk
            have hV1 := Lib.hid hV1
            have hbb := Lib.hid (hkw.trans hk3w.out)
            clear hz3 hR3
            go_wp2_with (at_builtin; refine wpList_append_lies _ rfl _ _ 37 rfl w2.heap.size 44 j0 (.slice none 0 0) 1 24 Try.underlying37 ji jz0 jz1 jz2 rfl (by decide) _ _ VS rfl hv3.out ⟨b3, o3, none⟩ R.length c3 VN rfl (by rw [hVl, Nat.mul_one]) (fun j u hu => by rw [Addr.add_lit]; exact hVc.out j u hu) hV1.out hR1 (by unfold maxLen; omega) (by omega) (Keeps.size hbb.out) w3.heap.size rfl ?_; intro g cap w4 hown4 hgrow hlie hglt; have hSN := Lib.hid (FRws.cat hv3.out (fun k hk => by obtain ⟨Ak, nk, ck, e, hP, hn, hb⟩ := hv2.out k hk; exact ⟨Ak, nk, ck, e, hP.keep hk3w.out, hn, fun a ha => ⟨(hb a ha).1, Nat.lt_of_lt_of_le (hb a ha).2.1 hk3w.out.size, (hb a ha).2.2⟩⟩) rfl hR1 hVk.out (Keeps.size (Keeps.drew hkw)) (fun x hx => (hv1.out.lt x hx).2) hown4 hgrow hlie); have hk4 : Keeps w2 w4 := Below.grown hbb.out hgrow (Keeps.size hbb.out) (fun k hk => (hv3.out.lt k hk).1); clear hgrow hown4 hlie hglt)
            go_roundw
            case rel => exact ⟨j + 1, _, _, by omega, by go_num, by rw [hTk.out, List.length_append], hk4, Lib.hid (by rw [hTk.out, List.length_append]; exact hSN.out), hD2⟩
            case measure => simp [intOf]; omega
        · have hq : (polyE cl Lk wd jn cp ml ph D == 0) = false := by rw [beq_eq_false_iff_ne]; exact hee
          have hq2 : (polyE cl Lk wd jn cp ml ph D != 0) = true := by simp [hee]
          have hfe : firstE wd jn cp ml ph D PL = polyE cl Lk wd jn cp ml ph D := by rw [hD.out, hDr.out, firstE, if_neg hee]
          obtain ⟨h1, h2⟩ := polys_first (PL := PL) (wd := wd) (jn := jn) (cp := cp) (ml := ml) (ph := ph) (D := D) (by rw [hfe]; exact hee)
          rw [hfe, ← he.out] at h1
          rw [← hRA.out] at h2
          clear hfe hD hDr
          generalize polyE cl Lk wd jn cp ml ph D = er2 at *
          generalize polyL cl Lk wd jn cp ml ph D = R at *
          subst h1 h2
          clear he hRA hee hFs hF9 hF
          go_region_held3 (fun w' => (w'.cell? ⟨b, o + j * 2, none⟩ = some (.slice Ak nk ck) ∧ w'.cell? ⟨b, o + j * 2 + 1, none⟩ = some (.bool cl) ∧ w'.cell? ⟨w.heap.size, 0, none⟩ = some (.int .i64 wd) ∧ w'.cell? ⟨w.heap.size, 1, none⟩ = some (.int .i64 jn) ∧ w'.cell? ⟨w.heap.size, 2, none⟩ = some (.int .i64 cp) ∧ w'.cell? ⟨w.heap.size, 3, none⟩ = some (.int .i64 ml) ∧ w'.cell? ⟨w.heap.size, 4, none⟩ = some (.slice Ad nd cd) ∧ w'.cell? ⟨w.heap.size, 5, none⟩ = some (.int .i64 ph))) (first | exact HT.out _ (by first | assumption | exact Keeps.drew (by assumption) | exact Keeps.drewN (by assumption) _) | go_keep) (first | (go_at_call 31; (with_reducible refine (KP.out _ (HB.out.trans (hW2.out.trans (by first | assumption | exact Keeps.drew (by assumption) | exact Keeps.drewN (by assumption) _)))).mono ?_); rintro e w3 ⟨A3, c3, rfl, hR3, hk3, hz3⟩; have hk3w : Keeps wr w3 := Keeps.trans (by first | assumption | exact Keeps.drew (by assumption) | exact Keeps.drewN (by assumption) _) hk3) | fail "ARM")
          have hkw := hkw.trans hk3w
          have q9 : (ea == ea) = true := beq_self_eq_true _
          go_wp2_with (go_at_call 26; (with_reducible refine (keepk (KX.out _) hkw).mono ?_); rintro e w9 ⟨rfl, hkw⟩)
          go_ret
          exact ⟨rfl, HB.out.trans (hW2.out.trans hkw)⟩
      · obtain rfl : j = n := by omega
        have hlt2 : ¬ (j : Int) < j := by omega
        rw [List.take_of_length_le (by omega)] at hF ⊢
        rw [List.drop_of_length_le (by omega)] at hD
        have hcj := hcl.out j
        rw [List.take_of_length_le (by omega)] at hcj
        have hcj2 : (catL wd jn cp ml ph D PL).length ≤ 160400 := Nat.le_trans hcj (Nat.le_trans (Nat.mul_le_mul_right 802 (show PL.length ≤ 200 by omega)) (by omega))
        have hsh : ∀ r ∈ catL wd jn cp ml ph D PL, r.length ≤ 1000000 := fun r hr => by
          obtain ⟨p, _, h⟩ := catL_mem hr
          have := polyL_short _ _ _ _ _ _ _ _ r h
          omega
        have hrest := polys_rest (PL := PL) (wd := wd) (jn := jn) (cp := cp) (ml := ml) (ph := ph) (D := D) hD.out
        rw [← he.out, ← hRA.out] at hrest
        have hPL0 : PL = [] → j = 0 := fun h => by rw [← hl, h]; rfl
        obtain ⟨A5, c5, e5, hRq, -⟩ := hF.out.rws
        obtain ⟨rfl, rfl⟩ : Aq = A5 ∧ cq = c5 := by simpa using e5
        have KC := Lib.hid (count_any Aq (catL wd jn cp ml ph D PL).length cq (catL wd jn cp ml ph D PL) wr hRq.rws (by omega) hsh)
        have hRq := Lib.hid hRq.rws
        have hnil : PL = [] → catL wd jn cp ml ph D PL = [] := fun h => by rw [h]; rfl
        generalize catL wd jn cp ml ph D PL = R at *
        clear e5 hF hcl hsh hcj hcj2 hD he hRA
        rcases hrest with ⟨hc, rfl, rfl⟩ | ⟨hc, rfl, rfl⟩ | ⟨hp, rfl⟩
        · have hci : (4096 : Int) < cnt R := by omega
          clear hc hPL0 hnil
          go_wp2_with (first | (go_at_call 37; (with_reducible refine (keepk KC.out hkw).mono ?_); rintro e w5 ⟨rfl, hkw⟩) | (go_at_call 26; (with_reducible refine (keepk (KX.out _) hkw).mono ?_); rintro e w9 ⟨rfl, hkw⟩) | fail "ARM")
          go_ret
          exact ⟨rfl, HB.out.trans (hW2.out.trans hkw)⟩
        · have hci : ¬ (4096 : Int) < cnt RA := by omega
          clear hc hPL0 hnil
          have hRw := Lib.hid (hR2.out.keep hkw)
          go_wp2_with (first | (go_at_call 37; (with_reducible refine (keepk2 KC.out hkw).mono ?_); rintro e w5 ⟨rfl, hk5, hkw⟩; have hk5 := Lib.hid hk5) | (go_at_call 34; (with_reducible refine (keepk (same24_any _ _ _ _ _ _ _ (hRw.out.keep hk5.out) (hRq.out.keep hk5.out)) hkw).mono ?_); rintro e w6 ⟨rfl, hkw⟩) | (go_at_call 26; (with_reducible refine (keepk (KX.out _) hkw).mono ?_); rintro e w9 ⟨rfl, hkw⟩) | fail "ARM")
          go_ret
          exact ⟨rfl, HB.out.trans (hW2.out.trans hkw)⟩
        · have hj0 := hPL0 hp
          have hR0 := hnil hp
          subst hj0 hR0
          have hci : ¬ (4096 : Int) < (cnt [] : Nat) := by decide
          have KC := KC.out
          simp only [List.length_nil] at KC
          have KC := Lib.hid KC
          clear hPL0 hnil
          go_wp2_with (first | (go_at_call 37; (with_reducible refine (keepk KC.out hkw).mono ?_); rintro e w5 ⟨rfl, hkw⟩) | (go_at_call 26; (with_reducible refine (keepk (KX.out _) hkw).mono ?_); rintro e w9 ⟨rfl, hkw⟩) | fail "ARM")
          go_ret
          exact ⟨rfl, HB.out.trans (hW2.out.trans hkw)⟩
set_option maxRecDepth 100000 in
theorem lifted (os : Os) (started : os.Started) (H : Type) (enc : TypeId × Value → H) :
    ReturnsInHanded {} Try.checked os 12 .any (Rows.strokeConcatenatesSpec.pre6 enc Try.prog Try.f12 Rows.strokeConcatenatesRow.domain false) (Rows.strokeConcatenatesSpec.post enc Try.prog Try.f12 false true false false) := by
  refine returnsInHanded_of_change (C := Try.checked) Try.own started (by kernel_rfl) Try.func12
    (ChangeSpec.witness6 (enc := enc) (C := Try.checked) false ⟨#[], #[.slice none 0 0, .agg #[.int .i64 0, .int .i64 0, .int .i64 0, .int .i64 0, .slice none 0 0, .int .i64 0]], []⟩ 8 (by kernel_rfl) (by kernel_rfl) (by kernel_rfl) (by kernel_rfl)) ?_
  intro W base args ds gs before hval0 hW hcnd _
  have hval : ∀ (j : Nat) t v, Try.f12.params[j]? = some t → args[j]? = some v → Value.okWide Try.prog W .any base t v := hval0
  have hW' := hW
  obtain ⟨p, q, hA0, hV, rfl, hfz, hnd⟩ := hW
  have hA : DataW.TrodAll enc Try.prog W 0 (fun _ => true) true Try.f12.params.toList args.toList ds p := hA0
  have hAll := hA
  rw [Try.params12] at hA hval
  obtain ⟨v0, vs0, d0, ds0, p0, q0, hargs, rfl, rfl, h0, r0⟩ := trodAll_cons hA
  obtain ⟨v1, vs1, d1, ds1, p1, q1, rfl, rfl, rfl, h1, r1⟩ := trodAll_cons r0
  obtain ⟨rfl, rfl, rfl⟩ := trodAll_nil r1
  obtain rfl : args = #[v0, v1] := by cases args; simp_all
  obtain ⟨rfl, rfl⟩ := trodVars_none hV
  obtain ⟨A0, n0, c0, L0, rfl, P0⟩ := open_polys (hval 0 58 v0 rfl rfl) h0
  obtain ⟨wd1, jn1, cp1, ml1, ph1, A1, n1, c1, D1, rfl, I1, B1⟩ := open_style (hval 1 35 v1 rfl rfl) h1
  clear hA0 hval0
  refine (walk A0 n0 c0 L0 wd1 jn1 cp1 ml1 ph1 A1 n1 c1 D1 W P0 I1 B1).mono fun e W' ⟨he, bel⟩ => ?_
  subst he
  exact ⟨_, rfl, _, _, _, [], _, [], hW', trodAll_mk1 (shut_bool Try.underlying4 _), below_trodAll Try.laidOut bel (reads_of (by kernel_rfl)) hAll, rfl, bel.frame _, fun h => by cases h⟩

theorem over : Rows.strokeConcatenatesRow.holds Try.pinned (OpenSpec.ofChange Rows.strokeConcatenatesSpec) :=
  OpenClaim.holds_of_wide 12 Try.f12 rfl rfl rfl rfl rfl rfl rfl ⟨rfl, rfl, rfl, rfl, rfl⟩ rfl rfl rfl rfl rfl (by kernel_rfl) Try.func12 (by kernel_rfl)
    (of_decide_eq_true (by kernel_rfl)) (by unfold Func.isWrapper; first | (rw [if_pos (by decide +kernel)]; kernel_rfl) | (rw [if_neg (by decide +kernel)]; exact ⟨rfl, rfl⟩))
    (fun os started H enc _ => lifted os started H enc)

/-- The statement. -/
theorem proved : Rows.StrokeConcatenatesSaid := over
#print axioms proved
end Go.Proofs.Ytdodgnpjlicnoaa.strokeConcatenates
