/- The example of chapter 24 holds. -/
import Derived.Test.YtdodgnpjlicnoaaGreatKh
import Derived.Test.YtdodgnpjlicnoaaGreatKl
import Derived.Test.YtdodgnpjlicnoaaGreatE22
namespace Go.Proofs.YtdodgnpjlicnoaaGreat
section
section
open Go.RowKit
attribute [local go_sem ↓] Go.wp_at_zero Go.wp_at_succ
set_option linter.unusedVariables false
set_option linter.unusedSimpArgs false
theorem joinR_short (u v b : Pt) (wd jn cp ml ph : Int) (D : List Int) : (joinR u v b wd jn cp ml ph D).length ≤ 16 := by
  unfold joinR
  split
  · simp
  · split
    · exact discL_len v wd
    · split
      · have h1 := orient_len (cornL v (outN u v b wd) (outM u v b wd) wd jn ml)
        have h2 := corn_len v (outN u v b wd) (outM u v b wd) wd jn ml
        omega
      · simp
theorem ringsL_short (closed : Bool) (L : List Pt) (wd jn cp ml ph : Int) (D : List Int) : ∀ r ∈ ringsL closed L wd jn cp ml ph D, r.length ≤ 16 := by
  intro r h
  unfold ringsL at h
  split at h
  · simp at h
  · split at h
    · obtain ⟨rfl, hl⟩ := wrapL_mem h
      exact dotR_len _ _ _
    · rcases List.mem_append.1 h with h | h
      · rcases List.mem_append.1 h with h | h
        · obtain ⟨i, h⟩ := flatTo_mem _ _ _ h
          obtain ⟨rfl, hl⟩ := wrapL_mem h
          have := bodyL_len (L.getD i pt0) (L.getD ((i + 1) % L.length) pt0) wd
          omega
        · obtain ⟨i, h⟩ := flatTo_mem _ _ _ h
          unfold joinK at h
          split at h
          · obtain ⟨rfl, hl⟩ := wrapL_mem h
            exact joinR_short _ _ _ _ _ _ _ _ _
          · simp at h
      · unfold endsR at h
        split at h
        · simp at h
        · rcases List.mem_append.1 h with h | h
          · obtain ⟨rfl, hl⟩ := wrapL_mem h
            exact endL_len _ _ _ _
          · obtain ⟨rfl, hl⟩ := wrapL_mem h
            exact endL_len _ _ _ _
theorem ringsL_len (closed : Bool) (L : List Pt) (wd jn cp ml ph : Int) (D : List Int) : (ringsL closed L wd jn cp ml ph D).length ≤ 2 * L.length + 2 := by
  unfold ringsL
  split
  · simp
  · split
    · have := wrapL_len (dotR (L.getD 0 pt0) wd cp); omega
    · have h1 := flatTo_len (bodyR L wd) (fun i => wrapL_len _) (segK closed L.length)
      have h2 := flatTo_len (joinK closed L wd jn cp ml ph D) (fun i => joinK_len _ _ _ _ _ _ _ _ i) L.length
      have h3 := endsR_len closed L wd cp
      have h4 := segK_le closed L.length
      rw [List.length_append, List.length_append]; omega
theorem polyL_short (closed : Bool) (L : List Pt) (wd jn cp ml ph : Int) (D : List Int) : ∀ r ∈ polyL closed L wd jn cp ml ph D, r.length ≤ 16 := by
  intro r h
  unfold polyL at h
  split at h
  · exact ringsL_short _ _ _ _ _ _ _ _ r h
  · simp at h
theorem polyL_len (closed : Bool) (L : List Pt) (wd jn cp ml ph : Int) (D : List Int) : (polyL closed L wd jn cp ml ph D).length ≤ 2 * L.length + 2 := by
  unfold polyL
  split
  · have h1 := ringsL_len closed (dedC closed L) wd jn cp ml ph D
    have h2 := dedC_len closed L
    omega
  · simp
/-- polygons in new memory, and an error -/
def RetE (w0 : World) (LL : List (List Pt)) (er : Int) (e : Ending) (w' : World) : Prop := ∃ A c, e = .returned (.tuple #[.slice A LL.length c, .int .i64 er]) ∧ RwsU w0.heap.size w' A LL.length c LL ∧ Keeps w0 w' ∧ (LL.length = 0 → A = none ∧ c = 0)
theorem keepk2 {P : Program} {f : FuncId} {args : Array Value} {w0 w : World} {v : Value} (c : Calls P f args w fun e w' => e = .returned v ∧ Keeps w w') (h : Keeps w0 w) : Calls P f args w fun e w' => e = .returned v ∧ Keeps w w' ∧ Keeps w0 w' := c.mono fun _ _ ⟨he, hb⟩ => ⟨he, hb, h.trans hb⟩
set_option maxRecDepth 100000 in
set_option maxHeartbeats 8000000 in
theorem poly_any (cl : Bool) (A : Option Addr) (n c : Nat) (L : List Pt) (wd jn cp ml ph : Int) (Ad : Option Addr) (nd cd : Nat) (D : List Int) (w : World) (h : Pts w A n c L) (hI : Ins w Ad nd cd D) (hn : n ≤ 100000) :
    Calls Tryz.prog 7 #[.agg #[.slice A n c, .bool cl], .agg #[.int .i64 wd, .int .i64 jn, .int .i64 cp, .int .i64 ml, .slice Ad nd cd, .int .i64 ph]] w (RetE w (polyL cl L wd jn cp ml ph D) (polyE cl L wd jn cp ml ph D)) := by
  have hl := h.1
  have hni : (n : Int) ≤ 100000 := by omega
  have HS := Lib.hid (show ∀ w', Keeps ((w.alloc (.cells #[.slice A n c, .bool cl] 24)).alloc (.cells #[.int .i64 wd, .int .i64 jn, .int .i64 cp, .int .i64 ml, .slice Ad nd cd, .int .i64 ph] 27)) w' → w'.cell? ⟨w.heap.size, 0, none⟩ = some (.slice A n c) ∧ w'.frozen? ⟨w.heap.size, 0, none⟩ = false ∧ w'.cell? ⟨w.heap.size, 1, none⟩ = some (.bool cl) ∧ w'.frozen? ⟨w.heap.size, 1, none⟩ = false ∧ w'.cell? ⟨w.heap.size + 1, 0, none⟩ = some (.int .i64 wd) ∧ w'.frozen? ⟨w.heap.size + 1, 0, none⟩ = false ∧ w'.cell? ⟨w.heap.size + 1, 1, none⟩ = some (.int .i64 jn) ∧ w'.frozen? ⟨w.heap.size + 1, 1, none⟩ = false ∧ w'.cell? ⟨w.heap.size + 1, 2, none⟩ = some (.int .i64 cp) ∧ w'.frozen? ⟨w.heap.size + 1, 2, none⟩ = false ∧ w'.cell? ⟨w.heap.size + 1, 3, none⟩ = some (.int .i64 ml) ∧ w'.frozen? ⟨w.heap.size + 1, 3, none⟩ = false ∧ w'.cell? ⟨w.heap.size + 1, 4, none⟩ = some (.slice Ad nd cd) ∧ w'.frozen? ⟨w.heap.size + 1, 4, none⟩ = false ∧ w'.cell? ⟨w.heap.size + 1, 5, none⟩ = some (.int .i64 ph) ∧ w'.frozen? ⟨w.heap.size + 1, 5, none⟩ = false from fun w' hk => ⟨(hk.cell (p := ⟨w.heap.size, 0, none⟩) (by first | (simp; done) | (simp; omega))).trans (by simp [go_sem]), (hk.frozen (p := ⟨w.heap.size, 0, none⟩) (by first | (simp; done) | (simp; omega))).trans (by simp [go_sem]), (hk.cell (p := ⟨w.heap.size, 1, none⟩) (by first | (simp; done) | (simp; omega))).trans (by simp [go_sem]), (hk.frozen (p := ⟨w.heap.size, 1, none⟩) (by first | (simp; done) | (simp; omega))).trans (by simp [go_sem]), (hk.cell (p := ⟨w.heap.size + 1, 0, none⟩) (by first | (simp; done) | (simp; omega))).trans (by simp [go_sem]), (hk.frozen (p := ⟨w.heap.size + 1, 0, none⟩) (by first | (simp; done) | (simp; omega))).trans (by simp [go_sem]), (hk.cell (p := ⟨w.heap.size + 1, 1, none⟩) (by first | (simp; done) | (simp; omega))).trans (by simp [go_sem]), (hk.frozen (p := ⟨w.heap.size + 1, 1, none⟩) (by first | (simp; done) | (simp; omega))).trans (by simp [go_sem]), (hk.cell (p := ⟨w.heap.size + 1, 2, none⟩) (by first | (simp; done) | (simp; omega))).trans (by simp [go_sem]), (hk.frozen (p := ⟨w.heap.size + 1, 2, none⟩) (by first | (simp; done) | (simp; omega))).trans (by simp [go_sem]), (hk.cell (p := ⟨w.heap.size + 1, 3, none⟩) (by first | (simp; done) | (simp; omega))).trans (by simp [go_sem]), (hk.frozen (p := ⟨w.heap.size + 1, 3, none⟩) (by first | (simp; done) | (simp; omega))).trans (by simp [go_sem]), (hk.cell (p := ⟨w.heap.size + 1, 4, none⟩) (by first | (simp; done) | (simp; omega))).trans (by simp [go_sem]), (hk.frozen (p := ⟨w.heap.size + 1, 4, none⟩) (by first | (simp; done) | (simp; omega))).trans (by simp [go_sem]), (hk.cell (p := ⟨w.heap.size + 1, 5, none⟩) (by first | (simp; done) | (simp; omega))).trans (by simp [go_sem]), (hk.frozen (p := ⟨w.heap.size + 1, 5, none⟩) (by first | (simp; done) | (simp; omega))).trans (by simp [go_sem])⟩)
  have HB := Lib.hid (show Keeps w ((w.alloc (.cells #[.slice A n c, .bool cl] 24)).alloc (.cells #[.int .i64 wd, .int .i64 jn, .int .i64 cp, .int .i64 ml, .slice Ad nd cd, .int .i64 ph] 27)) from (by (repeat (first | (with_reducible exact Keeps.refl _) | (with_reducible assumption) | (with_reducible refine Keeps.drewN ?_ _) | (with_reducible refine Keeps.drew ?_) | (with_reducible refine Keeps.alloc ?_ _) | (with_reducible refine Keeps.setNew ?_ ?_ _))) <;> (dsimp only; omega)))
  have hk0 := Keeps.refl ((w.alloc (.cells #[.slice A n c, .bool cl] 24)).alloc (.cells #[.int .i64 wd, .int .i64 jn, .int .i64 cp, .int .i64 ml, .slice Ad nd cd, .int .i64 ph] 27))
  have hk := hk0
  have KS := Lib.hid (fun w' (hk : Keeps w w') => style_any wd jn cp ml ph Ad nd cd D w' (hI.keep hk))
  obtain ⟨vx, hvx⟩ : ∃ vx : Int, Hid (vx = if allV [L] = true then (cnt [L] : Int) else 0) := ⟨_, Lib.hid rfl⟩
  have KP := Lib.hid (fun w' t (hk : Keeps w w') => points_any _ 1 1 [L] _ (Rws.one (h.keep hk) (by omega) t) (by omega) (fun r hr => by simp at hr; subst hr; omega))
  rw [← hvx.out, show allV [L] = L.all vP by simp [allV]] at KP
  obtain ⟨er, RR, hE, hR⟩ : ∃ (er : Int) (RR : List (List Pt)), Hid (er = polyE cl L wd jn cp ml ph D) ∧ Hid (RR = polyL cl L wd jn cp ml ph D) := ⟨_, _, Lib.hid rfl, Lib.hid rfl⟩
  rw [← hE.out, ← hR.out]
  have hno := Lib.hid (show ∀ x, er = x → x ≠ 0 → RR = [] from fun x h1 h2 => by rw [hR.out]; unfold polyL; rw [if_neg (by rw [← hE.out, h1]; exact h2)])
  have hyes := Lib.hid (show er = 0 → RR = ringsL cl (dedC cl L) wd jn cp ml ph D from fun h1 => by rw [hR.out]; unfold polyL; rw [if_pos (by rw [← hE.out, h1])])
  have hE' := hE.out
  unfold polyE at hE'
  cases hst : stB wd jn cp ml ph D with
  | false =>
    rw [hst, if_pos rfl] at hE'
    have hf := Lib.hid (And.intro hE' (hno.out _ hE' (by decide)))
    rw [hst] at KS
    clear hst hE' h hI
    go_enter Tryz.func7, Tryz.ntmps7
    go_wp2_with (first | (go_at_call 15; (with_reducible refine (keepk (KS.out _ (HB.out.trans hk)) hk).mono ?_); rintro e w1 ⟨rfl, hk⟩; obtain ⟨y0, y1, y2, y3, y4, y5, y6, y7, y8, y9, y10, y11, y12, y13, y14, y15⟩ := HS.out _ hk) | (go_at_call 16; (with_reducible refine (KP.out _ _ (HB.out.trans hk)).mono ?_); rintro e w2 ⟨rfl, hk2⟩; replace hk := (hk.alloc _).trans hk2; obtain ⟨y0, y1, y2, y3, y4, y5, y6, y7, y8, y9, y10, y11, y12, y13, y14, y15⟩ := HS.out _ hk) | fail "ARM")
    go_ret2
    obtain ⟨e1, e2⟩ := hf.out
    rw [e1, e2]
    exact ⟨none, 0, rfl, RwsU.nil _ _, HB.out.trans hk, fun _ => ⟨rfl, rfl⟩⟩
  | true =>
    rw [hst, if_neg (by decide)] at hE'
    rw [hst] at KS
    clear hst
    cases hv : L.all vP with
    | false =>
      rw [hv, if_pos rfl] at hE'
      have hf := Lib.hid (And.intro hE' (hno.out _ hE' (by decide)))
      rw [hv] at KP
      clear hv hE' h hI
      go_enter Tryz.func7, Tryz.ntmps7
      go_wp2_with (first | (go_at_call 15; (with_reducible refine (keepk (KS.out _ (HB.out.trans hk)) hk).mono ?_); rintro e w1 ⟨rfl, hk⟩; obtain ⟨y0, y1, y2, y3, y4, y5, y6, y7, y8, y9, y10, y11, y12, y13, y14, y15⟩ := HS.out _ hk) | (go_at_call 16; (with_reducible refine (KP.out _ _ (HB.out.trans hk)).mono ?_); rintro e w2 ⟨rfl, hk2⟩; replace hk := (hk.alloc _).trans hk2; obtain ⟨y0, y1, y2, y3, y4, y5, y6, y7, y8, y9, y10, y11, y12, y13, y14, y15⟩ := HS.out _ hk) | fail "ARM")
      go_ret2
      obtain ⟨e1, e2⟩ := hf.out
      rw [e1, e2]
      exact ⟨none, 0, rfl, RwsU.nil _ _, HB.out.trans hk, fun _ => ⟨rfl, rfl⟩⟩
    | true =>
      rw [hv, if_neg (by decide), hl] at hE'
      rw [hv] at KP
      clear hv
      by_cases hbig : 4096 < n
      · rw [if_pos hbig] at hE'
        have hf := Lib.hid (And.intro hE' (hno.out _ hE' (by decide)))
        have hbi : (4096 : Int) < n := by omega
        clear hE' h hI
        go_enter Tryz.func7, Tryz.ntmps7
        go_wp2_with (first | (go_at_call 15; (with_reducible refine (keepk (KS.out _ (HB.out.trans hk)) hk).mono ?_); rintro e w1 ⟨rfl, hk⟩; obtain ⟨y0, y1, y2, y3, y4, y5, y6, y7, y8, y9, y10, y11, y12, y13, y14, y15⟩ := HS.out _ hk) | (go_at_call 16; (with_reducible refine (KP.out _ _ (HB.out.trans hk)).mono ?_); rintro e w2 ⟨rfl, hk2⟩; replace hk := (hk.alloc _).trans hk2; obtain ⟨y0, y1, y2, y3, y4, y5, y6, y7, y8, y9, y10, y11, y12, y13, y14, y15⟩ := HS.out _ hk) | fail "ARM")
        go_ret2
        obtain ⟨e1, e2⟩ := hf.out
        rw [e1, e2]
        exact ⟨none, 0, rfl, RwsU.nil _ _, HB.out.trans hk, fun _ => ⟨rfl, rfl⟩⟩
      · rw [if_neg hbig] at hE'
        have hbi : ¬ (4096 : Int) < n := by omega
        have hML := dedC_len cl L
        have KD := Lib.hid (fun w' (hk : Keeps w w') => dedup_any cl A n c L w' (h.keep hk) (by omega))
        have hRl := ringsL_len cl (dedC cl L) wd jn cp ml ph D
        have hRs := Lib.hid (ringsL_short cl (dedC cl L) wd jn cp ml ph D)
        have KR := Lib.hid (fun A2 c2 w' (hk : Keeps w w') (hP : Pts w' A2 (dedC cl L).length c2 (dedC cl L)) => rings_any cl A2 (dedC cl L).length c2 (dedC cl L) wd jn cp ml ph Ad nd cd D w' hP (hI.keep hk) (by omega))
        have HT := Lib.hid (show ∀ w', Keeps ((w.alloc (.cells #[.slice A n c, .bool cl] 24)).alloc (.cells #[.int .i64 wd, .int .i64 jn, .int .i64 cp, .int .i64 ml, .slice Ad nd cd, .int .i64 ph] 27)) w' → (w'.cell? ⟨w.heap.size, 0, none⟩ = some (.slice A n c) ∧ w'.cell? ⟨w.heap.size, 1, none⟩ = some (.bool cl) ∧ w'.cell? ⟨w.heap.size + 1, 0, none⟩ = some (.int .i64 wd) ∧ w'.cell? ⟨w.heap.size + 1, 1, none⟩ = some (.int .i64 jn) ∧ w'.cell? ⟨w.heap.size + 1, 2, none⟩ = some (.int .i64 cp) ∧ w'.cell? ⟨w.heap.size + 1, 3, none⟩ = some (.int .i64 ml) ∧ w'.cell? ⟨w.heap.size + 1, 4, none⟩ = some (.slice Ad nd cd) ∧ w'.cell? ⟨w.heap.size + 1, 5, none⟩ = some (.int .i64 ph)) from fun w' hk => by
          obtain ⟨y0, y1, y2, y3, y4, y5, y6, y7, y8, y9, y10, y11, y12, y13, y14, y15⟩ := HS.out _ hk
          exact ⟨y0, y2, y4, y6, y8, y10, y12, y14⟩)
        generalize dedC cl L = M at *
        generalize ringsL cl M wd jn cp ml ph D = R at *
        obtain ⟨vy, hvy⟩ : ∃ vy : Int, Hid (vy = if allV R = true then (cnt R : Int) else 0) := ⟨_, Lib.hid rfl⟩
        have KQ := Lib.hid (fun A c w' (hX : Rws w' A R.length c R) => points_any A R.length c R w' hX (by omega) (fun r hr => by have := hRs.out r hr; omega))
        rw [← hvy.out] at KQ
        clear h hI
        go_enter Tryz.func7, Tryz.ntmps7
        go_wp2_with (first | (go_at_call 15; (with_reducible refine (keepk (KS.out _ (HB.out.trans hk)) hk).mono ?_); rintro e w1 ⟨rfl, hk⟩; obtain ⟨y0, y1, y2, y3, y4, y5, y6, y7, y8, y9, y10, y11, y12, y13, y14, y15⟩ := HS.out _ hk) | (go_at_call 16; (with_reducible refine (KP.out _ _ (HB.out.trans hk)).mono ?_); rintro e w2 ⟨rfl, hk2⟩; replace hk := (hk.alloc _).trans hk2; obtain ⟨y0, y1, y2, y3, y4, y5, y6, y7, y8, y9, y10, y11, y12, y13, y14, y15⟩ := HS.out _ hk) | fail "ARM")
        generalize ((w.alloc (.cells #[.slice A n c, .bool cl] 24)).alloc (.cells #[.int .i64 wd, .int .i64 jn, .int .i64 cp, .int .i64 ml, .slice Ad nd cd, .int .i64 ph] 27)) = W0 at *
        clear y0 y1 y2 y3 y4 y5 y6 y7 y8 y9 y10 y11 y12 y13 y14 y15
        go_region_held3 (fun w' => (w'.cell? ⟨w.heap.size, 0, none⟩ = some (.slice A n c) ∧ w'.cell? ⟨w.heap.size, 1, none⟩ = some (.bool cl) ∧ w'.cell? ⟨w.heap.size + 1, 0, none⟩ = some (.int .i64 wd) ∧ w'.cell? ⟨w.heap.size + 1, 1, none⟩ = some (.int .i64 jn) ∧ w'.cell? ⟨w.heap.size + 1, 2, none⟩ = some (.int .i64 cp) ∧ w'.cell? ⟨w.heap.size + 1, 3, none⟩ = some (.int .i64 ml) ∧ w'.cell? ⟨w.heap.size + 1, 4, none⟩ = some (.slice Ad nd cd) ∧ w'.cell? ⟨w.heap.size + 1, 5, none⟩ = some (.int .i64 ph))) (first | exact HT.out _ (by first | assumption | exact Keeps.drew (by assumption) | exact Keeps.drewN (by assumption) _) | go_keep) (first | (go_at_call 18; (with_reducible refine (KD.out _ (HB.out.trans (by first | assumption | exact Keeps.drew (by assumption) | exact Keeps.drewN (by assumption) _))).mono ?_); rintro e w3 ⟨A3, c3, rfl, hP3, hk3⟩; have hP3 := Lib.hid hP3; replace hk : Keeps W0 w3 := Keeps.trans (by first | assumption | exact Keeps.drew (by assumption) | exact Keeps.drewN (by assumption) _) hk3; clear hk3) | (go_at_call 17; (with_reducible refine (KR.out _ _ _ (HB.out.trans (by first | assumption | exact Keeps.drew (by assumption) | exact Keeps.drewN (by assumption) _)) (hP3.out.keep (by first | exact Keeps.refl _ | exact (Keeps.refl _).drew | exact (Keeps.refl _).drewN _))).mono ?_); rintro e w4 ⟨A4, c4, rfl, hR4, hk4, hz4⟩; have hz4 := Lib.hid hz4; have hR4 := Lib.hid (hR4.low (Keeps.size (w0 := w) (HB.out.trans (by first | assumption | exact Keeps.drew (by assumption) | exact Keeps.drewN (by assumption) _)))); replace hk : Keeps W0 w4 := Keeps.trans (by first | assumption | exact Keeps.drew (by assumption) | exact Keeps.drewN (by assumption) _) hk4; clear hk4) | fail "ARM")
        cases hav : allV R with
        | false =>
          rw [hav, if_pos rfl] at hE'
          have hf := Lib.hid (And.intro hE' (hno.out _ hE' (by decide)))
          rw [hav] at KQ
          clear hav hE'
          go_wp2_with (go_at_call 16; (with_reducible refine (keepk2 (KQ.out _ _ _ hR4.out.rws) hk).mono ?_); rintro e w5 ⟨rfl, hk5, hk⟩; have hk5 := Lib.hid hk5)
          go_ret2
          obtain ⟨e1, e2⟩ := hf.out
          rw [e1, e2]
          exact ⟨none, 0, rfl, RwsU.nil _ _, HB.out.trans hk, fun _ => ⟨rfl, rfl⟩⟩
        | true =>
          rw [hav, if_neg (by decide)] at hE'
          rw [hav] at KQ
          have hvz : vy = cnt R := by rw [hvy.out, hav, if_pos rfl]
          clear hav
          by_cases hc : 4096 < cnt R
          · rw [if_pos hc] at hE'
            have hf := Lib.hid (And.intro hE' (hno.out _ hE' (by decide)))
            have hci : (4096 : Int) < vy := by omega
            clear hE' hvz
            go_wp2_with (go_at_call 16; (with_reducible refine (keepk2 (KQ.out _ _ _ hR4.out.rws) hk).mono ?_); rintro e w5 ⟨rfl, hk5, hk⟩; have hk5 := Lib.hid hk5)
            go_ret2
            obtain ⟨e1, e2⟩ := hf.out
            rw [e1, e2]
            exact ⟨none, 0, rfl, RwsU.nil _ _, HB.out.trans hk, fun _ => ⟨rfl, rfl⟩⟩
          · rw [if_neg hc] at hE'
            have hy := hyes.out hE'
            have hf := Lib.hid (And.intro hE' hy)
            have hci : ¬ (4096 : Int) < vy := by omega
            clear hE' hvz hy
            go_wp2_with (go_at_call 16; (with_reducible refine (keepk2 (KQ.out _ _ _ hR4.out.rws) hk).mono ?_); rintro e w5 ⟨rfl, hk5, hk⟩; have hk5 := Lib.hid hk5)
            go_ret2
            obtain ⟨e1, e2⟩ := hf.out
            rw [e1, e2]
            exact ⟨_, _, rfl, hR4.out.keep hk5.out, HB.out.trans hk, hz4.out⟩
end
end

section
open Go.RowKit
set_option linter.unusedVariables false
set_option linter.unusedSimpArgs false
def line24 : List Pt := [(0, 0), (512, 0)]
def ring24 : List Pt := [(0, -128), (512, -128), (512, 128), (0, 128)]
def spot24 : List Pt := [(300, 300)]
theorem ok_all (L : List Pt) (h : L.all (fun p => decide (-9223372036854775808 ≤ p.1) && decide (p.1 ≤ 9223372036854775807) && (decide (-9223372036854775808 ≤ p.2) && decide (p.2 ≤ 9223372036854775807))) = true) : ∀ p ∈ L, okP p := by
  intro p hp
  have := List.all_eq_true.1 h p hp
  simp only [Bool.and_eq_true, decide_eq_true_eq] at this
  exact ⟨this.1, this.2⟩
theorem RetE.alone {w w' : World} {LL : List (List Pt)} {L : List Pt} {e : Ending} {k : Nat} {er : Int} (h : RetE w LL er e w') (hL : LL = [L]) (hk : L.length = k) :
    ∃ b o c Ak ck, e = .returned (.tuple #[.slice (some ⟨b, o, none⟩) 1 c, .int .i64 er]) ∧ (∀ w2, Keeps w' w2 → w2.cell? ⟨b, o, none⟩ = some (.slice Ak k ck)) ∧ RwsU w.heap.size w' (some ⟨b, o, none⟩) 1 c [L] ∧ Keeps w w' := by
  subst hL
  obtain ⟨A, c, rfl, hR, hkk, -⟩ := h
  obtain ⟨b, o, rfl, _, hb, hc⟩ := hR.2.2.2 (by simp)
  obtain ⟨Ak, nk, ck, e1, hP, _⟩ := hc 0 (by simp)
  have e2 : nk = k := by rw [← hP.1, ← hk]; rfl
  subst e2
  exact ⟨b, o, c, Ak, ck, rfl, fun w2 h => (h.cell hb).trans e1, hR, hkk⟩
set_option maxRecDepth 100000 in
set_option maxHeartbeats 2000000 in
theorem example24_any (w : World) : Calls Tryz.prog 6 #[] w fun e w' => e = .returned (.bool true) ∧ Keeps w w' := by
  have hI : ∀ w, Ins w none 0 0 [] := fun w => ⟨rfl, Nat.le_refl _, Nat.zero_le _, (fun p hp => by cases hp), (fun h => absurd h (by omega))⟩
  have K1 := Lib.hid (fun w A (hP : Pts w A 2 2 line24) => (poly_any false A 2 2 line24 256 1 4 1024 0 none 0 0 [] w hP (hI w) (by omega)).mono fun e w' h => h.alone (L := ring24) (k := 4) (by decide +kernel) rfl)
  have K2 := Lib.hid (fun w A (hP : Pts w A 1 1 spot24) => (poly_any false A 1 1 spot24 256 1 3 1024 0 none 0 0 [] w hP (hI w) (by omega)).mono fun e w' h => h.alone (L := discL (300, 300) 256) (k := 16) (by decide +kernel) (by decide +kernel))
  rw [show polyE false line24 256 1 4 1024 0 [] = 0 by decide +kernel] at K1
  rw [show polyE false spot24 256 1 3 1024 0 [] = 0 by decide +kernel] at K2
  generalize discL (300, 300) 256 = X at *
  have HS := Lib.hid (show ∀ w', Keeps (w.alloc (.cells #[.int .i64 256, .int .i64 1, .int .i64 4, .int .i64 1024, .slice none 0 0, .int .i64 0] 27)) w' → w'.cell? ⟨w.heap.size, 0, none⟩ = some (.int .i64 256) ∧ w'.frozen? ⟨w.heap.size, 0, none⟩ = false ∧ w'.cell? ⟨w.heap.size, 1, none⟩ = some (.int .i64 1) ∧ w'.frozen? ⟨w.heap.size, 1, none⟩ = false ∧ w'.cell? ⟨w.heap.size, 2, none⟩ = some (.int .i64 4) ∧ w'.frozen? ⟨w.heap.size, 2, none⟩ = false ∧ w'.cell? ⟨w.heap.size, 3, none⟩ = some (.int .i64 1024) ∧ w'.frozen? ⟨w.heap.size, 3, none⟩ = false ∧ w'.cell? ⟨w.heap.size, 4, none⟩ = some (.slice none 0 0) ∧ w'.frozen? ⟨w.heap.size, 4, none⟩ = false ∧ w'.cell? ⟨w.heap.size, 5, none⟩ = some (.int .i64 0) ∧ w'.frozen? ⟨w.heap.size, 5, none⟩ = false from fun w' hk => ⟨(hk.cell (p := ⟨w.heap.size, 0, none⟩) (by first | (simp; done) | (simp; omega))).trans (by simp [go_sem]), (hk.frozen (p := ⟨w.heap.size, 0, none⟩) (by first | (simp; done) | (simp; omega))).trans (by simp [go_sem]), (hk.cell (p := ⟨w.heap.size, 1, none⟩) (by first | (simp; done) | (simp; omega))).trans (by simp [go_sem]), (hk.frozen (p := ⟨w.heap.size, 1, none⟩) (by first | (simp; done) | (simp; omega))).trans (by simp [go_sem]), (hk.cell (p := ⟨w.heap.size, 2, none⟩) (by first | (simp; done) | (simp; omega))).trans (by simp [go_sem]), (hk.frozen (p := ⟨w.heap.size, 2, none⟩) (by first | (simp; done) | (simp; omega))).trans (by simp [go_sem]), (hk.cell (p := ⟨w.heap.size, 3, none⟩) (by first | (simp; done) | (simp; omega))).trans (by simp [go_sem]), (hk.frozen (p := ⟨w.heap.size, 3, none⟩) (by first | (simp; done) | (simp; omega))).trans (by simp [go_sem]), (hk.cell (p := ⟨w.heap.size, 4, none⟩) (by first | (simp; done) | (simp; omega))).trans (by simp [go_sem]), (hk.frozen (p := ⟨w.heap.size, 4, none⟩) (by first | (simp; done) | (simp; omega))).trans (by simp [go_sem]), (hk.cell (p := ⟨w.heap.size, 5, none⟩) (by first | (simp; done) | (simp; omega))).trans (by simp [go_sem]), (hk.frozen (p := ⟨w.heap.size, 5, none⟩) (by first | (simp; done) | (simp; omega))).trans (by simp [go_sem])⟩)
  have HB := Lib.hid (show Keeps w (w.alloc (.cells #[.int .i64 256, .int .i64 1, .int .i64 4, .int .i64 1024, .slice none 0 0, .int .i64 0] 27)) from (by (repeat (first | (with_reducible exact Keeps.refl _) | (with_reducible assumption) | (with_reducible refine Keeps.drewN ?_ _) | (with_reducible refine Keeps.drew ?_) | (with_reducible refine Keeps.alloc ?_ _) | (with_reducible refine Keeps.setNew ?_ ?_ _))) <;> (dsimp only; omega)))
  have hk0 := Keeps.refl (w.alloc (.cells #[.int .i64 256, .int .i64 1, .int .i64 4, .int .i64 1024, .slice none 0 0, .int .i64 0] 27))
  clear hI
  have hP1 := Lib.hid (show Pts ((w.alloc (.cells #[.int .i64 256, .int .i64 1, .int .i64 4, .int .i64 1024, .slice none 0 0, .int .i64 0] 27)).alloc (.cells #[.int .i64 0, .int .i64 0, .int .i64 512, .int .i64 0] 37)) (some ⟨w.heap.size + 1, 0, none⟩) 2 2 line24 from Pts.litH _ line24 (ok_all _ (by decide)) _ _ 2 (by simp) rfl (by unfold maxLen; omega))
  go_enter Tryz.func6, Tryz.ntmps6
  go_upto_region 4 with (go_at_call 7; (with_reducible refine (K1.out _ _ hP1.out).mono ?_); rintro e w1 ⟨b1, o1, c1, A1, d1, rfl, hc1, hR1, hk1⟩; clear hc1; have hR1 := Lib.hid (hR1.low (show w.heap.size + 1 ≤ _ by simp)); have hk1 := ((Keeps.refl _).alloc _).trans hk1; obtain ⟨y0, y1, y2, y3, y4, y5, y6, y7, y8, y9, y10, y11⟩ := HS.out _ hk1)
  refine name_world (fun W2 hW2 => ?_)
  have z0 : W2.cell? ⟨w.heap.size, 0, none⟩ = some (.int .i64 256) := by rw [hW2]; exact (setOff _ _ _ _ _ (by decide)).trans y0
  have z1 : W2.cell? ⟨w.heap.size, 1, none⟩ = some (.int .i64 1) := by rw [hW2]; exact (setOff _ _ _ _ _ (by decide)).trans y2
  have z2 : W2.cell? ⟨w.heap.size, 2, none⟩ = some (.int .i64 3) := by rw [hW2]; simp [go_sem, y4]
  have z3 : W2.cell? ⟨w.heap.size, 3, none⟩ = some (.int .i64 1024) := by rw [hW2]; exact (setOff _ _ _ _ _ (by decide)).trans y6
  have z4 : W2.cell? ⟨w.heap.size, 4, none⟩ = some (.slice none 0 0) := by rw [hW2]; exact (setOff _ _ _ _ _ (by decide)).trans y8
  have z5 : W2.cell? ⟨w.heap.size, 5, none⟩ = some (.int .i64 0) := by rw [hW2]; exact (setOff _ _ _ _ _ (by decide)).trans y10
  have hkW : Keeps w W2 := by rw [hW2]; exact (HB.out.trans hk1).setNew (Nat.le_refl _) _
  have hR2 := Lib.hid (show RwsU (w.heap.size + 1) W2 (some ⟨b1, o1, none⟩) 1 c1 [ring24] by
    rw [hW2]
    exact hR1.out.step (KeepsWalks.setCell w1 ⟨w.heap.size, 2, none⟩ (.int .i64 3)).size (fun p h1 h2 => World.cell?_setCell_other _ _ _ _ (fun e => by have := congrArg Addr.block e; dsimp only at this; omega)) (fun p h1 h2 => World.frozen?_setCell _ _ _ _))
  have hlt2 : w.heap.size < W2.heap.size := World.block_lt_of_cell? W2 _ z0
  have hP2 := Lib.hid (show Pts (W2.alloc (.cells #[.int .i64 300, .int .i64 300] 37)) (some ⟨W2.heap.size, 0, none⟩) 1 1 spot24 from Pts.litH W2 spot24 (ok_all _ (by decide)) _ _ 1 rfl rfl (by unfold maxLen; omega))
  clear hW2 y0 y1 y2 y3 y4 y5 y6 y7 y8 y9 y10 y11 hR1 hk1 HS hk0
  have x0 := (((Keeps.refl W2).alloc (.cells #[.int .i64 300, .int .i64 300] 37)).cell (p := ⟨w.heap.size, 0, none⟩) hlt2).trans z0
  have x1 := (((Keeps.refl W2).alloc (.cells #[.int .i64 300, .int .i64 300] 37)).cell (p := ⟨w.heap.size, 1, none⟩) hlt2).trans z1
  have x2 := (((Keeps.refl W2).alloc (.cells #[.int .i64 300, .int .i64 300] 37)).cell (p := ⟨w.heap.size, 2, none⟩) hlt2).trans z2
  have x3 := (((Keeps.refl W2).alloc (.cells #[.int .i64 300, .int .i64 300] 37)).cell (p := ⟨w.heap.size, 3, none⟩) hlt2).trans z3
  have x4 := (((Keeps.refl W2).alloc (.cells #[.int .i64 300, .int .i64 300] 37)).cell (p := ⟨w.heap.size, 4, none⟩) hlt2).trans z4
  have x5 := (((Keeps.refl W2).alloc (.cells #[.int .i64 300, .int .i64 300] 37)).cell (p := ⟨w.heap.size, 5, none⟩) hlt2).trans z5
  clear z0 z1 z2 z3 z4 z5
  go_upto_region 5 with (go_at_call 7; (with_reducible refine (K2.out _ _ hP2.out).mono ?_); rintro e w3 ⟨b3, o3, c3, A3, d3, rfl, hc3, hR3, hk3⟩; clear hR3; have hk3 := ((Keeps.refl _).alloc _).trans hk3)
  have hP3 := Lib.hid (show Pts (w3.alloc (.cells #[.int .i64 0, .int .i64 (-128), .int .i64 512, .int .i64 (-128), .int .i64 512, .int .i64 128, .int .i64 0, .int .i64 128] 37)) (some ⟨w3.heap.size, 0, none⟩) 4 4 ring24 from Pts.litH w3 ring24 (ok_all _ (by decide)) _ _ 4 rfl rfl (by unfold maxLen; omega))
  have KS := Lib.hid (fun W t (hW : Keeps w3 W) (hs : Pts W (some ⟨w3.heap.size, 0, none⟩) 4 4 ring24) => same24_any (some ⟨b1, o1, none⟩) (some ⟨W.heap.size, 0, none⟩) 1 c1 1 [ring24] _ ((hR2.out.rws.keep (hk3.trans hW)).keep ((Keeps.refl W).alloc _)) (Rws.lone W (some ⟨w3.heap.size, 0, none⟩) 4 4 ring24 t hs (by omega)))
  have hc3 := Lib.hid hc3
  have hsz : (w3.alloc (.cells #[.int .i64 0, .int .i64 (-128), .int .i64 512, .int .i64 (-128), .int .i64 512, .int .i64 128, .int .i64 0, .int .i64 128] 37)).heap.size = w3.heap.size + 1 := by simp
  go_wp2_with (go_at_call 10; have h4 := KS.out _ 22 ((Keeps.refl w3).alloc (.cells #[.int .i64 0, .int .i64 (-128), .int .i64 512, .int .i64 (-128), .int .i64 512, .int .i64 128, .int .i64 0, .int .i64 128] 37)) hP3.out; rw [hsz] at h4; (with_reducible refine h4.mono ?_); rintro e w5 ⟨rfl, hk5⟩; have hk5 := (((Keeps.refl w3).alloc _).alloc _).trans hk5; have e3 := hc3.out _ hk5)
  go_ret
  exact ⟨rfl, (hkW.trans hk3).trans hk5⟩
end
end Go.Proofs.YtdodgnpjlicnoaaGreat
