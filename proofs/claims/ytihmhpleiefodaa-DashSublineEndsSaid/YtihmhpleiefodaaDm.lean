/- dash.Apply: what it answers; its short ways. -/
import Derived.Test.YtihmhpleiefodaaDl
import Derived.Test.YtihmhpleiefodaaDj
import Derived.Test.YtihmhpleiefodaaOz
namespace Go.Proofs.Ytihmhpleiefodaa
open Go.RowKit Go.Shelf
attribute [local go_sem ↓] Go.wp_at_zero Go.wp_at_succ
set_option linter.unusedVariables false
set_option linter.unusedSimpArgs false
/-- The line of one interval. -/
def one (cl : Bool) (S : List (Pt × Pt)) (M : List Pt) (x : Int × Int) : Bool × List Pt := if cl = true ∧ x.1 = 0 ∧ x.2 = lng S then (cl, M) else (false, cutL S M x.1 x.2)
def cnt (PL : List (Bool × List Pt)) : Nat := (PL.map fun p => p.2.length).sum
/-- What Apply answers. -/
def apV (cl : Bool) (L : List Pt) (wd jn cp ml ph : Int) (D : List Int) : List (Bool × List Pt) × Int :=
  if stB wd jn cp ml ph D = false then ([], 13) else if L.all vP = false then ([], 6) else if D.length = 0 then ([(cl, dedC cl L)], 0)
  else if 4096 < cnt ((onL wd jn cp ml ph D (lng (segs cl (dedC cl L)))).map (one cl (segs cl (dedC cl L)) (dedC cl L))) then ([], 5)
  else ((onL wd jn cp ml ph D (lng (segs cl (dedC cl L)))).map (one cl (segs cl (dedC cl L)) (dedC cl L)), 0)
def ApR (w : World) (r : List (Bool × List Pt) × Int) (e : Ending) (w' : World) : Prop := ∃ A c, e = .returned (.tuple #[.slice A r.1.length c, .int .i64 r.2]) ∧ Pls w' A r.1.length c r.1 ∧ Keeps w w'
theorem Pls.nil (w : World) : Pls w none 0 0 [] := ⟨rfl, Nat.le_refl _, Nat.zero_le _, fun h => absurd h (by omega)⟩
set_option maxRecDepth 100000 in
set_option maxHeartbeats 2000000 in
theorem apply_short (cl : Bool) (A : Option Addr) (n c : Nat) (L : List Pt) (wd jn cp ml ph : Int) (Ad : Option Addr) (nd cd : Nat) (D : List Int) (w : World) (h : Pts w A n c L) (hI : Ins w Ad nd cd D) (hn : n ≤ 4096)
    (hsh : stB wd jn cp ml ph D = false ∨ L.all vP = false ∨ nd = 0) :
    Calls Try.prog 19 #[.agg #[.slice A n c, .bool cl], .agg #[.int .i64 wd, .int .i64 jn, .int .i64 cp, .int .i64 ml, .slice Ad nd cd, .int .i64 ph]] w (ApR w (apV cl L wd jn cp ml ph D)) := by
  have hl := h.1
  have hdl := hI.1
  have HS := Lib.hid (show ∀ w', Keeps ((((w.alloc (.cells #[.slice A n c, .bool cl] 24)).alloc (.cells #[.int .i64 wd, .int .i64 jn, .int .i64 cp, .int .i64 ml, .slice Ad nd cd, .int .i64 ph] 27)).alloc (.cells #[.slice none 0 0] 40)).alloc (.cells #[.int .i64 0] 41)) w' → w'.cell? ⟨w.heap.size, 0, none⟩ = some (.slice A n c) ∧ w'.frozen? ⟨w.heap.size, 0, none⟩ = false ∧ w'.cell? ⟨w.heap.size, 1, none⟩ = some (.bool cl) ∧ w'.frozen? ⟨w.heap.size, 1, none⟩ = false ∧ w'.cell? ⟨w.heap.size + 1, 0, none⟩ = some (.int .i64 wd) ∧ w'.frozen? ⟨w.heap.size + 1, 0, none⟩ = false ∧ w'.cell? ⟨w.heap.size + 1, 1, none⟩ = some (.int .i64 jn) ∧ w'.frozen? ⟨w.heap.size + 1, 1, none⟩ = false ∧ w'.cell? ⟨w.heap.size + 1, 2, none⟩ = some (.int .i64 cp) ∧ w'.frozen? ⟨w.heap.size + 1, 2, none⟩ = false ∧ w'.cell? ⟨w.heap.size + 1, 3, none⟩ = some (.int .i64 ml) ∧ w'.frozen? ⟨w.heap.size + 1, 3, none⟩ = false ∧ w'.cell? ⟨w.heap.size + 1, 4, none⟩ = some (.slice Ad nd cd) ∧ w'.frozen? ⟨w.heap.size + 1, 4, none⟩ = false ∧ w'.cell? ⟨w.heap.size + 1, 5, none⟩ = some (.int .i64 ph) ∧ w'.frozen? ⟨w.heap.size + 1, 5, none⟩ = false ∧ w'.cell? ⟨w.heap.size + 1 + 1, 0, none⟩ = some (.slice none 0 0) ∧ w'.frozen? ⟨w.heap.size + 1 + 1, 0, none⟩ = false ∧ w'.cell? ⟨w.heap.size + 1 + 1 + 1, 0, none⟩ = some (.int .i64 0) ∧ w'.frozen? ⟨w.heap.size + 1 + 1 + 1, 0, none⟩ = false from fun w' hk => ⟨(hk.cell (p := ⟨w.heap.size, 0, none⟩) (by first | (simp; done) | (simp; omega))).trans (by simp [go_sem]), (hk.frozen (p := ⟨w.heap.size, 0, none⟩) (by first | (simp; done) | (simp; omega))).trans (by simp [go_sem]), (hk.cell (p := ⟨w.heap.size, 1, none⟩) (by first | (simp; done) | (simp; omega))).trans (by simp [go_sem]), (hk.frozen (p := ⟨w.heap.size, 1, none⟩) (by first | (simp; done) | (simp; omega))).trans (by simp [go_sem]), (hk.cell (p := ⟨w.heap.size + 1, 0, none⟩) (by first | (simp; done) | (simp; omega))).trans (by simp [go_sem]), (hk.frozen (p := ⟨w.heap.size + 1, 0, none⟩) (by first | (simp; done) | (simp; omega))).trans (by simp [go_sem]), (hk.cell (p := ⟨w.heap.size + 1, 1, none⟩) (by first | (simp; done) | (simp; omega))).trans (by simp [go_sem]), (hk.frozen (p := ⟨w.heap.size + 1, 1, none⟩) (by first | (simp; done) | (simp; omega))).trans (by simp [go_sem]), (hk.cell (p := ⟨w.heap.size + 1, 2, none⟩) (by first | (simp; done) | (simp; omega))).trans (by simp [go_sem]), (hk.frozen (p := ⟨w.heap.size + 1, 2, none⟩) (by first | (simp; done) | (simp; omega))).trans (by simp [go_sem]), (hk.cell (p := ⟨w.heap.size + 1, 3, none⟩) (by first | (simp; done) | (simp; omega))).trans (by simp [go_sem]), (hk.frozen (p := ⟨w.heap.size + 1, 3, none⟩) (by first | (simp; done) | (simp; omega))).trans (by simp [go_sem]), (hk.cell (p := ⟨w.heap.size + 1, 4, none⟩) (by first | (simp; done) | (simp; omega))).trans (by simp [go_sem]), (hk.frozen (p := ⟨w.heap.size + 1, 4, none⟩) (by first | (simp; done) | (simp; omega))).trans (by simp [go_sem]), (hk.cell (p := ⟨w.heap.size + 1, 5, none⟩) (by first | (simp; done) | (simp; omega))).trans (by simp [go_sem]), (hk.frozen (p := ⟨w.heap.size + 1, 5, none⟩) (by first | (simp; done) | (simp; omega))).trans (by simp [go_sem]), (hk.cell (p := ⟨w.heap.size + 1 + 1, 0, none⟩) (by first | (simp; done) | (simp; omega))).trans (by simp [go_sem]), (hk.frozen (p := ⟨w.heap.size + 1 + 1, 0, none⟩) (by first | (simp; done) | (simp; omega))).trans (by simp [go_sem]), (hk.cell (p := ⟨w.heap.size + 1 + 1 + 1, 0, none⟩) (by first | (simp; done) | (simp; omega))).trans (by simp [go_sem]), (hk.frozen (p := ⟨w.heap.size + 1 + 1 + 1, 0, none⟩) (by first | (simp; done) | (simp; omega))).trans (by simp [go_sem])⟩)
  have HB := Lib.hid (show Keeps w ((((w.alloc (.cells #[.slice A n c, .bool cl] 24)).alloc (.cells #[.int .i64 wd, .int .i64 jn, .int .i64 cp, .int .i64 ml, .slice Ad nd cd, .int .i64 ph] 27)).alloc (.cells #[.slice none 0 0] 40)).alloc (.cells #[.int .i64 0] 41)) from (by (repeat (first | (with_reducible exact Keeps.refl _) | (with_reducible assumption) | (with_reducible refine Keeps.drewN ?_ _) | (with_reducible refine Keeps.drew ?_) | (with_reducible refine Keeps.alloc ?_ _) | (with_reducible refine Keeps.setNew ?_ ?_ _))) <;> (dsimp only; omega)))
  have hk0 := Keeps.refl ((((w.alloc (.cells #[.slice A n c, .bool cl] 24)).alloc (.cells #[.int .i64 wd, .int .i64 jn, .int .i64 cp, .int .i64 ml, .slice Ad nd cd, .int .i64 ph] 27)).alloc (.cells #[.slice none 0 0] 40)).alloc (.cells #[.int .i64 0] 41))
  have KV := Lib.hid (fun w' (hk : Keeps w w') => style_any wd jn cp ml ph Ad nd cd D w' (hI.keep hk))
  obtain ⟨y0, y1, y2, y3, y4, y5, y6, y7, y8, y9, y10, y11, y12, y13, y14, y15, y16, y17, y18, y19⟩ := HS.out _ hk0
  cases hs : stB wd jn cp ml ph D with
  | false =>
    have hR := Lib.hid (show apV cl L wd jn cp ml ph D = ([], 13) by unfold apV; rw [if_pos hs])
    rw [hs] at KV
    rw [hR.out]
    clear hs h hI hsh
    go_enter Try.func19, Try.ntmps19
    go_wp2_with (go_at_call 31; (with_reducible refine (KV.out _ HB.out).mono ?_); rintro e w1 ⟨rfl, hk1⟩; obtain ⟨z0, z1, z2, z3, z4, z5, z6, z7, z8, z9, z10, z11, z12, z13, z14, z15, z16, z17, z18, z19⟩ := HS.out _ hk1)
    refine bodyPost_ret (v := .tuple #[.slice none 0 0, .int .i64 13]) (by simp [results, Try.results19, go_sem, *]) rfl ⟨none, 0, rfl, Pls.nil _, ?_⟩
    exact ((HB.out.trans hk1).setNew (by dsimp only; omega) _).setNew (by dsimp only; omega) _
  | true =>
    rw [hs] at KV
    cases hv : L.all vP with
    | false =>
      have hR := Lib.hid (show apV cl L wd jn cp ml ph D = ([], 6) by unfold apV; rw [if_neg (by rw [hs]; simp), if_pos hv])
      have KM := Lib.hid (fun w' (hk : Keeps w w') => measure_no cl A n c L w' (h.keep hk) hv)
      rw [hR.out]
      clear hs h hI hsh hv
      go_enter Try.func19, Try.ntmps19
      go_wp2_with (first | (go_at_call 31; (with_reducible refine (KV.out _ HB.out).mono ?_); rintro e w1 ⟨rfl, hk1⟩; obtain ⟨z0, z1, z2, z3, z4, z5, z6, z7, z8, z9, z10, z11, z12, z13, z14, z15, z16, z17, z18, z19⟩ := HS.out _ hk1) | (go_at_call 27; (with_reducible refine (KM.out _ (HB.out.trans hk1)).mono ?_); rintro e w2 ⟨rfl, hk2⟩; have hk3 := hk1.trans hk2; clear y0 y1 y2 y3 y4 y5 y6 y7 y8 y9 y10 y11 y12 y13 y14 y15 y16 y17 y18 y19 z0 z1 z2 z3 z4 z5 z6 z7 z8 z9 z10 z11 z12 z13 z14 z15 z16 z17 z18 z19; obtain ⟨y0, y1, y2, y3, y4, y5, y6, y7, y8, y9, y10, y11, y12, y13, y14, y15, y16, y17, y18, y19⟩ := HS.out _ hk3; have hs3 := hk3.size; simp only [World.size_alloc] at hs3; have hs4a : w.heap.size + 1 + 1 + 1 < w2.heap.size := hs3; have hs4b : w.heap.size + 1 + 1 < w2.heap.size := (by omega); have hs4c : w.heap.size + 1 < w2.heap.size := (by omega); have hs4d : w.heap.size < w2.heap.size := (by omega)))
      refine bodyPost_ret (v := .tuple #[.slice none 0 0, .int .i64 6]) (by simp [results, Try.results19, go_sem, *]) rfl ⟨none, 0, rfl, Pls.nil _, ?_⟩
      exact (((HB.out.trans hk3).setNew (by dsimp only; omega) _).setNew (by dsimp only; omega) _).alloc _
    | true =>
      obtain rfl : nd = 0 := by
        rcases hsh with h1 | h1 | h1
        · rw [hs] at h1; cases h1
        · rw [hv] at h1; cases h1
        · exact h1
      have hR := Lib.hid (show apV cl L wd jn cp ml ph D = ([(cl, dedC cl L)], 0) by unfold apV; rw [if_neg (by rw [hs]; simp), if_neg (by rw [hv]; simp), if_pos hdl])
      have KM := Lib.hid (fun w' (hk : Keeps w w') => measure_yes cl A n c L w' (h.keep hk) (by omega) hv)
      have KD := Lib.hid (fun w' (hk : Keeps w w') => dedup_any cl A n c L w' (h.keep hk) (by omega))
      have hn2 : ¬ (4096 : Int) < n := by omega
      rw [hR.out]
      clear hs h hI hsh hv
      go_enter Try.func19, Try.ntmps19
      go_wp2_with (first | (go_at_call 31; (with_reducible refine (KV.out _ HB.out).mono ?_); rintro e w1 ⟨rfl, hk1⟩; obtain ⟨z0, z1, z2, z3, z4, z5, z6, z7, z8, z9, z10, z11, z12, z13, z14, z15, z16, z17, z18, z19⟩ := HS.out _ hk1) | (go_at_call 27; (with_reducible refine (KM.out _ (HB.out.trans hk1)).mono ?_); rintro e w2 ⟨hk2, A1, c1, A2, c2, rfl, hP, hJ⟩; clear hP hJ; have hk3 := hk1.trans hk2; clear y0 y1 y2 y3 y4 y5 y6 y7 y8 y9 y10 y11 y12 y13 y14 y15 y16 y17 y18 y19 z0 z1 z2 z3 z4 z5 z6 z7 z8 z9 z10 z11 z12 z13 z14 z15 z16 z17 z18 z19; obtain ⟨y0, y1, y2, y3, y4, y5, y6, y7, y8, y9, y10, y11, y12, y13, y14, y15, y16, y17, y18, y19⟩ := HS.out _ hk3; have hs3 := hk3.size; simp only [World.size_alloc] at hs3; have hs4a : w.heap.size + 1 + 1 + 1 < w2.heap.size := hs3; have hs4b : w.heap.size + 1 + 1 < w2.heap.size := (by omega); have hs4c : w.heap.size + 1 < w2.heap.size := (by omega); have hs4d : w.heap.size < w2.heap.size := (by omega)) | (go_at_call 39; (with_reducible refine (KD.out _ ((HB.out.trans hk3).alloc _)).mono ?_); rintro e w4 ⟨A4, c4, rfl, hP4, hk4, ho4⟩; have hk5 := (hk3.alloc _).trans hk4; clear y0 y1 y2 y3 y4 y5 y6 y7 y8 y9 y10 y11 y12 y13 y14 y15 y16 y17 y18 y19 ; obtain ⟨y0, y1, y2, y3, y4, y5, y6, y7, y8, y9, y10, y11, y12, y13, y14, y15, y16, y17, y18, y19⟩ := HS.out _ hk5; have hs5 := hk5.size; simp only [World.size_alloc] at hs5; have hs6a : w.heap.size + 1 + 1 + 1 < w4.heap.size := hs5; have hs6b : w.heap.size + 1 + 1 < w4.heap.size := (by omega); have hs6c : w.heap.size + 1 < w4.heap.size := (by omega); have hs6d : w.heap.size < w4.heap.size := (by omega)))
      have hnw := (new_of_own ho4).le (B' := w.heap.size + 4) (by simp; omega)
      have hne1 : ∀ b o, A4 = some ⟨b, o, none⟩ → b ≠ w.heap.size + 1 + 1 := fun b o e => by have := hnw b o e; omega
      have hne2 : ∀ b o, A4 = some ⟨b, o, none⟩ → b ≠ w.heap.size + 1 + 1 + 1 := fun b o e => by have := hnw b o e; omega
      have hP5 := ((hP4.far hne1 0 (.slice (some ⟨w4.heap.size, 0, none⟩) 1 1)).far hne2 0 (.int .i64 0)).keep ((Keeps.refl _).alloc (.cells #[.slice A4 (dedC cl L).length c4, .bool cl] 24))
      have hk9 := (((HB.out.trans hk5).setNew (p := ⟨w.heap.size + 1 + 1, 0, none⟩) (by dsimp only; omega) (.slice (some ⟨w4.heap.size, 0, none⟩) 1 1)).setNew (p := ⟨w.heap.size + 1 + 1 + 1, 0, none⟩) (by dsimp only; omega) (.int .i64 0)).alloc (.cells #[.slice A4 (dedC cl L).length c4, .bool cl] 24)
      refine bodyPost_ret (v := .tuple #[.slice (some ⟨w4.heap.size, 0, none⟩) 1 1, .int .i64 0]) (by simp [results, Try.results19, go_sem, *]) rfl ⟨some ⟨w4.heap.size, 0, none⟩, 1, rfl, ⟨rfl, Nat.le_refl _, by unfold maxLen; simp, fun _ => ⟨w4.heap.size, 0, rfl, by simp, fun k hk => ?_⟩⟩, hk9⟩
      obtain rfl : k = 0 := by have : k < 1 := hk; omega
      exact ⟨A4, _, c4, by simp [go_sem], by simp [go_sem], hP5⟩
end Go.Proofs.Ytihmhpleiefodaa
