/- StrokeIgnoresDuplicates of grisaillelaw24 returns true for all its arguments; no condition. -/
import Derived.Test.YtdodgnpjlicnoaaOy
import Derived.Test.YtdodgnpjlicnoaaOp
import Derived.Test.YtdodgnpjlicnoaaKo
namespace Go.Proofs.Ytdodgnpjlicnoaa.strokeIgnoresDuplicates
open Go.RowKit Go.ChangeShapes Go.WideShapes Go.ChangeAt
set_option linter.unusedVariables false
open Go.Proofs.Ytdodgnpjlicnoaa
set_option linter.unusedSimpArgs false
set_option maxRecDepth 100000 in
set_option maxHeartbeats 4000000 in
theorem walk (cl : Bool) (A : Option Addr) (n c : Nat) (L : List Pt) (wd jn cp ml ph : Int) (Ad : Option Addr) (nd cd : Nat) (D : List Int) (w : World) (P : Pts w A n c L) (I : Ins w Ad nd cd D) (hB : i64b wd ∧ i64b jn ∧ i64b cp ∧ i64b ml ∧ i64b ph) :
    Calls Try.prog 11 #[.agg #[.slice A n c, .bool cl], .agg #[.int .i64 wd, .int .i64 jn, .int .i64 cp, .int .i64 ml, .slice Ad nd cd, .int .i64 ph]] w fun e w' => e = .returned (.bool true) ∧ Keeps w w' := by
  clear hB
  have hl := P.1
  have HS := Lib.hid (show ∀ w', Keeps ((w.alloc (.cells #[.slice A n c, .bool cl] 49)).alloc (.cells #[.int .i64 wd, .int .i64 jn, .int .i64 cp, .int .i64 ml, .slice Ad nd cd, .int .i64 ph] 35)) w' → w'.cell? ⟨w.heap.size, 0, none⟩ = some (.slice A n c) ∧ w'.frozen? ⟨w.heap.size, 0, none⟩ = false ∧ w'.cell? ⟨w.heap.size, 1, none⟩ = some (.bool cl) ∧ w'.frozen? ⟨w.heap.size, 1, none⟩ = false ∧ w'.cell? ⟨w.heap.size + 1, 0, none⟩ = some (.int .i64 wd) ∧ w'.frozen? ⟨w.heap.size + 1, 0, none⟩ = false ∧ w'.cell? ⟨w.heap.size + 1, 1, none⟩ = some (.int .i64 jn) ∧ w'.frozen? ⟨w.heap.size + 1, 1, none⟩ = false ∧ w'.cell? ⟨w.heap.size + 1, 2, none⟩ = some (.int .i64 cp) ∧ w'.frozen? ⟨w.heap.size + 1, 2, none⟩ = false ∧ w'.cell? ⟨w.heap.size + 1, 3, none⟩ = some (.int .i64 ml) ∧ w'.frozen? ⟨w.heap.size + 1, 3, none⟩ = false ∧ w'.cell? ⟨w.heap.size + 1, 4, none⟩ = some (.slice Ad nd cd) ∧ w'.frozen? ⟨w.heap.size + 1, 4, none⟩ = false ∧ w'.cell? ⟨w.heap.size + 1, 5, none⟩ = some (.int .i64 ph) ∧ w'.frozen? ⟨w.heap.size + 1, 5, none⟩ = false from fun w' hk => ⟨(hk.cell (p := ⟨w.heap.size, 0, none⟩) (by first | (simp; done) | (simp; omega))).trans (by simp [go_sem]), (hk.frozen (p := ⟨w.heap.size, 0, none⟩) (by first | (simp; done) | (simp; omega))).trans (by simp [go_sem]), (hk.cell (p := ⟨w.heap.size, 1, none⟩) (by first | (simp; done) | (simp; omega))).trans (by simp [go_sem]), (hk.frozen (p := ⟨w.heap.size, 1, none⟩) (by first | (simp; done) | (simp; omega))).trans (by simp [go_sem]), (hk.cell (p := ⟨w.heap.size + 1, 0, none⟩) (by first | (simp; done) | (simp; omega))).trans (by simp [go_sem]), (hk.frozen (p := ⟨w.heap.size + 1, 0, none⟩) (by first | (simp; done) | (simp; omega))).trans (by simp [go_sem]), (hk.cell (p := ⟨w.heap.size + 1, 1, none⟩) (by first | (simp; done) | (simp; omega))).trans (by simp [go_sem]), (hk.frozen (p := ⟨w.heap.size + 1, 1, none⟩) (by first | (simp; done) | (simp; omega))).trans (by simp [go_sem]), (hk.cell (p := ⟨w.heap.size + 1, 2, none⟩) (by first | (simp; done) | (simp; omega))).trans (by simp [go_sem]), (hk.frozen (p := ⟨w.heap.size + 1, 2, none⟩) (by first | (simp; done) | (simp; omega))).trans (by simp [go_sem]), (hk.cell (p := ⟨w.heap.size + 1, 3, none⟩) (by first | (simp; done) | (simp; omega))).trans (by simp [go_sem]), (hk.frozen (p := ⟨w.heap.size + 1, 3, none⟩) (by first | (simp; done) | (simp; omega))).trans (by simp [go_sem]), (hk.cell (p := ⟨w.heap.size + 1, 4, none⟩) (by first | (simp; done) | (simp; omega))).trans (by simp [go_sem]), (hk.frozen (p := ⟨w.heap.size + 1, 4, none⟩) (by first | (simp; done) | (simp; omega))).trans (by simp [go_sem]), (hk.cell (p := ⟨w.heap.size + 1, 5, none⟩) (by first | (simp; done) | (simp; omega))).trans (by simp [go_sem]), (hk.frozen (p := ⟨w.heap.size + 1, 5, none⟩) (by first | (simp; done) | (simp; omega))).trans (by simp [go_sem])⟩)
  have HB := Lib.hid (show Keeps w ((w.alloc (.cells #[.slice A n c, .bool cl] 49)).alloc (.cells #[.int .i64 wd, .int .i64 jn, .int .i64 cp, .int .i64 ml, .slice Ad nd cd, .int .i64 ph] 35)) from (by (repeat (first | (with_reducible exact Keeps.refl _) | (with_reducible assumption) | (with_reducible refine Keeps.drewN ?_ _) | (with_reducible refine Keeps.drew ?_) | (with_reducible refine Keeps.alloc ?_ _) | (with_reducible refine Keeps.setNew ?_ ?_ _))) <;> (dsimp only; omega)))
  have hk0 := Keeps.refl ((w.alloc (.cells #[.slice A n c, .bool cl] 49)).alloc (.cells #[.int .i64 wd, .int .i64 jn, .int .i64 cp, .int .i64 ml, .slice Ad nd cd, .int .i64 ph] 35))
  have hk := hk0
  have KS := Lib.hid (fun w => small_any cl A n c w)
  have KX := Lib.hid (fun w => example24_any w)
  by_cases hs : n ≤ 300
  · rw [decide_eq_true hs] at KS
    have KP := Lib.hid (fun w' (hk : Keeps w w') => poly_any cl A n c L wd jn cp ml ph Ad nd cd D w' (P.keep hk) (I.keep hk) (by omega))
    have KD := Lib.hid (fun w' (hk : Keeps w w') => dedup_any cl A n c L w' (P.keep hk) (by omega))
    have hM := dedC_len cl L
    obtain ⟨e1, e2⟩ := poly_ded cl L wd jn cp ml ph D (by omega)
    have KQ := Lib.hid (fun A2 c2 w' (hk : Keeps w w') (hP : Pts w' A2 (dedC cl L).length c2 (dedC cl L)) => poly_any cl A2 (dedC cl L).length c2 (dedC cl L) wd jn cp ml ph Ad nd cd D w' hP (I.keep hk) (by omega))
    rw [e1, e2] at KQ
    clear e1 e2
    have HT := Lib.hid (show ∀ w', Keeps ((w.alloc (.cells #[.slice A n c, .bool cl] 49)).alloc (.cells #[.int .i64 wd, .int .i64 jn, .int .i64 cp, .int .i64 ml, .slice Ad nd cd, .int .i64 ph] 35)) w' → (w'.cell? ⟨w.heap.size, 0, none⟩ = some (.slice A n c) ∧ w'.cell? ⟨w.heap.size, 1, none⟩ = some (.bool cl) ∧ w'.cell? ⟨w.heap.size + 1, 0, none⟩ = some (.int .i64 wd) ∧ w'.cell? ⟨w.heap.size + 1, 1, none⟩ = some (.int .i64 jn) ∧ w'.cell? ⟨w.heap.size + 1, 2, none⟩ = some (.int .i64 cp) ∧ w'.cell? ⟨w.heap.size + 1, 3, none⟩ = some (.int .i64 ml) ∧ w'.cell? ⟨w.heap.size + 1, 4, none⟩ = some (.slice Ad nd cd) ∧ w'.cell? ⟨w.heap.size + 1, 5, none⟩ = some (.int .i64 ph)) from fun w' hk => by
      obtain ⟨y0, y1, y2, y3, y4, y5, y6, y7, y8, y9, y10, y11, y12, y13, y14, y15⟩ := HS.out _ hk
      exact ⟨y0, y2, y4, y6, y8, y10, y12, y14⟩)
    generalize dedC cl L = M at *
    by_cases he : polyE cl L wd jn cp ml ph D = 0
    · rw [he] at KP KQ
      generalize polyL cl L wd jn cp ml ph D = R at *
      clear P I he
      go_enter Try.func11, Try.ntmps11
      go_upto_region 4 with (first | (go_at_call 30; (with_reducible refine (keepk (KS.out _) hk).mono ?_); rintro e w1 ⟨rfl, hk⟩; obtain ⟨y0, y1, y2, y3, y4, y5, y6, y7, y8, y9, y10, y11, y12, y13, y14, y15⟩ := HS.out _ hk) | (go_at_call 31; (with_reducible refine (KP.out _ (HB.out.trans hk)).mono ?_); rintro e w2 ⟨A2, c2, rfl, hR, hk2⟩; replace hk := hk.trans hk2; have hR := Lib.hid hR.rws; obtain ⟨y0, y1, y2, y3, y4, y5, y6, y7, y8, y9, y10, y11, y12, y13, y14, y15⟩ := HS.out _ hk) | fail "ARM")
      clear y0 y1 y2 y3 y4 y5 y6 y7 y8 y9 y10 y11 y12 y13 y14 y15
      generalize ((w.alloc (.cells #[.slice A n c, .bool cl] 49)).alloc (.cells #[.int .i64 wd, .int .i64 jn, .int .i64 cp, .int .i64 ml, .slice Ad nd cd, .int .i64 ph] 35)) = W0 at *
      go_region_held3 (fun w' => (w'.cell? ⟨w.heap.size, 0, none⟩ = some (.slice A n c) ∧ w'.cell? ⟨w.heap.size, 1, none⟩ = some (.bool cl) ∧ w'.cell? ⟨w.heap.size + 1, 0, none⟩ = some (.int .i64 wd) ∧ w'.cell? ⟨w.heap.size + 1, 1, none⟩ = some (.int .i64 jn) ∧ w'.cell? ⟨w.heap.size + 1, 2, none⟩ = some (.int .i64 cp) ∧ w'.cell? ⟨w.heap.size + 1, 3, none⟩ = some (.int .i64 ml) ∧ w'.cell? ⟨w.heap.size + 1, 4, none⟩ = some (.slice Ad nd cd) ∧ w'.cell? ⟨w.heap.size + 1, 5, none⟩ = some (.int .i64 ph))) (first | exact HT.out _ (by first | assumption | exact Keeps.drew (by assumption) | exact Keeps.drewN (by assumption) _) | go_keep) (first | (go_at_call 27; (with_reducible refine (KD.out _ (HB.out.trans (by first | assumption | exact Keeps.drew (by assumption) | exact Keeps.drewN (by assumption) _))).mono ?_); rintro e w3 ⟨A3, c3, rfl, hP3, hk3⟩; have hP3 := Lib.hid hP3; have hR := Lib.hid (hR.out.keep (Keeps.trans (by first | exact Keeps.refl _ | exact (Keeps.refl _).drew | exact (Keeps.refl _).drewN _) hk3)); replace hk : Keeps W0 w3 := Keeps.trans (by first | assumption | exact Keeps.drew (by assumption) | exact Keeps.drewN (by assumption) _) hk3; clear hk3) | (go_at_call 31; (with_reducible refine (KQ.out _ _ _ (HB.out.trans (by first | assumption | exact Keeps.drew (by assumption) | exact Keeps.drewN (by assumption) _)) (hP3.out.keep (by first | exact Keeps.refl _ | exact (Keeps.refl _).drew | exact (Keeps.refl _).drewN _))).mono ?_); rintro e w4 ⟨A4, c4, rfl, hR4, hk4⟩; have hR4 := Lib.hid hR4.rws; have hR := Lib.hid (hR.out.keep (Keeps.trans (by first | exact Keeps.refl _ | exact (Keeps.refl _).drew | exact (Keeps.refl _).drewN _) hk4)); replace hk : Keeps W0 w4 := Keeps.trans (by first | assumption | exact Keeps.drew (by assumption) | exact Keeps.drewN (by assumption) _) hk4; clear hk4) | fail "ARM")
      go_wp2_with (first | (go_at_call 34; (with_reducible refine (keepk (same24_any _ _ _ _ _ _ _ hR.out hR4.out) hk).mono ?_); rintro e w5 ⟨rfl, hk⟩) | (go_at_call 26; (with_reducible refine (keepk (KX.out _) hk).mono ?_); rintro e w9 ⟨rfl, hk⟩) | fail "ARM2")
      go_ret
      exact ⟨rfl, HB.out.trans hk⟩
    · have hq : (polyE cl L wd jn cp ml ph D == 0) = false := by rw [beq_eq_false_iff_ne]; exact he
      have hq2 : (polyE cl L wd jn cp ml ph D != 0) = true := by simp [he]
      generalize polyL cl L wd jn cp ml ph D = R at *
      generalize polyE cl L wd jn cp ml ph D = er at *
      clear P I
      go_enter Try.func11, Try.ntmps11
      go_upto_region 4 with (first | (go_at_call 30; (with_reducible refine (keepk (KS.out _) hk).mono ?_); rintro e w1 ⟨rfl, hk⟩; obtain ⟨y0, y1, y2, y3, y4, y5, y6, y7, y8, y9, y10, y11, y12, y13, y14, y15⟩ := HS.out _ hk) | (go_at_call 31; (with_reducible refine (KP.out _ (HB.out.trans hk)).mono ?_); rintro e w2 ⟨A2, c2, rfl, hR, hk2⟩; replace hk := hk.trans hk2; have hR := Lib.hid hR.rws; obtain ⟨y0, y1, y2, y3, y4, y5, y6, y7, y8, y9, y10, y11, y12, y13, y14, y15⟩ := HS.out _ hk) | fail "ARM")
      clear y0 y1 y2 y3 y4 y5 y6 y7 y8 y9 y10 y11 y12 y13 y14 y15
      generalize ((w.alloc (.cells #[.slice A n c, .bool cl] 49)).alloc (.cells #[.int .i64 wd, .int .i64 jn, .int .i64 cp, .int .i64 ml, .slice Ad nd cd, .int .i64 ph] 35)) = W0 at *
      go_region_held3 (fun w' => (w'.cell? ⟨w.heap.size, 0, none⟩ = some (.slice A n c) ∧ w'.cell? ⟨w.heap.size, 1, none⟩ = some (.bool cl) ∧ w'.cell? ⟨w.heap.size + 1, 0, none⟩ = some (.int .i64 wd) ∧ w'.cell? ⟨w.heap.size + 1, 1, none⟩ = some (.int .i64 jn) ∧ w'.cell? ⟨w.heap.size + 1, 2, none⟩ = some (.int .i64 cp) ∧ w'.cell? ⟨w.heap.size + 1, 3, none⟩ = some (.int .i64 ml) ∧ w'.cell? ⟨w.heap.size + 1, 4, none⟩ = some (.slice Ad nd cd) ∧ w'.cell? ⟨w.heap.size + 1, 5, none⟩ = some (.int .i64 ph))) (first | exact HT.out _ (by first | assumption | exact Keeps.drew (by assumption) | exact Keeps.drewN (by assumption) _) | go_keep) (first | (go_at_call 27; (with_reducible refine (KD.out _ (HB.out.trans (by first | assumption | exact Keeps.drew (by assumption) | exact Keeps.drewN (by assumption) _))).mono ?_); rintro e w3 ⟨A3, c3, rfl, hP3, hk3⟩; have hP3 := Lib.hid hP3; have hR := Lib.hid (hR.out.keep (Keeps.trans (by first | exact Keeps.refl _ | exact (Keeps.refl _).drew | exact (Keeps.refl _).drewN _) hk3)); replace hk : Keeps W0 w3 := Keeps.trans (by first | assumption | exact Keeps.drew (by assumption) | exact Keeps.drewN (by assumption) _) hk3; clear hk3) | (go_at_call 31; (with_reducible refine (KQ.out _ _ _ (HB.out.trans (by first | assumption | exact Keeps.drew (by assumption) | exact Keeps.drewN (by assumption) _)) (hP3.out.keep (by first | exact Keeps.refl _ | exact (Keeps.refl _).drew | exact (Keeps.refl _).drewN _))).mono ?_); rintro e w4 ⟨A4, c4, rfl, hR4, hk4⟩; have hR4 := Lib.hid hR4.rws; have hR := Lib.hid (hR.out.keep (Keeps.trans (by first | exact Keeps.refl _ | exact (Keeps.refl _).drew | exact (Keeps.refl _).drewN _) hk4)); replace hk : Keeps W0 w4 := Keeps.trans (by first | assumption | exact Keeps.drew (by assumption) | exact Keeps.drewN (by assumption) _) hk4; clear hk4) | fail "ARM")
      go_wp2_with (first | (go_at_call 34; (with_reducible refine (keepk (same24_any _ _ _ _ _ _ _ hR.out hR4.out) hk).mono ?_); rintro e w5 ⟨rfl, hk⟩) | (go_at_call 26; (with_reducible refine (keepk (KX.out _) hk).mono ?_); rintro e w9 ⟨rfl, hk⟩) | fail "ARM2")
      go_ret
      exact ⟨rfl, HB.out.trans hk⟩
  · rw [decide_eq_false hs] at KS
    clear P I
    go_enter Try.func11, Try.ntmps11
    go_wp2_with (first | (go_at_call 30; (with_reducible refine (keepk (KS.out _) hk).mono ?_); rintro e w1 ⟨rfl, hk⟩) | (go_at_call 26; (with_reducible refine (keepk (KX.out _) hk).mono ?_); rintro e w9 ⟨rfl, hk⟩) | fail "ARM")
    go_ret
    exact ⟨rfl, HB.out.trans hk⟩
set_option maxRecDepth 100000 in
theorem lifted (os : Os) (started : os.Started) (H : Type) (enc : TypeId × Value → H) :
    ReturnsInHanded {} Try.checked os 11 .any (Rows.strokeIgnoresDuplicatesSpec.pre6 enc Try.prog Try.f11 Rows.strokeIgnoresDuplicatesRow.domain false) (Rows.strokeIgnoresDuplicatesSpec.post enc Try.prog Try.f11 false true false false) := by
  refine returnsInHanded_of_change (C := Try.checked) Try.own started (by kernel_rfl) Try.func11
    (ChangeSpec.witness6 (enc := enc) (C := Try.checked) false ⟨#[], #[.agg #[.slice none 0 0, .bool false], .agg #[.int .i64 0, .int .i64 0, .int .i64 0, .int .i64 0, .slice none 0 0, .int .i64 0]], []⟩ 8 (by kernel_rfl) (by kernel_rfl) (by kernel_rfl) (by kernel_rfl)) ?_
  intro W base args ds gs before hval0 hW hcnd _
  have hval : ∀ (j : Nat) t v, Try.f11.params[j]? = some t → args[j]? = some v → Value.okWide Try.prog W .any base t v := hval0
  have hW' := hW
  obtain ⟨p, q, hA0, hV, rfl, hfz, hnd⟩ := hW
  have hA : DataW.TrodAll enc Try.prog W 0 (fun _ => true) true Try.f11.params.toList args.toList ds p := hA0
  have hAll := hA
  rw [Try.params11] at hA hval
  obtain ⟨v0, vs0, d0, ds0, p0, q0, hargs, rfl, rfl, h0, r0⟩ := trodAll_cons hA
  obtain ⟨v1, vs1, d1, ds1, p1, q1, rfl, rfl, rfl, h1, r1⟩ := trodAll_cons r0
  obtain ⟨rfl, rfl, rfl⟩ := trodAll_nil r1
  obtain rfl : args = #[v0, v1] := by cases args; simp_all
  obtain ⟨rfl, rfl⟩ := trodVars_none hV
  obtain ⟨A0, n0, c0, L0, cl0, rfl, P0⟩ := open_poly (hval 0 49 v0 rfl rfl) h0
  obtain ⟨wd1, jn1, cp1, ml1, ph1, A1, n1, c1, D1, rfl, I1, B1⟩ := open_style (hval 1 35 v1 rfl rfl) h1
  clear hA0 hval0
  refine (walk cl0 A0 n0 c0 L0 wd1 jn1 cp1 ml1 ph1 A1 n1 c1 D1 W P0 I1 B1).mono fun e W' ⟨he, bel⟩ => ?_
  subst he
  exact ⟨_, rfl, _, _, _, [], _, [], hW', trodAll_mk1 (shut_bool Try.underlying4 _), below_trodAll Try.laidOut bel (reads_of (by kernel_rfl)) hAll, rfl, bel.frame _, fun h => by cases h⟩

theorem over : Rows.strokeIgnoresDuplicatesRow.holds Try.pinned (OpenSpec.ofChange Rows.strokeIgnoresDuplicatesSpec) :=
  OpenClaim.holds_of_wide 11 Try.f11 rfl rfl rfl rfl rfl rfl rfl ⟨rfl, rfl, rfl, rfl, rfl⟩ rfl rfl rfl rfl rfl (by kernel_rfl) Try.func11 (by kernel_rfl)
    (of_decide_eq_true (by kernel_rfl)) (by unfold Func.isWrapper; first | (rw [if_pos (by decide +kernel)]; kernel_rfl) | (rw [if_neg (by decide +kernel)]; exact ⟨rfl, rfl⟩))
    (fun os started H enc _ => lifted os started H enc)

/-- The statement. -/
theorem proved : Rows.StrokeIgnoresDuplicatesSaid := over
#print axioms proved
end Go.Proofs.Ytdodgnpjlicnoaa.strokeIgnoresDuplicates
