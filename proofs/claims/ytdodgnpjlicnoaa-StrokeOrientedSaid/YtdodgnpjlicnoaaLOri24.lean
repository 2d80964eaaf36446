/- StrokeOriented of grisaillelaw24 returns true for all its arguments; no condition. -/
import Derived.Test.YtdodgnpjlicnoaaOy
import Derived.Test.YtdodgnpjlicnoaaOp
import Derived.Test.YtdodgnpjlicnoaaKo
namespace Go.Proofs.Ytdodgnpjlicnoaa.strokeOriented
open Go.RowKit Go.ChangeShapes Go.WideShapes Go.ChangeAt
set_option linter.unusedVariables false
open Go.Proofs.Ytdodgnpjlicnoaa
set_option linter.unusedSimpArgs false
set_option maxRecDepth 100000 in
set_option maxHeartbeats 4000000 in
theorem walk (cl : Bool) (A : Option Addr) (n c : Nat) (L : List Pt) (wd jn cp ml ph : Int) (Ad : Option Addr) (nd cd : Nat) (D : List Int) (w : World) (P : Pts w A n c L) (I : Ins w Ad nd cd D) (hB : i64b wd ∧ i64b jn ∧ i64b cp ∧ i64b ml ∧ i64b ph) :
    Calls Try.prog 10 #[.agg #[.slice A n c, .bool cl], .agg #[.int .i64 wd, .int .i64 jn, .int .i64 cp, .int .i64 ml, .slice Ad nd cd, .int .i64 ph]] w fun e w' => e = .returned (.bool true) ∧ Keeps w w' := by
  clear hB
  have hl := P.1
  have HS := Lib.hid (show ∀ w', Keeps ((w.alloc (.cells #[.slice A n c, .bool cl] 49)).alloc (.cells #[.int .i64 wd, .int .i64 jn, .int .i64 cp, .int .i64 ml, .slice Ad nd cd, .int .i64 ph] 35)) w' → w'.cell? ⟨w.heap.size, 0, none⟩ = some (.slice A n c) ∧ w'.frozen? ⟨w.heap.size, 0, none⟩ = false ∧ w'.cell? ⟨w.heap.size, 1, none⟩ = some (.bool cl) ∧ w'.frozen? ⟨w.heap.size, 1, none⟩ = false ∧ w'.cell? ⟨w.heap.size + 1, 0, none⟩ = some (.int .i64 wd) ∧ w'.frozen? ⟨w.heap.size + 1, 0, none⟩ = false ∧ w'.cell? ⟨w.heap.size + 1, 1, none⟩ = some (.int .i64 jn) ∧ w'.frozen? ⟨w.heap.size + 1, 1, none⟩ = false ∧ w'.cell? ⟨w.heap.size + 1, 2, none⟩ = some (.int .i64 cp) ∧ w'.frozen? ⟨w.heap.size + 1, 2, none⟩ = false ∧ w'.cell? ⟨w.heap.size + 1, 3, none⟩ = some (.int .i64 ml) ∧ w'.frozen? ⟨w.heap.size + 1, 3, none⟩ = false ∧ w'.cell? ⟨w.heap.size + 1, 4, none⟩ = some (.slice Ad nd cd) ∧ w'.frozen? ⟨w.heap.size + 1, 4, none⟩ = false ∧ w'.cell? ⟨w.heap.size + 1, 5, none⟩ = some (.int .i64 ph) ∧ w'.frozen? ⟨w.heap.size + 1, 5, none⟩ = false from fun w' hk => ⟨(hk.cell (p := ⟨w.heap.size, 0, none⟩) (by first | (simp; done) | (simp; omega))).trans (by simp [go_sem]), (hk.frozen (p := ⟨w.heap.size, 0, none⟩) (by first | (simp; done) | (simp; omega))).trans (by simp [go_sem]), (hk.cell (p := ⟨w.heap.size, 1, none⟩) (by first | (simp; done) | (simp; omega))).trans (by simp [go_sem]), (hk.frozen (p := ⟨w.heap.size, 1, none⟩) (by first | (simp; done) | (simp; omega))).trans (by simp [go_sem]), (hk.cell (p := ⟨w.heap.size + 1, 0, none⟩) (by first | (simp; done) | (simp; omega))).trans (by simp [go_sem]), (hk.frozen (p := ⟨w.heap.size + 1, 0, none⟩) (by first | (simp; done) | (simp; omega))).trans (by simp [go_sem]), (hk.cell (p := ⟨w.heap.size + 1, 1, none⟩) (by first | (simp; done) | (simp; omega))).trans (by simp [go_sem]), (hk.frozen (p := ⟨w.heap.size + 1, 1, none⟩) (by first | (simp; done) | (simp; omega))).trans (by simp [go_sem]), (hk.cell (p := ⟨w.heap.size + 1, 2, none⟩) (by first | (simp; done) | (simp; omega))).trans (by simp [go_sem]), (hk.frozen (p := ⟨w.heap.size + 1, 2, none⟩) (by first | (simp; done) | (simp; omega))).trans (by simp [go_sem]), (hk.cell (p := ⟨w.heap.size + 1, 3, none⟩) (by first | (simp; done) | (simp; omega))).trans (by simp [go_sem]), (hk.frozen (p := ⟨w.heap.size + 1, 3, none⟩) (by first | (simp; done) | (simp; omega))).trans (by simp [go_sem]), (hk.cell (p := ⟨w.heap.size + 1, 4, none⟩) (by first | (simp; done) | (simp; omega))).trans (by simp [go_sem]), (hk.frozen (p := ⟨w.heap.size + 1, 4, none⟩) (by first | (simp; done) | (simp; omega))).trans (by simp [go_sem]), (hk.cell (p := ⟨w.heap.size + 1, 5, none⟩) (by first | (simp; done) | (simp; omega))).trans (by simp [go_sem]), (hk.frozen (p := ⟨w.heap.size + 1, 5, none⟩) (by first | (simp; done) | (simp; omega))).trans (by simp [go_sem])⟩)
  have HB := Lib.hid (show Keeps w ((w.alloc (.cells #[.slice A n c, .bool cl] 49)).alloc (.cells #[.int .i64 wd, .int .i64 jn, .int .i64 cp, .int .i64 ml, .slice Ad nd cd, .int .i64 ph] 35)) from (by (repeat (first | (with_reducible exact Keeps.refl _) | (with_reducible assumption) | (with_reducible refine Keeps.drewN ?_ _) | (with_reducible refine Keeps.drew ?_) | (with_reducible refine Keeps.alloc ?_ _) | (with_reducible refine Keeps.setNew ?_ ?_ _))) <;> (dsimp only; omega)))
  have hk0 := Keeps.refl ((w.alloc (.cells #[.slice A n c, .bool cl] 49)).alloc (.cells #[.int .i64 wd, .int .i64 jn, .int .i64 cp, .int .i64 ml, .slice Ad nd cd, .int .i64 ph] 35))
  have hk := hk0
  have KS := Lib.hid (fun w => small_any cl A n c w)
  have KX := Lib.hid (fun w => example24_any w)
  by_cases hs : n ≤ 300
  · rw [decide_eq_true hs] at KS
    have KP := Lib.hid (fun w' (hk : Keeps w w') => poly_any cl A n c L wd jn cp ml ph Ad nd cd D w' (P.keep hk) (I.keep hk) (by omega))
    by_cases he : polyE cl L wd jn cp ml ph D = 0
    · obtain ⟨hv, hr⟩ := poly_ok he
      have hm := polyL_len cl L wd jn cp ml ph D
      have hsh := Lib.hid (polyL_short cl L wd jn cp ml ph D)
      rw [he] at KP
      have hr := Lib.hid hr
      generalize polyL cl L wd jn cp ml ph D = R at *
      have KV := Lib.hid (fun A c w' (hX : Rws w' A R.length c R) => pvalid_any A R.length c R w' hX)
      rw [hv] at KV
      clear P I he hv
      go_enter Try.func10, Try.ntmps10
      go_wp2_with (first | (go_at_call 30; (with_reducible refine (keepk (KS.out _) hk).mono ?_); rintro e w1 ⟨rfl, hk⟩; obtain ⟨y0, y1, y2, y3, y4, y5, y6, y7, y8, y9, y10, y11, y12, y13, y14, y15⟩ := HS.out _ hk) | (go_at_call 31; (with_reducible refine (KP.out _ (HB.out.trans hk)).mono ?_); rintro e w2 ⟨A2, c2, rfl, hR, hk2⟩; replace hk := hk.trans hk2; have hR := Lib.hid hR.rws) | (go_at_call 32; (with_reducible refine (keepk2 (KV.out _ _ _ hR.out) hk).mono ?_); rintro e w3 ⟨rfl, hk3, hk⟩; have hR3 := Lib.hid (hR.out.keep hk3)) | fail "ARM")
      have hm2 := R.length
      clear y0 y1 y2 y3 y4 y5 y6 y7 y8 y9 y10 y11 y12 y13 y14 y15 hR
      have hmi : (R.length : Int) ≤ 1000000 := by omega
      go_loopw [31] (fun i wr => ∃ j : Nat, j ≤ R.length ∧ i = .int .i64 j ∧ Keeps w3 wr) (fun i _ => R.length - (intOf i).toNat)
      case atStart => exact ⟨0, by omega, rfl, Keeps.refl _⟩
      case round =>
        obtain ⟨j, hj, rfl, hkr⟩ := hrel
        by_cases hlt : j < R.length
        · obtain ⟨b, o, rfl, hb, hC⟩ := hR3.out.2.2.2 (by omega)
          obtain ⟨Ak, nk, ck, e0, hPk, hnk⟩ := hC j hlt
          have c0 := (hkr.cell hb).trans e0
          have hmem : R.getD j [] ∈ R := by rw [List.getD_eq_getElem?_getD, List.getElem?_eq_getElem hlt]; exact List.getElem_mem _
          obtain ⟨h3, ha⟩ := hr.out _ hmem
          have KA := Lib.hid (fun w' (hq : Keeps w3 w') => darea_any Ak nk ck (R.getD j []) w' (hPk.keep hq) hnk)
          have hnl := hPk.1
          have hn3 : ¬ (nk : Int) < 3 := by omega
          have ha3 : ¬ (area (R.getD j []) < 1) := by omega
          have hlt2 : (j : Int) < R.length := by omega
          have hnki : (nk : Int) ≤ 4611686018427387904 := by omega
          clear e0 hPk hC ha h3 hmem hnl
          generalize area (R.getD j []) = x at *
          go_wp2_with (go_at_call 33; (with_reducible refine (keepk (KA.out _ hkr) hkr).mono ?_); rintro e w5 ⟨rfl, hkr⟩)
          go_roundw
          case rel => exact ⟨j + 1, by omega, by go_num, hkr⟩
          case measure => simp [intOf]; omega
        · have hlt2 : ¬ (j : Int) < R.length := by omega
          go_wp2_with (go_at_call 26; (with_reducible refine (keepk (KX.out _) hkr).mono ?_); rintro e w5 ⟨rfl, hkr⟩)
          go_ret
          exact ⟨rfl, HB.out.trans (hk.trans hkr)⟩
    · have h0 := poly_err he
      have hq : (polyE cl L wd jn cp ml ph D == 0) = false := by rw [beq_eq_false_iff_ne]; exact he
      have hq2 : (polyE cl L wd jn cp ml ph D != 0) = true := by simp [he]
      rw [h0] at KP
      generalize polyE cl L wd jn cp ml ph D = er at *
      clear P I he h0
      go_enter Try.func10, Try.ntmps10
      go_wp2_with (first | (go_at_call 30; (with_reducible refine (keepk (KS.out _) hk).mono ?_); rintro e w1 ⟨rfl, hk⟩; obtain ⟨y0, y1, y2, y3, y4, y5, y6, y7, y8, y9, y10, y11, y12, y13, y14, y15⟩ := HS.out _ hk) | (go_at_call 31; (with_reducible refine (KP.out _ (HB.out.trans hk)).mono ?_); rintro e w2 ⟨A2, c2, rfl, hR, hk2⟩; replace hk := hk.trans hk2; have hR := Lib.hid hR) | (go_at_call 26; (with_reducible refine (keepk (KX.out _) hk).mono ?_); rintro e w5 ⟨rfl, hk⟩) | fail "ARM")
      go_ret
      exact ⟨rfl, HB.out.trans hk⟩
  · rw [decide_eq_false hs] at KS
    clear P I
    go_enter Try.func10, Try.ntmps10
    go_wp2_with (first | (go_at_call 30; (with_reducible refine (keepk (KS.out _) hk).mono ?_); rintro e w1 ⟨rfl, hk⟩) | (go_at_call 26; (with_reducible refine (keepk (KX.out _) hk).mono ?_); rintro e w5 ⟨rfl, hk⟩) | fail "ARM")
    go_ret
    exact ⟨rfl, HB.out.trans hk⟩
set_option maxRecDepth 100000 in
theorem lifted (os : Os) (started : os.Started) (H : Type) (enc : TypeId × Value → H) :
    ReturnsInHanded {} Try.checked os 10 .any (Rows.strokeOrientedSpec.pre6 enc Try.prog Try.f10 Rows.strokeOrientedRow.domain false) (Rows.strokeOrientedSpec.post enc Try.prog Try.f10 false true false false) := by
  refine returnsInHanded_of_change (C := Try.checked) Try.own started (by kernel_rfl) Try.func10
    (ChangeSpec.witness6 (enc := enc) (C := Try.checked) false ⟨#[], #[.agg #[.slice none 0 0, .bool false], .agg #[.int .i64 0, .int .i64 0, .int .i64 0, .int .i64 0, .slice none 0 0, .int .i64 0]], []⟩ 8 (by kernel_rfl) (by kernel_rfl) (by kernel_rfl) (by kernel_rfl)) ?_
  intro W base args ds gs before hval0 hW hcnd _
  have hval : ∀ (j : Nat) t v, Try.f10.params[j]? = some t → args[j]? = some v → Value.okWide Try.prog W .any base t v := hval0
  have hW' := hW
  obtain ⟨p, q, hA0, hV, rfl, hfz, hnd⟩ := hW
  have hA : DataW.TrodAll enc Try.prog W 0 (fun _ => true) true Try.f10.params.toList args.toList ds p := hA0
  have hAll := hA
  rw [Try.params10] at hA hval
  obtain ⟨v0, vs0, d0, ds0, p0, q0, hargs, rfl, rfl, h0, r0⟩ := trodAll_cons hA
  obtain ⟨v1, vs1, d1, ds1, p1, q1, rfl, rfl, rfl, h1, r1⟩ := trodAll_cons r0
  obtain ⟨rfl, rfl, rfl⟩ := trodAll_nil r1
  obtain rfl : args = #[v0, v1] := by cases args; simp_all
  obtain ⟨rfl, rfl⟩ := trodVars_none hV
  obtain ⟨A0, n0, c0, L0, cl0, rfl, P0⟩ := open_poly (hval 0 49 v0 rfl rfl) h0
  obtain ⟨wd1, jn1, cp1, ml1, ph1, A1, n1, c1, D1, rfl, I1, B1⟩ := open_style (hval 1 35 v1 rfl rfl) h1
  clear hA0 hval0
  refine (walk cl0 A0 n0 c0 L0 wd1 jn1 cp1 ml1 ph1 A1 n1 c1 D1 W P0 I1 B1).mono fun e W' ⟨he, bel⟩ => ?_
  subst he
  exact ⟨_, rfl, _, _, _, [], _, [], hW', trodAll_mk1 (shut_bool Try.underlying4 _), below_trodAll Try.laidOut bel (reads_of (by kernel_rfl)) hAll, rfl, bel.frame _, fun h => by cases h⟩

theorem over : Rows.strokeOrientedRow.holds Try.pinned (OpenSpec.ofChange Rows.strokeOrientedSpec) :=
  OpenClaim.holds_of_wide 10 Try.f10 rfl rfl rfl rfl rfl rfl rfl ⟨rfl, rfl, rfl, rfl, rfl⟩ rfl rfl rfl rfl rfl (by kernel_rfl) Try.func10 (by kernel_rfl)
    (of_decide_eq_true (by kernel_rfl)) (by unfold Func.isWrapper; first | (rw [if_pos (by decide +kernel)]; kernel_rfl) | (rw [if_neg (by decide +kernel)]; exact ⟨rfl, rfl⟩))
    (fun os started H enc _ => lifted os started H enc)

/-- The statement. -/
theorem proved : Rows.StrokeOrientedSaid := over
#print axioms proved
end Go.Proofs.Ytdodgnpjlicnoaa.strokeOriented
