/- StrokeDedup of grisaillelaw24 returns true for all its arguments; no condition. -/
import Derived.Test.YtdodgnpjlicnoaaOy
import Derived.Test.YtdodgnpjlicnoaaKp
import Derived.Test.YtdodgnpjlicnoaaOp
import Derived.Test.YtdodgnpjlicnoaaKo
namespace Go.Proofs.Ytdodgnpjlicnoaa.strokeDedup
open Go.RowKit Go.ChangeShapes Go.WideShapes Go.ChangeAt
set_option linter.unusedVariables false
open Go.Proofs.Ytdodgnpjlicnoaa
set_option linter.unusedSimpArgs false
set_option maxRecDepth 100000 in
set_option maxHeartbeats 4000000 in
theorem walk (cl : Bool) (A : Option Addr) (n c : Nat) (L : List Pt) (w : World) (P : Pts w A n c L) :
    Calls Try.prog 9 #[.agg #[.slice A n c, .bool cl]] w fun e w' => e = .returned (.bool true) ∧ Keeps w w' := by
  have hl := P.1
  have HS := Lib.hid (show ∀ w', Keeps (w.alloc (.cells #[.slice A n c, .bool cl] 49)) w' → w'.cell? ⟨w.heap.size, 0, none⟩ = some (.slice A n c) ∧ w'.frozen? ⟨w.heap.size, 0, none⟩ = false ∧ w'.cell? ⟨w.heap.size, 1, none⟩ = some (.bool cl) ∧ w'.frozen? ⟨w.heap.size, 1, none⟩ = false from fun w' hk => ⟨(hk.cell (p := ⟨w.heap.size, 0, none⟩) (by first | (simp; done) | (simp; omega))).trans (by simp [go_sem]), (hk.frozen (p := ⟨w.heap.size, 0, none⟩) (by first | (simp; done) | (simp; omega))).trans (by simp [go_sem]), (hk.cell (p := ⟨w.heap.size, 1, none⟩) (by first | (simp; done) | (simp; omega))).trans (by simp [go_sem]), (hk.frozen (p := ⟨w.heap.size, 1, none⟩) (by first | (simp; done) | (simp; omega))).trans (by simp [go_sem])⟩)
  have HB := Lib.hid (show Keeps w (w.alloc (.cells #[.slice A n c, .bool cl] 49)) from (by (repeat (first | (with_reducible exact Keeps.refl _) | (with_reducible assumption) | (with_reducible refine Keeps.drewN ?_ _) | (with_reducible refine Keeps.drew ?_) | (with_reducible refine Keeps.alloc ?_ _) | (with_reducible refine Keeps.setNew ?_ ?_ _))) <;> (dsimp only; omega)))
  have hk0 := Keeps.refl (w.alloc (.cells #[.slice A n c, .bool cl] 49))
  have hk := hk0
  have KX := Lib.hid (fun w => example24_any w)
  by_cases hs : n ≤ 5000
  · have hsi : ¬ (5000 : Int) < n := by omega
    have KD := Lib.hid (fun w' (hk : Keeps w w') => dedup_any cl A n c L w' (P.keep hk) (by omega))
    have KR := Lib.hid (fun w' (hk : Keeps w w') => rdedup_any cl A n c L w' (P.keep hk) (by omega))
    have hM := dedC_len cl L
    have KE := Lib.hid (fun A2 c2 w' (hP : Pts w' A2 (dedC cl L).length c2 (dedC cl L)) => dedup_any cl A2 (dedC cl L).length c2 (dedC cl L) w' hP (by omega))
    rw [dedC_dedC] at KE
    generalize dedC cl L = M at *
    have hMi : (M.length : Int) ≤ 5000 := by omega
    clear P
    go_enter Try.func9, Try.ntmps9
    go_upto_region 4 with (go_at_call 27; (with_reducible refine (KD.out _ (HB.out.trans hk)).mono ?_); rintro e w2 ⟨A2, c2, rfl, hP2, hk2⟩; have hP2 := Lib.hid hP2; replace hk := hk.trans hk2; clear hk2)
    generalize (w.alloc (.cells #[.slice A n c, .bool cl] 49)) = W0 at *
    refine name_world (fun W2 hW2 => ?_)
    have hq2 : Keeps w2 W2 := by rw [hW2]; exact (Keeps.refl _).alloc _
    have hC2 := Lib.hid (show ∀ w', Keeps W2 w' → w'.cell? ⟨w2.heap.size, 0, none⟩ = some (.slice A2 M.length c2) ∧ w'.cell? ⟨w2.heap.size, 1, none⟩ = some (.bool cl) from fun w' hx => by
      refine ⟨(hx.cell (p := ⟨w2.heap.size, 0, none⟩) (by rw [hW2]; simp)).trans (by rw [hW2]; simp [go_sem]), (hx.cell (p := ⟨w2.heap.size, 1, none⟩) (by rw [hW2]; simp)).trans (by rw [hW2]; simp [go_sem])⟩)
    have hP2 := Lib.hid (hP2.out.keep hq2)
    replace hk := hk.trans hq2
    clear hW2
    obtain ⟨y0, y1, y2, y3⟩ := HS.out _ hk
    have hz2 := Keeps.refl W2
    go_upto_region 5 with (go_at_call 28; (with_reducible refine (KR.out _ (HB.out.trans hk)).mono ?_); rintro e w4 ⟨A4, c4, rfl, hP4, hk4⟩; have hP4 := Lib.hid hP4; replace hk := hk.trans hk4; replace hz2 := hz2.trans hk4; clear hk4)
    clear y0 y1 y2 y3
    refine name_world (fun W4 hW4 => ?_)
    have hq4 : Keeps w4 W4 := by rw [hW4]; exact (Keeps.refl _).alloc _
    have hC4 := Lib.hid (show ∀ w', Keeps W4 w' → w'.cell? ⟨w4.heap.size, 0, none⟩ = some (.slice A4 M.length c4) ∧ w'.cell? ⟨w4.heap.size, 1, none⟩ = some (.bool cl) from fun w' hx => by
      refine ⟨(hx.cell (p := ⟨w4.heap.size, 0, none⟩) (by rw [hW4]; simp)).trans (by rw [hW4]; simp [go_sem]), (hx.cell (p := ⟨w4.heap.size, 1, none⟩) (by rw [hW4]; simp)).trans (by rw [hW4]; simp [go_sem])⟩)
    have hP4 := Lib.hid (hP4.out.keep hq4)
    replace hk := hk.trans hq4
    clear hW4
    replace hz2 := hz2.trans hq4
    obtain ⟨x0, x1⟩ := hC2.out _ hz2
    have hz4 := Keeps.refl W4
    go_upto_region 6 with (go_at_call 27; (with_reducible refine (KE.out _ _ _ (hP2.out.keep hz2)).mono ?_); rintro e w6 ⟨A6, c6, rfl, hP6, hk6⟩; have hP6 := Lib.hid hP6; replace hk := hk.trans hk6; replace hz2 := hz2.trans hk6; replace hz4 := hz4.trans hk6; clear hk6)
    clear x0 x1
    refine name_world (fun W6 hW6 => ?_)
    have hq6 : Keeps w6 W6 := by rw [hW6]; exact (Keeps.refl _).alloc _
    have hC6 := Lib.hid (show ∀ w', Keeps W6 w' → w'.cell? ⟨w6.heap.size, 0, none⟩ = some (.slice A6 M.length c6) ∧ w'.cell? ⟨w6.heap.size, 1, none⟩ = some (.bool cl) from fun w' hx => by
      refine ⟨(hx.cell (p := ⟨w6.heap.size, 0, none⟩) (by rw [hW6]; simp)).trans (by rw [hW6]; simp [go_sem]), (hx.cell (p := ⟨w6.heap.size, 1, none⟩) (by rw [hW6]; simp)).trans (by rw [hW6]; simp [go_sem])⟩)
    have hP6 := Lib.hid (hP6.out.keep hq6)
    replace hk := hk.trans hq6
    clear hW6
    replace hz2 := hz2.trans hq6
    replace hz4 := hz4.trans hq6
    have hz6 := Keeps.refl W6
    obtain ⟨y0, y1, y2, y3⟩ := HS.out _ hk
    obtain ⟨x0, x1⟩ := hC2.out _ hz2
    obtain ⟨u0, u1⟩ := hC4.out _ hz4
    obtain ⟨v0, v1⟩ := hC6.out _ hz6
    go_wp2_with (first | (go_at_call 29; (first | (with_reducible refine (samepts_any A2 A4 M.length c2 c4 M _ (hP2.out.keep hz2) (hP4.out.keep hz4)).mono ?_) | (with_reducible refine (samepts_any A6 A2 M.length c6 c2 M _ (hP6.out.keep hz6) (hP2.out.keep hz2)).mono ?_)); rintro e w7 ⟨rfl, hk7⟩; replace hk := hk.trans hk7; replace hz2 := hz2.trans hk7; replace hz4 := hz4.trans hk7; replace hz6 := hz6.trans hk7; obtain ⟨y0, y1, y2, y3⟩ := HS.out _ hk; obtain ⟨x0, x1⟩ := hC2.out _ hz2; obtain ⟨u0, u1⟩ := hC4.out _ hz4; obtain ⟨v0, v1⟩ := hC6.out _ hz6; clear hk7) | (go_at_call 26; (with_reducible refine (keepk (KX.out _) hk).mono ?_); rintro e w9 ⟨rfl, hk⟩) | fail "ARM")
    go_ret
    exact ⟨rfl, HB.out.trans hk⟩
  · have hsi : (5000 : Int) < n := by omega
    clear P
    go_enter Try.func9, Try.ntmps9
    go_wp2_with (go_at_call 26; (with_reducible refine (keepk (KX.out _) hk).mono ?_); rintro e w9 ⟨rfl, hk⟩)
    go_ret
    exact ⟨rfl, HB.out.trans hk⟩
set_option maxRecDepth 100000 in
theorem lifted (os : Os) (started : os.Started) (H : Type) (enc : TypeId × Value → H) :
    ReturnsInHanded {} Try.checked os 9 .any (Rows.strokeDedupSpec.pre6 enc Try.prog Try.f9 Rows.strokeDedupRow.domain false) (Rows.strokeDedupSpec.post enc Try.prog Try.f9 false true false false) := by
  refine returnsInHanded_of_change (C := Try.checked) Try.own started (by kernel_rfl) Try.func9
    (ChangeSpec.witness6 (enc := enc) (C := Try.checked) false ⟨#[], #[.agg #[.slice none 0 0, .bool false]], []⟩ 8 (by kernel_rfl) (by kernel_rfl) (by kernel_rfl) (by kernel_rfl)) ?_
  intro W base args ds gs before hval0 hW hcnd _
  have hval : ∀ (j : Nat) t v, Try.f9.params[j]? = some t → args[j]? = some v → Value.okWide Try.prog W .any base t v := hval0
  have hW' := hW
  obtain ⟨p, q, hA0, hV, rfl, hfz, hnd⟩ := hW
  have hA : DataW.TrodAll enc Try.prog W 0 (fun _ => true) true Try.f9.params.toList args.toList ds p := hA0
  have hAll := hA
  rw [Try.params9] at hA hval
  obtain ⟨v0, vs0, d0, ds0, p0, q0, hargs, rfl, rfl, h0, r0⟩ := trodAll_cons hA
  obtain ⟨rfl, rfl, rfl⟩ := trodAll_nil r0
  obtain rfl : args = #[v0] := by cases args; simp_all
  obtain ⟨rfl, rfl⟩ := trodVars_none hV
  obtain ⟨A0, n0, c0, L0, cl0, rfl, P0⟩ := open_poly (hval 0 49 v0 rfl rfl) h0
  clear hA0 hval0
  refine (walk cl0 A0 n0 c0 L0 W P0).mono fun e W' ⟨he, bel⟩ => ?_
  subst he
  exact ⟨_, rfl, _, _, _, [], _, [], hW', trodAll_mk1 (shut_bool Try.underlying4 _), below_trodAll Try.laidOut bel (reads_of (by kernel_rfl)) hAll, rfl, bel.frame _, fun h => by cases h⟩

theorem over : Rows.strokeDedupRow.holds Try.pinned (OpenSpec.ofChange Rows.strokeDedupSpec) :=
  OpenClaim.holds_of_wide 9 Try.f9 rfl rfl rfl rfl rfl rfl rfl ⟨rfl, rfl, rfl, rfl, rfl⟩ rfl rfl rfl rfl rfl (by kernel_rfl) Try.func9 (by kernel_rfl)
    (of_decide_eq_true (by kernel_rfl)) (by unfold Func.isWrapper; first | (rw [if_pos (by decide +kernel)]; kernel_rfl) | (rw [if_neg (by decide +kernel)]; exact ⟨rfl, rfl⟩))
    (fun os started H enc _ => lifted os started H enc)

/-- The statement. -/
theorem proved : Rows.StrokeDedupSaid := over
#print axioms proved
end Go.Proofs.Ytdodgnpjlicnoaa.strokeDedup
