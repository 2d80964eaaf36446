/- DashIntervalsAgree of grisaillelaw25 returns true for all its arguments: every stroke style and every length; no condition. -/
import Derived.Test.YtihmhpleiefodaaDu
import Derived.Test.YtihmhpleiefodaaDw
import Derived.Test.YtihmhpleiefodaaOp
import Derived.Test.YtihmhpleiefodaaOz
namespace Go.Proofs.Ytihmhpleiefodaa.dashIntervalsAgree
open Go.RowKit Go.ChangeShapes Go.WideShapes Go.ChangeAt
set_option linter.unusedVariables false
open Go.Proofs.Ytihmhpleiefodaa
attribute [local go_sem ↓] Go.wp_at_zero Go.wp_at_succ
set_option linter.unusedSimpArgs false
set_option maxRecDepth 100000 in
set_option maxHeartbeats 4000000 in
theorem walk (wd jn cp ml ph : Int) (A : Option Addr) (n c : Nat) (D : List Int) (long : Int) (w : World) (h : Ins w A n c D) (hB : i64b wd ∧ i64b jn ∧ i64b cp ∧ i64b ml ∧ i64b ph) (l0 : -9223372036854775808 ≤ long) (l1 : long ≤ 9223372036854775807) :
    Calls Try.prog 5 #[.agg #[.int .i64 wd, .int .i64 jn, .int .i64 cp, .int .i64 ml, .slice A n c, .int .i64 ph], .int .i64 long] w fun e w' => e = .returned (.bool true) ∧ Below w.heap.size w w' := by
  have hmx := h.max
  have HS := Lib.hid (show ∀ w', Keeps (w.alloc (.cells #[.int .i64 wd, .int .i64 jn, .int .i64 cp, .int .i64 ml, .slice A n c, .int .i64 ph] 27)) w' → w'.cell? ⟨w.heap.size, 0, none⟩ = some (.int .i64 wd) ∧ w'.frozen? ⟨w.heap.size, 0, none⟩ = false ∧ w'.cell? ⟨w.heap.size, 1, none⟩ = some (.int .i64 jn) ∧ w'.frozen? ⟨w.heap.size, 1, none⟩ = false ∧ w'.cell? ⟨w.heap.size, 2, none⟩ = some (.int .i64 cp) ∧ w'.frozen? ⟨w.heap.size, 2, none⟩ = false ∧ w'.cell? ⟨w.heap.size, 3, none⟩ = some (.int .i64 ml) ∧ w'.frozen? ⟨w.heap.size, 3, none⟩ = false ∧ w'.cell? ⟨w.heap.size, 4, none⟩ = some (.slice A n c) ∧ w'.frozen? ⟨w.heap.size, 4, none⟩ = false ∧ w'.cell? ⟨w.heap.size, 5, none⟩ = some (.int .i64 ph) ∧ w'.frozen? ⟨w.heap.size, 5, none⟩ = false from fun w' hk => ⟨(hk.cell (p := ⟨w.heap.size, 0, none⟩) (by first | (simp; done) | (simp; omega))).trans (by simp [go_sem]), (hk.frozen (p := ⟨w.heap.size, 0, none⟩) (by first | (simp; done) | (simp; omega))).trans (by simp [go_sem]), (hk.cell (p := ⟨w.heap.size, 1, none⟩) (by first | (simp; done) | (simp; omega))).trans (by simp [go_sem]), (hk.frozen (p := ⟨w.heap.size, 1, none⟩) (by first | (simp; done) | (simp; omega))).trans (by simp [go_sem]), (hk.cell (p := ⟨w.heap.size, 2, none⟩) (by first | (simp; done) | (simp; omega))).trans (by simp [go_sem]), (hk.frozen (p := ⟨w.heap.size, 2, none⟩) (by first | (simp; done) | (simp; omega))).trans (by simp [go_sem]), (hk.cell (p := ⟨w.heap.size, 3, none⟩) (by first | (simp; done) | (simp; omega))).trans (by simp [go_sem]), (hk.frozen (p := ⟨w.heap.size, 3, none⟩) (by first | (simp; done) | (simp; omega))).trans (by simp [go_sem]), (hk.cell (p := ⟨w.heap.size, 4, none⟩) (by first | (simp; done) | (simp; omega))).trans (by simp [go_sem]), (hk.frozen (p := ⟨w.heap.size, 4, none⟩) (by first | (simp; done) | (simp; omega))).trans (by simp [go_sem]), (hk.cell (p := ⟨w.heap.size, 5, none⟩) (by first | (simp; done) | (simp; omega))).trans (by simp [go_sem]), (hk.frozen (p := ⟨w.heap.size, 5, none⟩) (by first | (simp; done) | (simp; omega))).trans (by simp [go_sem])⟩)
  have HB := Lib.hid (show Keeps w (w.alloc (.cells #[.int .i64 wd, .int .i64 jn, .int .i64 cp, .int .i64 ml, .slice A n c, .int .i64 ph] 27)) from (by (repeat (first | (with_reducible exact Keeps.refl _) | (with_reducible assumption) | (with_reducible refine Keeps.drewN ?_ _) | (with_reducible refine Keeps.drew ?_) | (with_reducible refine Keeps.alloc ?_ _) | (with_reducible refine Keeps.setNew ?_ ?_ _))) <;> (dsimp only; omega)))
  have hk0 := Keeps.refl (w.alloc (.cells #[.int .i64 wd, .int .i64 jn, .int .i64 cp, .int .i64 ml, .slice A n c, .int .i64 ph] 27))
  have KX := Lib.hid example25_any
  by_cases hs1 : 40 < n
  · have hs1i : (40 : Int) < n := by omega
    clear h hB
    go_enter Try.func5, Try.ntmps5
    obtain ⟨y0, y1, y2, y3, y4, y5, y6, y7, y8, y9, y10, y11⟩ := HS.out _ hk0
    go_wp2_with (go_at_call 11; (with_reducible refine (KX.out _).mono ?_); rintro e w2 ⟨rfl, hk2⟩)
    go_ret
    exact ⟨rfl, HB.out.trans hk2⟩
  · have hs1i : ¬ (40 : Int) < n := by omega
    by_cases hs2 : 300000 < long
    · clear h hB
      go_enter Try.func5, Try.ntmps5
      obtain ⟨y0, y1, y2, y3, y4, y5, y6, y7, y8, y9, y10, y11⟩ := HS.out _ hk0
      go_wp2_with (go_at_call 11; (with_reducible refine (KX.out _).mono ?_); rintro e w2 ⟨rfl, hk2⟩)
      go_ret
      exact ⟨rfl, HB.out.trans hk2⟩
    · have hs2b : decide ((300000 : Int) < long) = false := decide_eq_false hs2
      have KR := Lib.hid (fun w' (hk : Keeps (w.alloc (.cells #[.int .i64 wd, .int .i64 jn, .int .i64 cp, .int .i64 ml, .slice A n c, .int .i64 ph] 27)) w') => lruns_any wd jn cp ml ph long A n c D 2000 w' (h.keep (HB.out.trans hk)) (by omega) (by omega))
      have KO := Lib.hid (fun w' (hk : Keeps (w.alloc (.cells #[.int .i64 wd, .int .i64 jn, .int .i64 cp, .int .i64 ml, .slice A n c, .int .i64 ph] 27)) w') => ronint_any wd jn cp ml ph long A n c D w' (h.keep (HB.out.trans hk)) (by omega))
      have hgd := prGuard
      rw [show ((2000 : Nat) : Int) = 2000 from rfl] at KR
      have hlm := List.length_take (i := 2000) (l := onL wd jn cp ml ph D long)
      have hmin : min ((onL wd jn cp ml ph D long).length : Int) 2000 = ((onL wd jn cp ml ph D long).take 2000).length := by rw [hlm]; omega
      have hle : ((onL wd jn cp ml ph D long).take 2000).length ≤ (onL wd jn cp ml ph D long).length := by rw [hlm]; omega
      have hle2 : ((onL wd jn cp ml ph D long).take 2000).length ≤ 2000 := by rw [hlm]; omega
      have hget := Lib.hid (fun k (hk : k < ((onL wd jn cp ml ph D long).take 2000).length) => (show (onL wd jn cp ml ph D long).getD k pt0 = ((onL wd jn cp ml ph D long).take 2000).getD k pt0 by
        rw [List.getD_eq_getElem?_getD, List.getD_eq_getElem?_getD, List.getElem?_take_of_lt (by omega)]))
      clear h hB hlm
      generalize (onL wd jn cp ml ph D long).take 2000 = R at *
      generalize onL wd jn cp ml ph D long = L at *
      go_enter Try.func5, Try.ntmps5
      obtain ⟨y0, y1, y2, y3, y4, y5, y6, y7, y8, y9, y10, y11⟩ := HS.out _ hk0
      go_wp2_with (first | (go_at_call 16; (with_reducible refine (KR.out _ hk0).mono ?_); rintro e w1 ⟨A8, c8, rfl, hP8, hk8⟩; replace hP8 := Lib.hid hP8; clear y0 y1 y2 y3 y4 y5 y6 y7 y8 y9 y10 y11; obtain ⟨y0, y1, y2, y3, y4, y5, y6, y7, y8, y9, y10, y11⟩ := HS.out _ hk8) | (go_at_call 17; (with_reducible refine (KO.out _ hk8).mono ?_); rintro e w2 ⟨A9, c9, rfl, hP9, hk9⟩; have hP8 := Lib.hid (hP8.out.keep hk9); replace hP9 := Lib.hid hP9))
      clear y0 y1 y2 y3 y4 y5 y6 y7 y8 y9 y10 y11 hmin KR KO
      go_loopw [8] (fun iv wr => ∃ k : Nat, iv = .int .i64 k ∧ k ≤ R.length ∧ Keeps w wr ∧ Keeps w2 wr) (fun i _ => R.length - (intOf i).toNat)
      case atStart => exact ⟨0, rfl, by omega, (HB.out.trans hk8).trans hk9, Keeps.refl _⟩
      case round =>
        obtain ⟨k, rfl, hk, hkw, hkw2⟩ := hrel
        by_cases hlt : k < R.length
        · have hlti : (k : Int) < R.length := by omega
          have hltj : (k : Int) < L.length := by omega
          obtain ⟨b, o, rfl, hb, hx⟩ := hP8.out.2.2.2.2 (by omega)
          obtain ⟨b2, o2, rfl, hb2, hx2⟩ := hP9.out.2.2.2.2 (by omega)
          obtain ⟨c0, c1⟩ := (hx k hlt).keep hb hkw2
          obtain ⟨d0, d1⟩ := (hx2 k (by omega)).keep hb2 hkw2
          rw [hget.out k hlt] at d0 d1
          generalize R.getD k pt0 = p at *
          have hP := fun w => prNeq p.1 p.2 p.1 p.2 w
          simp only [beq_self_eq_true, Bool.and_self, Bool.not_true] at hP
          clear hx hx2
          go_upto_region 10 with fail
          go_quiet (fail)
          go_wp2_with fail
          go_roundw
          case rel => exact ⟨k + 1, by go_num, by omega, hkw.drewN nq, hkw2.drewN nq⟩
          case measure => simp [intOf]; omega
        · have hlti : ¬ (k : Int) < R.length := by omega
          go_wp2_with (go_at_call 11; (with_reducible refine (KX.out _).mono ?_); rintro e w5 ⟨rfl, hk5⟩)
          go_ret
          exact ⟨rfl, hkw.trans hk5⟩

set_option maxRecDepth 100000 in
theorem lifted (os : Os) (started : os.Started) (H : Type) (enc : TypeId × Value → H) :
    ReturnsInHanded {} Try.checked os 5 .any (Rows.dashIntervalsAgreeSpec.pre6 enc Try.prog Try.f5 Rows.dashIntervalsAgreeRow.domain false) (Rows.dashIntervalsAgreeSpec.post enc Try.prog Try.f5 false true false false) := by
  refine returnsInHanded_of_change (C := Try.checked) Try.own started (by kernel_rfl) Try.func5
    (ChangeSpec.witness6 (enc := enc) (C := Try.checked) false ⟨#[], #[.agg #[.int .i64 0, .int .i64 0, .int .i64 0, .int .i64 0, .slice none 0 0, .int .i64 0], .int .i64 0], []⟩ 8 (by kernel_rfl) (by kernel_rfl) (by kernel_rfl) (by kernel_rfl)) ?_
  intro W base args ds gs before hval0 hW hcnd _
  have hval : ∀ (j : Nat) t v, Try.f5.params[j]? = some t → args[j]? = some v → Value.okWide Try.prog W .any base t v := hval0
  have hW' := hW
  obtain ⟨p, q, hA0, hV, rfl, hfz, hnd⟩ := hW
  have hA : DataW.TrodAll enc Try.prog W 0 (fun _ => true) true Try.f5.params.toList args.toList ds p := hA0
  have hAll := hA
  rw [Try.params5] at hA hval
  obtain ⟨v0, vs0, d0, ds0, p0, q0, hargs, rfl, rfl, h0, r0⟩ := trodAll_cons hA
  obtain ⟨v1, vs1, d1, ds1, p1, q1, rfl, rfl, rfl, h1, r1⟩ := trodAll_cons r0
  obtain ⟨rfl, rfl, rfl⟩ := trodAll_nil r1
  obtain rfl : args = #[v0, v1] := by cases args; simp_all
  obtain ⟨rfl, rfl⟩ := trodVars_none hV
  obtain ⟨wd0, jn0, cp0, ml0, ph0, A0, n0, c0, D0, rfl, I0, B0⟩ := open_style (hval 0 27 v0 rfl rfl) h0
  obtain ⟨a1, rfl, _, _, w1⟩ := open_int Try.underlying3 (hval 1 3 v1 rfl rfl) h1
  obtain ⟨l1, u1⟩ := bounds_i64 w1
  clear hA0 hval0
  refine (walk wd0 jn0 cp0 ml0 ph0 A0 n0 c0 D0 a1 W I0 B0 l1 u1).mono fun e W' ⟨he, bel⟩ => ?_
  subst he
  exact ⟨_, rfl, _, _, _, [], _, [], hW', trodAll_mk1 (shut_bool Try.underlying4 _), below_trodAll Try.laidOut bel (reads_of (by kernel_rfl)) hAll, rfl, bel.frame _, fun h => by cases h⟩

theorem over : Rows.dashIntervalsAgreeRow.holds Try.pinned (OpenSpec.ofChange Rows.dashIntervalsAgreeSpec) :=
  OpenClaim.holds_of_wide 5 Try.f5 rfl rfl rfl rfl rfl rfl rfl ⟨rfl, rfl, rfl, rfl, rfl⟩ rfl rfl rfl rfl rfl (by kernel_rfl) Try.func5 (by kernel_rfl)
    (of_decide_eq_true (by kernel_rfl)) (by unfold Func.isWrapper; first | (rw [if_pos (by decide +kernel)]; kernel_rfl) | (rw [if_neg (by decide +kernel)]; exact ⟨rfl, rfl⟩))
    (fun os started H enc _ => lifted os started H enc)

/-- The statement. -/
theorem proved : Rows.DashIntervalsAgreeSaid := over
#print axioms proved
end Go.Proofs.Ytihmhpleiefodaa.dashIntervalsAgree
