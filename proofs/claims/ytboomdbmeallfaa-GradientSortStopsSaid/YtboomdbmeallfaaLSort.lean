/- GradientSortStops of grisaillelaw31 returns true for all its arguments: every slice of stops; no condition. -/
import Derived.Test.YtboomdbmeallfaaGp
import Derived.Test.YtboomdbmeallfaaGd
import Derived.Test.YtboomdbmeallfaaGf
import Derived.Test.YtboomdbmeallfaaOs
import Derived.Test.YtboomdbmeallfaaOp
import Derived.Test.YtboomdbmeallfaaKk
namespace Go.Proofs.Ytboomdbmeallfaa.gradientSortStops
open Go.RowKit Go.ChangeShapes Go.WideShapes Go.ChangeAt
set_option linter.unusedVariables false
open Go.Proofs.Ytboomdbmeallfaa
set_option linter.unusedSimpArgs false
/-- The first j stops do not fall. -/
def risTo (L : List St) : Nat → Bool
  | 0 => true
  | j + 1 => risTo L j && (decide (j = 0) || decide ((L.getD (j - 1) st0).1 ≤ (L.getD j st0).1))
theorem risTo_ok (L : List St) : ∀ n, risTo L n = true → ∀ i k, i ≤ k → k < n → (L.getD i st0).1 ≤ (L.getD k st0).1
  | 0, _, i, k, _, hk => by omega
  | n + 1, h, i, k, hik, hk => by
    unfold risTo at h
    rw [Bool.and_eq_true, Bool.or_eq_true, decide_eq_true_eq, decide_eq_true_eq] at h
    obtain ⟨h1, h2⟩ := h
    by_cases hkn : k = n
    · subst hkn
      by_cases hi : i = k
      · rw [hi]; exact Int.le_refl _
      · rcases h2 with h2 | h2
        · omega
        · exact Int.le_trans (risTo_ok L k h1 i (k - 1) (by omega) (by omega)) h2
    · exact risTo_ok L n h1 i k hik (by omega)
theorem ris_srt (L : List St) (n : Nat) (hl : L.length = n) (h : risTo L n = true) : srt L n = L := by
  rw [srt_same L (fun i k hik hk => risTo_ok L n h i k hik (by omega)) n (by omega), List.take_of_length_le (by omega)]
set_option maxRecDepth 100000 in
set_option maxHeartbeats 8000000 in
theorem walk (A : Option Addr) (n c : Nat) (L : List St) (w : World) (h : Sts w A n c L) :
    Calls Try.prog 8 #[.slice A n c] w fun e w' => e = .returned (.bool true) ∧ Below w.heap.size w w' := by
  have g3 := csGuard
  have K9 := Lib.hid (fun w => example31_any w)
  have hmx := h.max
  have hk0 := Keeps.refl w
  have hl := h.1
  by_cases h40 : n ≤ 40
  · have K1 := Lib.hid (fun w => few_yes A n c w h40 hmx)
    have K6 := Lib.hid (fun w' (hk : Keeps w w') => sort_any A n c L w' (h.keep hk) (by omega))
    have hML := srt_length L n
    have hRis := Lib.hid (srt_rising L n)
    have hMM := Lib.hid ((srt_same (srt L n) (srt_rising L n) n (by omega)).trans (List.take_of_length_le (by omega)))
    have hCnt := Lib.hid (fun x => cntS_srt x L n (by omega))
    rw [List.take_of_length_le (by omega)] at hCnt
    have hSame := Lib.hid (ris_srt L n hl)
    generalize srt L n = M at *
    have HL := Lib.hid h
    clear h
    go_enter Try.func8, Try.ntmps8
    go_wp2_with (first | (go_at_call 15; (with_reducible refine (K1.out _).mono ?_); rintro e wf ⟨rfl, rfl⟩) | (go_at_call 25; (with_reducible refine (K6.out _ hk0).mono ?_); rintro e w6 ⟨A1, c1, rfl, hS1, hk⟩; have K7 := Lib.hid (sort_any A1 n c1 M w6 hS1 (by omega)); rw [hMM.out] at K7; have hS1 := Lib.hid hS1; replace hk0 := hk0.trans hk; clear hk K6) | (go_at_call 25; (with_reducible refine (K7.out).mono ?_); rintro e w7 ⟨A2, c2, rfl, hS2, hk⟩; have KS := Lib.hid (same_any A2 A1 n c2 c1 M w7 hS2 (hS1.out.keep hk)); have hS1 := Lib.hid (hS1.out.keep hk); replace hk0 := hk0.trans hk; clear hk hS2) | (go_at_call 24; (with_reducible refine KS.out.mono ?_); rintro e w8 ⟨rfl, hk⟩; have hS1 := Lib.hid (hS1.out.keep hk); replace hk0 := hk0.trans hk; clear hk))
    rename World => ws
    go_loopw [4, 5] (fun r i wr => ∃ j : Nat, j ≤ n ∧ i = .int .i64 j ∧ r = .bool (risTo L j) ∧ Keeps ws wr) (fun _ i _ => n - (intOf i).toNat)
    case atStart => exact ⟨0, by omega, rfl, rfl, Keeps.refl _⟩
    case round =>
      obtain ⟨j, hj, rfl, rfl, hkw⟩ := hrel
      by_cases hlt : j < n
      · have hlt2 : (j : Int) < n := by omega
        obtain ⟨b1, o1, rfl, hb1, hc1⟩ := HL.out.2.2.2.2 (by omega)
        obtain ⟨b2, o2, rfl, hb2, hc2⟩ := hS1.out.2.2.2.2 (by omega)
        have hx : ∀ k : KW wr, StAt k.w b1 (o1 + j * 5) (L.getD j st0) := fun k => (hc1 j hlt).keep hb1 ((hk0.trans hkw).trans k.keeps)
        have hm : ∀ k : KW wr, k.w.cell? ⟨b2, o2 + j * 5, none⟩ = some (.int .i64 (M.getD j st0).1) := fun k => ((hc2 j hlt).keep hb2 (hkw.trans k.keeps)).1
        have hr0 := Lib.hid (show risTo L (j + 1) = (risTo L j && (decide (j = 0) || decide ((L.getD (j - 1) st0).1 ≤ (L.getD j st0).1))) from rfl)
        by_cases h0 : j = 0
        · have t1 : decide (0 < (j : Int)) = false := decide_eq_false (by omega)
          have t2 : decide (0 < j) = false := decide_eq_false (by omega)
          have t3 : ((j : Int) == 0) = true := by simp [h0]
          have t4 : (j == 0) = true := by simp [h0]
          have hr := Lib.hid (show risTo L (j + 1) = risTo L j by rw [hr0.out, decide_eq_true h0]; simp)
          clear h0 hr0 hm
          generalize L.getD j st0 = x at *
          have z0 : ∀ k : KW wr, k.w.cell? ⟨b1, o1 + j * 5, none⟩ = some (.int .i64 x.1) := fun k => (hx k).1
          have z1 : ∀ k : KW wr, k.w.cell? ⟨b1, o1 + j * 5 + 1, none⟩ = some (.int .u8 x.2.1) := fun k => (hx k).2.1
          have z2 : ∀ k : KW wr, k.w.cell? ⟨b1, o1 + j * 5 + 2, none⟩ = some (.int .u8 x.2.2.1) := fun k => (hx k).2.2.1
          have z3 : ∀ k : KW wr, k.w.cell? ⟨b1, o1 + j * 5 + 3, none⟩ = some (.int .u8 x.2.2.2.1) := fun k => (hx k).2.2.2.1
          have z4 : ∀ k : KW wr, k.w.cell? ⟨b1, o1 + j * 5 + 4, none⟩ = some (.int .u8 x.2.2.2.2) := fun k => (hx k).2.2.2.2
          have KC1 := Lib.hid (fun k : KW wr => keepq (count_any _ n c1 M x k.w (hS1.out.keep (hkw.trans k.keeps))))
          have KC2 := Lib.hid (fun k : KW wr => keepq (count_any _ n c L x k.w (HL.out.keep ((hk0.trans hkw).trans k.keeps))))
          rw [hCnt.out x] at KC1
          have HX := Lib.hid hx
          generalize cntS x L = q at *
          clear hc1 hc2 hx
          go_wp2_with fail
          refine wp_region_kept (wr) (by kernel_rfl) (by kernel_rfl) (Keeps.refl _) ?_
          repeat (first | go_big_quiet_skip | (go_big_quiet_want; go_big_quiet_op; first | go_big_quiet_on | go_big_quiet_call ((go_at_call 27; first | (with_reducible exact KC1.out _) | (with_reducible exact KC2.out _)))))
          refine wpQuiet_nil ?_
          rintro w' ⟨k9, rfl⟩
          have hk := k9.keeps
          generalize k9.w = w9 at hk ⊢
          clear k9
          obtain ⟨y0, y1, y2, y3, y4⟩ : StAt w9 b1 (o1 + j * 5) x := HX.out ⟨_, hk⟩
          clear z0 z1 z2 z3 z4
          cases hb : risTo L j with
          | true =>
            rw [hb] at hr
            go_wp2_with fail
            go_quiet (fail)
            go_wp2_with fail
            go_roundw
            case rel => exact ⟨j + 1, by omega, by go_num, by rw [hr.out], (hkw.trans hk).drewN _⟩
            case measure => simp [intOf]; omega
          | false =>
            rw [hb] at hr
            go_wp2_with fail
            go_quiet (fail)
            go_wp2_with fail
            go_roundw
            case rel => exact ⟨j + 1, by omega, by go_num, by rw [hr.out], (hkw.trans hk).drewN _⟩
            case measure => simp [intOf]; omega
        · have t1 : decide (0 < (j : Int)) = true := decide_eq_true (by omega)
          have t2 : decide (0 < j) = true := decide_eq_true (by omega)
          have t3 : ((j : Int) == 0) = false := by simp [h0]
          have t4 : (j == 0) = false := by simp [h0]
          have t5 : ((j : Int) - 1).toNat = j - 1 := by omega
          have t6 : (0 : Int) ≤ (j : Int) - 1 := by omega
          have t7 : (j : Int) - 1 < n := by omega
          have hm2 : ∀ k : KW wr, k.w.cell? ⟨b2, o2 + (j - 1) * 5, none⟩ = some (.int .i64 (M.getD (j - 1) st0).1) := fun k => ((hc2 (j - 1) (by omega)).keep hb2 (hkw.trans k.keeps)).1
          have hl2 : ∀ k : KW wr, k.w.cell? ⟨b1, o1 + (j - 1) * 5, none⟩ = some (.int .i64 (L.getD (j - 1) st0).1) := fun k => ((hc1 (j - 1) (by omega)).keep hb1 ((hk0.trans hkw).trans k.keeps)).1
          have u1 : decide ((M.getD j st0).1 < (M.getD (j - 1) st0).1) = false := decide_eq_false (by have := hRis.out (j - 1) j (by omega) (by omega); omega)
          rw [decide_eq_false h0, Bool.false_or] at hr0
          clear h0
          generalize M.getD j st0 = m1 at *
          generalize M.getD (j - 1) st0 = m2 at *
          generalize L.getD (j - 1) st0 = x2 at *
          generalize L.getD j st0 = x at *
          have z0 : ∀ k : KW wr, k.w.cell? ⟨b1, o1 + j * 5, none⟩ = some (.int .i64 x.1) := fun k => (hx k).1
          have z1 : ∀ k : KW wr, k.w.cell? ⟨b1, o1 + j * 5 + 1, none⟩ = some (.int .u8 x.2.1) := fun k => (hx k).2.1
          have z2 : ∀ k : KW wr, k.w.cell? ⟨b1, o1 + j * 5 + 2, none⟩ = some (.int .u8 x.2.2.1) := fun k => (hx k).2.2.1
          have z3 : ∀ k : KW wr, k.w.cell? ⟨b1, o1 + j * 5 + 3, none⟩ = some (.int .u8 x.2.2.2.1) := fun k => (hx k).2.2.2.1
          have z4 : ∀ k : KW wr, k.w.cell? ⟨b1, o1 + j * 5 + 4, none⟩ = some (.int .u8 x.2.2.2.2) := fun k => (hx k).2.2.2.2
          have KC1 := Lib.hid (fun k : KW wr => keepq (count_any _ n c1 M x k.w (hS1.out.keep (hkw.trans k.keeps))))
          have KC2 := Lib.hid (fun k : KW wr => keepq (count_any _ n c L x k.w (HL.out.keep ((hk0.trans hkw).trans k.keeps))))
          rw [hCnt.out x] at KC1
          have HX := Lib.hid hx
          generalize cntS x L = q at *
          clear hc1 hc2 hx
          go_wp2_with fail
          refine wp_region_kept (wr) (by kernel_rfl) (by kernel_rfl) (Keeps.refl _) ?_
          repeat (first | go_big_quiet_skip | (go_big_quiet_want; go_big_quiet_op; first | go_big_quiet_on | go_big_quiet_call ((go_at_call 27; first | (with_reducible exact KC1.out _) | (with_reducible exact KC2.out _)))))
          refine wpQuiet_nil ?_
          rintro w' ⟨k9, rfl⟩
          have hk := k9.keeps
          generalize k9.w = w9 at hk ⊢
          clear k9
          obtain ⟨y0, y1, y2, y3, y4⟩ : StAt w9 b1 (o1 + j * 5) x := HX.out ⟨_, hk⟩
          clear z0 z1 z2 z3 z4
          have hl3 : w9.cell? ⟨b1, o1 + (j - 1) * 5, none⟩ = some (.int .i64 x2.1) := hl2 ⟨_, hk⟩
          clear hl2 hm hm2
          cases hb : risTo L j with
          | false =>
            rw [hb] at hr0
            go_wp2_with fail
            go_quiet (fail)
            go_wp2_with fail
            go_roundw
            case rel => exact ⟨j + 1, by omega, by go_num, by rw [hr0.out]; rfl, (hkw.trans hk).drewN _⟩
            case measure => simp [intOf]; omega
          | true =>
            rw [hb, Bool.true_and] at hr0
            by_cases hle : x2.1 ≤ x.1
            · rw [decide_eq_true hle] at hr0
              go_wp2_with fail
              go_quiet (fail)
              go_wp2_with fail
              go_roundw
              case rel => exact ⟨j + 1, by omega, by go_num, by rw [hr0.out], (hkw.trans hk).drewN _⟩
              case measure => simp [intOf]; omega
            · rw [decide_eq_false hle] at hr0
              have v1 : decide (x2.1 ≤ x.1) = false := decide_eq_false hle
              go_wp2_with fail
              go_quiet (fail)
              go_wp2_with fail
              go_roundw
              case rel => exact ⟨j + 1, by omega, by go_num, by rw [hr0.out], (hkw.trans hk).drewN _⟩
              case measure => simp [intOf]; omega
      · obtain rfl : j = n := by omega
        cases hb : risTo L j with
        | true =>
          obtain rfl := hSame.out hb
          have KS := Lib.hid (same_any _ _ j c1 c M wr (hS1.out.keep hkw) (HL.out.keep (hk0.trans hkw)))
          have hkr := hk0.trans hkw
          clear hk0 hkw
          go_wp2_with (first | (go_at_call 24; (with_reducible refine KS.out.mono ?_); rintro e w8 ⟨rfl, hk⟩; replace hkr := hkr.trans hk; clear hk) | (go_at_call 14; (with_reducible refine (K9.out _).mono ?_); rintro e w9 ⟨rfl, hk⟩; replace hkr := hkr.trans hk; clear hk))
          go_ret
          exact ⟨rfl, hkr⟩
        | false =>
          have hkr := hk0.trans hkw
          clear hk0 hkw
          go_wp2_with (go_at_call 14; (with_reducible refine (K9.out _).mono ?_); rintro e w9 ⟨rfl, hk⟩; replace hkr := hkr.trans hk; clear hk)
          go_ret
          exact ⟨rfl, hkr⟩
  · have K1 := Lib.hid (fun w => few_no A n c w h40 hmx)
    clear h
    go_enter Try.func8, Try.ntmps8
    go_wp2_with (first | (go_at_call 15; (with_reducible refine (K1.out _).mono ?_); rintro e wf ⟨rfl, rfl⟩) | (go_at_call 14; (with_reducible refine (K9.out _).mono ?_); rintro e w9 ⟨rfl, hk⟩; replace hk0 := hk0.trans hk; clear hk))
    go_ret
    exact ⟨rfl, hk0⟩

set_option maxRecDepth 100000 in
theorem lifted (os : Os) (started : os.Started) (H : Type) (enc : TypeId × Value → H) :
    ReturnsInHanded {} Try.checked os 8 .any (Rows.gradientSortStopsSpec.pre6 enc Try.prog Try.f8 Rows.gradientSortStopsRow.domain false) (Rows.gradientSortStopsSpec.post enc Try.prog Try.f8 false true false false) := by
  refine returnsInHanded_of_change (C := Try.checked) Try.own started (by kernel_rfl) Try.func8
    (ChangeSpec.witness6 (enc := enc) (C := Try.checked) false ⟨#[], #[.slice none 0 0], []⟩ 8 (by kernel_rfl) (by kernel_rfl) (by kernel_rfl) (by kernel_rfl)) ?_
  intro W base args ds gs before hval0 hW hcnd _
  have hval : ∀ (j : Nat) t v, Try.f8.params[j]? = some t → args[j]? = some v → Value.okWide Try.prog W .any base t v := hval0
  have hW' := hW
  obtain ⟨p, q, hA0, hV, rfl, hfz, hnd⟩ := hW
  have hA : DataW.TrodAll enc Try.prog W 0 (fun _ => true) true Try.f8.params.toList args.toList ds p := hA0
  have hAll := hA
  rw [Try.params8] at hA hval
  obtain ⟨v0, vs0, d0, ds0, p0, q0, hargs, rfl, rfl, h0, r0⟩ := trodAll_cons hA
  obtain ⟨rfl, rfl, rfl⟩ := trodAll_nil r0
  obtain rfl : args = #[v0] := by cases args; simp_all
  obtain ⟨rfl, rfl⟩ := trodVars_none hV
  obtain ⟨A0, n0, c0, L0, rfl, S0⟩ := open_stops (hval 0 25 v0 rfl rfl) h0
  clear hA0 hval0
  refine (walk A0 n0 c0 L0 W S0).mono fun e W' ⟨he, bel⟩ => ?_
  subst he
  exact ⟨_, rfl, _, _, _, [], _, [], hW', trodAll_mk1 (shut_bool Try.underlying4 _), below_trodAll Try.laidOut bel (reads_of (by kernel_rfl)) hAll, rfl, bel.frame _, fun h => by cases h⟩

theorem over : Rows.gradientSortStopsRow.holds Try.pinned (OpenSpec.ofChange Rows.gradientSortStopsSpec) :=
  OpenClaim.holds_of_wide 8 Try.f8 rfl rfl rfl rfl rfl rfl rfl ⟨rfl, rfl, rfl, rfl, rfl⟩ rfl rfl rfl rfl rfl (by kernel_rfl) Try.func8 (by kernel_rfl)
    (of_decide_eq_true (by kernel_rfl)) (by unfold Func.isWrapper; first | (rw [if_pos (by decide +kernel)]; kernel_rfl) | (rw [if_neg (by decide +kernel)]; exact ⟨rfl, rfl⟩))
    (fun os started H enc _ => lifted os started H enc)

/-- The statement. -/
theorem proved : Rows.GradientSortStopsSaid := over
#print axioms proved
end Go.Proofs.Ytboomdbmeallfaa.gradientSortStops
