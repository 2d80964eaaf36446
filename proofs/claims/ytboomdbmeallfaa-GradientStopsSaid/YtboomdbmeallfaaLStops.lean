/- GradientStops of grisaillelaw31 returns true for all its arguments: every slice of stops, every byte, every int; no condition. -/
import Derived.Test.YtboomdbmeallfaaGf
import Derived.Test.YtboomdbmeallfaaOp
import Derived.Test.YtboomdbmeallfaaKk
namespace Go.Proofs.Ytboomdbmeallfaa.gradientStops
open Go.RowKit Go.ChangeShapes Go.WideShapes Go.ChangeAt
set_option linter.unusedVariables false
open Go.Proofs.Ytboomdbmeallfaa
set_option linter.unusedSimpArgs false
set_option maxRecDepth 100000 in
set_option maxHeartbeats 8000000 in
theorem walk (A : Option Addr) (n c : Nat) (L : List St) (k t : Int) (w : World) (h : Sts w A n c L) (lk : 0 ≤ k) (uk : k ≤ 255) (l : -9223372036854775808 ≤ t) (u : t ≤ 9223372036854775807) :
    Calls Try.prog 4 #[.slice A n c, .int .u8 k, .int .i64 t] w fun e w' => e = .returned (.bool true) ∧ Below w.heap.size w w' := by
  have g3 := coGuard
  have g4 := coEql
  have g5 := coNeq
  have K9 := Lib.hid (fun w => example31_any w)
  have K2 := Lib.hid (fun w' (hk : Keeps w w') => valid31_any A n c L w' (h.keep hk))
  have GC := Lib.hid (fun (t : Int) (l : -9223372036854775808 ≤ t) (u : t ≤ 9223372036854775807) w' (hk : Keeps w w') => colorAt_any A n c L t w' (h.keep hk) l u)
  have hmx := h.max
  have hl := h.1
  have hk0 := Keeps.refl w
  by_cases h40 : n ≤ 40
  · have K1 := Lib.hid (fun w => few_yes A n c w h40 hmx)
    cases hv : vB L with
    | false =>
      rw [hv] at K2
      have K3 := Lib.hid (GC.out t l u)
      rw [show cAt L t = (0, 0, 0, 0) by unfold cAt; rw [if_pos hv]] at K3
      rw [show colV (0, 0, 0, 0) = .agg #[.int .u8 0, .int .u8 0, .int .u8 0, .int .u8 0] from rfl] at K3
      have q1 := eq4_refl 0 0 0 0
      clear h GC
      go_enter Try.func4, Try.ntmps4
      go_wp2_with (first | (go_at_call 15; (with_reducible refine (K1.out _).mono ?_); rintro e wf ⟨rfl, rfl⟩) | (go_at_call 16; (with_reducible refine (K2.out _ hk0).mono ?_); rintro e w2 ⟨rfl, hk2⟩; replace hk0 := hk0.trans hk2; clear hk2) | (go_at_call 17; (with_reducible refine (K3.out _ hk0).mono ?_); rintro e w3 ⟨rfl, hk3⟩; replace hk0 := hk0.trans hk3; clear hk3) | (go_at_call 14; (with_reducible refine (K9.out _).mono ?_); rintro e w9 ⟨rfl, hk9⟩; replace hk0 := hk0.trans hk9; clear hk9))
      go_ret
      exact ⟨rfl, hk0⟩
    | true =>
      rw [hv] at K2
      obtain ⟨n1, n2, hF, hR⟩ := vB_range hv
      rw [hl] at n1 n2 hR
      have hMo := Lib.hid (vFrom_mono L 0 hF)
      have hS1 := Lib.hid (cAt_first L t hv)
      have hS2 := Lib.hid (cAt_last L t hv)
      have hS3 := Lib.hid (fun i m => cAt_stop L i m hv)
      rw [hl] at hS2 hS3
      obtain ⟨b, o, rfl, hb, hcc⟩ := h.2.2.2.2 (by omega)
      have HA := Lib.hid (fun i (hi : i < n) (w' : World) (hk : Keeps w w') => (hcc i hi).keep hb hk)
      have hR := Lib.hid hR
      obtain ⟨i, hi⟩ : ∃ i : Nat, k % (n : Int) = i := Int.eq_ofNat_of_zero_le (Int.emod_nonneg _ (by omega))
      have hin : i < n := by have := Int.emod_lt_of_pos k (show (0 : Int) < n by omega); omega
      have hi2 : k.tmod (n : Int) = (i : Int) := by rw [Int.tmod_eq_emod_of_nonneg lk]; exact hi
      have hn0 : ((n : Int) == 0) = false := beq_eq_false_iff_ne.2 (by omega)
      obtain ⟨e, hen⟩ : ∃ e, n = e + 1 := ⟨n - 1, by omega⟩
      have hen2 : (n : Int) - 1 = (e : Int) := by omega
      have hee := Lib.hid hen
      clear h hF hcc hv hi hen
      go_enter Try.func4, Try.ntmps4
      go_wp2_with (first | (go_at_call 15; (with_reducible refine (K1.out _).mono ?_); rintro e wf ⟨rfl, rfl⟩) | (go_at_call 16; (with_reducible refine (K2.out _ hk0).mono ?_); rintro e w2 ⟨rfl, hk2⟩; replace hk0 := hk0.trans hk2; clear hk2))
      have hin2 : (i : Int) < n := by omega
      go_loopw [8, 9] (fun la q wr => ∃ (m j : Nat), i ≤ m ∧ m < n ∧ i ≤ j ∧ j ≤ n ∧ la = .int .i64 m ∧ q = .int .i64 j ∧ Keeps w wr ∧ Hid ((L.getD m st0).1 = (L.getD i st0).1 ∧ ∀ q, m < q → q < j → (L.getD q st0).1 ≠ (L.getD i st0).1)) (fun _ q _ => n - (intOf q).toNat)
      case atStart => exact ⟨i, i, Nat.le_refl _, hin, Nat.le_refl _, by omega, rfl, rfl, hk0, Lib.hid ⟨rfl, fun q h1 h2 => by omega⟩⟩
      case round =>
        obtain ⟨m, j, him, hmn, hij, hj, rfl, rfl, hkw, hQ⟩ := hrel
        by_cases hlt : j < n
        · obtain ⟨c0, c1, c2, c3, c4⟩ := HA.out j hlt wr hkw
          obtain ⟨d0, d1, d2, d3, d4⟩ := HA.out i hin wr hkw
          have hlt2 : (j : Int) < n := by omega
          by_cases heq : (L.getD j st0).1 = (L.getD i st0).1
          · have hQ2 := Lib.hid (show (L.getD j st0).1 = (L.getD i st0).1 ∧ ∀ q, j < q → q < j + 1 → (L.getD q st0).1 ≠ (L.getD i st0).1 from ⟨heq, fun q h1 h2 => by omega⟩)
            rw [heq] at c0
            generalize (L.getD i st0) = s at *
            go_wp2_with fail
            go_quiet (fail)
            go_wp2_with fail
            go_roundw
            case rel => exact ⟨j, j + 1, hij, hlt, by omega, by omega, by go_num, by go_num, hkw.drewN _, hQ2⟩
            case measure => simp [intOf]; omega
          · have hQ2 := Lib.hid (show (L.getD m st0).1 = (L.getD i st0).1 ∧ ∀ q, m < q → q < j + 1 → (L.getD q st0).1 ≠ (L.getD i st0).1 from ⟨hQ.out.1, fun q h1 h2 => by
              rcases Nat.lt_succ_iff_lt_or_eq.1 h2 with h3 | h3
              · exact hQ.out.2 q h1 h3
              · rw [h3]; exact heq⟩)
            have t1 : ((L.getD j st0).1 == (L.getD i st0).1) = false := beq_eq_false_iff_ne.2 heq
            clear hQ heq
            generalize (L.getD i st0) = s at *
            generalize (L.getD j st0) = s2 at *
            go_wp2_with fail
            go_quiet (fail)
            go_wp2_with fail
            go_roundw
            case rel => exact ⟨m, j + 1, him, hmn, by omega, by omega, rfl, by go_num, hkw.drewN _, hQ2⟩
            case measure => simp [intOf]; omega
        · obtain rfl : j = n := by omega
          have hE := hS3.out i m hmn him hQ.out.1 hQ.out.2
          have r1 := hR.out i hin
          have K4 := GC.out (L.getD i st0).1 (by omega) (by omega)
          rw [hE] at K4
          rw [show colV (L.getD m st0).2 = .agg #[.int .u8 (L.getD m st0).2.1, .int .u8 (L.getD m st0).2.2.1, .int .u8 (L.getD m st0).2.2.2.1, .int .u8 (L.getD m st0).2.2.2.2] from rfl] at K4
          have GCt := GC.out t l u
          have hej : e < j := by have := hee.out; omega
          have he1 : j - 1 = e := by have := hee.out; omega
          have hmo1 := hMo.out 0 e (by omega) (by omega)
          have hmn2 : (m : Int) < j := by omega
          have hej2 : (e : Int) < j := by omega
          have h0j : (0 : Int) < j := by omega
          have zaA := Lib.hid (fun (k : KW wr) => (by have h := HA.out 0 (by omega) _ (hkw.trans k.keeps); rw [Nat.zero_mul, Nat.add_zero] at h; exact h : StAt k.w b o (L.getD 0 st0)))
          have za0 : ∀ k : KW wr, k.w.cell? ⟨b, o, none⟩ = some (.int .i64 (L.getD 0 st0).1) := fun k => (zaA.out k).1
          have za1 : ∀ k : KW wr, k.w.cell? ⟨b, o + 1, none⟩ = some (.int .u8 (L.getD 0 st0).2.1) := fun k => (zaA.out k).2.1
          have za2 : ∀ k : KW wr, k.w.cell? ⟨b, o + 1 + 1, none⟩ = some (.int .u8 (L.getD 0 st0).2.2.1) := fun k => (zaA.out k).2.2.1
          have za3 : ∀ k : KW wr, k.w.cell? ⟨b, o + 1 + 2, none⟩ = some (.int .u8 (L.getD 0 st0).2.2.2.1) := fun k => (zaA.out k).2.2.2.1
          have za4 : ∀ k : KW wr, k.w.cell? ⟨b, o + 1 + 3, none⟩ = some (.int .u8 (L.getD 0 st0).2.2.2.2) := fun k => (zaA.out k).2.2.2.2
          have zeA := Lib.hid (fun (k : KW wr) => HA.out e (by omega) _ (hkw.trans k.keeps))
          have ze0 : ∀ k : KW wr, k.w.cell? ⟨b, o + e * 5, none⟩ = some (.int .i64 (L.getD e st0).1) := fun k => (zeA.out k).1
          have ze1 : ∀ k : KW wr, k.w.cell? ⟨b, o + e * 5 + 1, none⟩ = some (.int .u8 (L.getD e st0).2.1) := fun k => (zeA.out k).2.1
          have ze2 : ∀ k : KW wr, k.w.cell? ⟨b, o + e * 5 + 1 + 1, none⟩ = some (.int .u8 (L.getD e st0).2.2.1) := fun k => (zeA.out k).2.2.1
          have ze3 : ∀ k : KW wr, k.w.cell? ⟨b, o + e * 5 + 1 + 2, none⟩ = some (.int .u8 (L.getD e st0).2.2.2.1) := fun k => (zeA.out k).2.2.2.1
          have ze4 : ∀ k : KW wr, k.w.cell? ⟨b, o + e * 5 + 1 + 3, none⟩ = some (.int .u8 (L.getD e st0).2.2.2.2) := fun k => (zeA.out k).2.2.2.2
          have ziA := Lib.hid (fun (k : KW wr) => HA.out i (by omega) _ (hkw.trans k.keeps))
          have zi0 : ∀ k : KW wr, k.w.cell? ⟨b, o + i * 5, none⟩ = some (.int .i64 (L.getD i st0).1) := fun k => (ziA.out k).1
          have zmA := Lib.hid (fun (k : KW wr) => HA.out m (by omega) _ (hkw.trans k.keeps))
          have zm1 : ∀ k : KW wr, k.w.cell? ⟨b, o + m * 5 + 1, none⟩ = some (.int .u8 (L.getD m st0).2.1) := fun k => (zmA.out k).2.1
          have zm2 : ∀ k : KW wr, k.w.cell? ⟨b, o + m * 5 + 1 + 1, none⟩ = some (.int .u8 (L.getD m st0).2.2.1) := fun k => (zmA.out k).2.2.1
          have zm3 : ∀ k : KW wr, k.w.cell? ⟨b, o + m * 5 + 1 + 2, none⟩ = some (.int .u8 (L.getD m st0).2.2.2.1) := fun k => (zmA.out k).2.2.2.1
          have zm4 : ∀ k : KW wr, k.w.cell? ⟨b, o + m * 5 + 1 + 3, none⟩ = some (.int .u8 (L.getD m st0).2.2.2.2) := fun k => (zmA.out k).2.2.2.2
          have K4 := Lib.hid (fun k : KW wr => keepq (K4 k.w (hkw.trans k.keeps)))
          have M9 := Lib.hid (fun k : KW wr => keepq (example31_any k.w))
          have hkr := Keeps.refl wr
          have qm := eq4_refl (L.getD m st0).2.1 (L.getD m st0).2.2.1 (L.getD m st0).2.2.2.1 (L.getD m st0).2.2.2.2
          have q0 := eq4_refl (L.getD 0 st0).2.1 (L.getD 0 st0).2.2.1 (L.getD 0 st0).2.2.2.1 (L.getD 0 st0).2.2.2.2
          have qe := eq4_refl (L.getD e st0).2.1 (L.getD e st0).2.2.1 (L.getD e st0).2.2.2.1 (L.getD e st0).2.2.2.2
          clear hE r1 hQ HA hR hMo hS3 K1 K2 K9
          by_cases ha : t < (L.getD 0 st0).1
          · have GCt := fun w' hk => GCt w' hk
            rw [hS1.out ha] at GCt
            rw [show colV (L.getD 0 st0).2 = .agg #[.int .u8 (L.getD 0 st0).2.1, .int .u8 (L.getD 0 st0).2.2.1, .int .u8 (L.getD 0 st0).2.2.2.1, .int .u8 (L.getD 0 st0).2.2.2.2] from rfl] at GCt
            have K3 := Lib.hid (fun k : KW wr => keepq (GCt k.w (hkw.trans k.keeps)))
            have t1 : decide (t < (L.getD 0 st0).1) = true := decide_eq_true ha
            have t2 : decide ((L.getD e st0).1 ≤ t) = false := decide_eq_false (by omega)
            clear GCt GC hS1 hS2 ha hmo1
            generalize L.getD 0 st0 = s0 at *
            generalize L.getD e st0 = se at *
            generalize L.getD i st0 = si at *
            generalize L.getD m st0 = sm at *
            go_wp2_with fail
            refine wp_region_kept (wr) (by kernel_rfl) (by kernel_rfl) (hkr) ?_
            repeat (first | go_big_quiet_skip | (go_big_quiet_want; go_big_quiet_op; first | go_big_quiet_on | go_big_quiet_call ((go_at_call 17; first | (with_reducible exact K3.out _)))))
            refine wpQuiet_nil ?_
            rintro w' ⟨k9, rfl⟩
            have hk := k9.keeps
            generalize k9.w = w9 at hk ⊢
            clear k9
            go_wp2_with fail
            refine wp_region_kept (wr) (by kernel_rfl) (by kernel_rfl) (hk) ?_
            repeat (first | go_big_quiet_skip | (go_big_quiet_want; go_big_quiet_op; first | go_big_quiet_on | go_big_quiet_call ((first | (go_at_call 17; first | (with_reducible exact K4.out _)) | (go_at_call 14; first | (with_reducible exact M9.out _))))))
            refine wpQuiet_nil ?_
            rintro w' ⟨k9, rfl⟩
            have hk := k9.keeps
            generalize k9.w = w9 at hk ⊢
            clear k9
            go_wp2_with fail
            go_ret
            exact ⟨rfl, hkw.trans hk⟩
          · by_cases hz : (L.getD e st0).1 ≤ t
            · have GCt := fun w' hk => GCt w' hk
              have hS := hS2.out
              rw [he1] at hS
              rw [hS hz] at GCt
              rw [show colV (L.getD e st0).2 = .agg #[.int .u8 (L.getD e st0).2.1, .int .u8 (L.getD e st0).2.2.1, .int .u8 (L.getD e st0).2.2.2.1, .int .u8 (L.getD e st0).2.2.2.2] from rfl] at GCt
              have K3 := Lib.hid (fun k : KW wr => keepq (GCt k.w (hkw.trans k.keeps)))
              have t1 : decide (t < (L.getD 0 st0).1) = false := decide_eq_false ha
              have t2 : decide ((L.getD e st0).1 ≤ t) = true := decide_eq_true hz
              clear GCt GC hS hS1 hS2 ha hz hmo1
              generalize L.getD 0 st0 = s0 at *
              generalize L.getD e st0 = se at *
              generalize L.getD i st0 = si at *
              generalize L.getD m st0 = sm at *
              go_wp2_with fail
              refine wp_region_kept (wr) (by kernel_rfl) (by kernel_rfl) (hkr) ?_
              repeat (first | go_big_quiet_skip | (go_big_quiet_want; go_big_quiet_op; first | go_big_quiet_on | go_big_quiet_call ((go_at_call 17; first | (with_reducible exact K3.out _)))))
              refine wpQuiet_nil ?_
              rintro w' ⟨k9, rfl⟩
              have hk := k9.keeps
              generalize k9.w = w9 at hk ⊢
              clear k9
              go_wp2_with fail
              refine wp_region_kept (wr) (by kernel_rfl) (by kernel_rfl) (hk) ?_
              repeat (first | go_big_quiet_skip | (go_big_quiet_want; go_big_quiet_op; first | go_big_quiet_on | go_big_quiet_call ((first | (go_at_call 17; first | (with_reducible exact K4.out _)) | (go_at_call 14; first | (with_reducible exact M9.out _))))))
              refine wpQuiet_nil ?_
              rintro w' ⟨k9, rfl⟩
              have hk := k9.keeps
              generalize k9.w = w9 at hk ⊢
              clear k9
              go_wp2_with fail
              go_ret
              exact ⟨rfl, hkw.trans hk⟩
            · have K3 := M9
              have t1 : decide (t < (L.getD 0 st0).1) = false := decide_eq_false ha
              have t2 : decide ((L.getD e st0).1 ≤ t) = false := decide_eq_false hz
              clear GCt GC hS1 hS2 ha hz hmo1
              generalize L.getD 0 st0 = s0 at *
              generalize L.getD e st0 = se at *
              generalize L.getD i st0 = si at *
              generalize L.getD m st0 = sm at *
              go_wp2_with fail
              refine wp_region_kept (wr) (by kernel_rfl) (by kernel_rfl) (hkr) ?_
              repeat (first | go_big_quiet_skip | (go_big_quiet_want; go_big_quiet_op; first | go_big_quiet_on | go_big_quiet_call ((go_at_call 17; first | (with_reducible exact K3.out _)))))
              refine wpQuiet_nil ?_
              rintro w' ⟨k9, rfl⟩
              have hk := k9.keeps
              generalize k9.w = w9 at hk ⊢
              clear k9
              go_wp2_with fail
              refine wp_region_kept (wr) (by kernel_rfl) (by kernel_rfl) (hk) ?_
              repeat (first | go_big_quiet_skip | (go_big_quiet_want; go_big_quiet_op; first | go_big_quiet_on | go_big_quiet_call ((first | (go_at_call 17; first | (with_reducible exact K4.out _)) | (go_at_call 14; first | (with_reducible exact M9.out _))))))
              refine wpQuiet_nil ?_
              rintro w' ⟨k9, rfl⟩
              have hk := k9.keeps
              generalize k9.w = w9 at hk ⊢
              clear k9
              go_wp2_with fail
              go_ret
              exact ⟨rfl, hkw.trans hk⟩
  · have K1 := Lib.hid (fun w => few_no A n c w h40 hmx)
    clear h GC
    go_enter Try.func4, Try.ntmps4
    go_wp2_with (first | (go_at_call 15; (with_reducible refine (K1.out _).mono ?_); rintro e wf ⟨rfl, rfl⟩) | (go_at_call 14; (with_reducible refine (K9.out _).mono ?_); rintro e w9 ⟨rfl, hk9⟩; replace hk0 := hk0.trans hk9; clear hk9))
    go_ret
    exact ⟨rfl, hk0⟩

set_option maxRecDepth 100000 in
theorem lifted (os : Os) (started : os.Started) (H : Type) (enc : TypeId × Value → H) :
    ReturnsInHanded {} Try.checked os 4 .any (Rows.gradientStopsSpec.pre6 enc Try.prog Try.f4 Rows.gradientStopsRow.domain false) (Rows.gradientStopsSpec.post enc Try.prog Try.f4 false true false false) := by
  refine returnsInHanded_of_change (C := Try.checked) Try.own started (by kernel_rfl) Try.func4
    (ChangeSpec.witness6 (enc := enc) (C := Try.checked) false ⟨#[], #[.slice none 0 0, .int .u8 0, .int .i64 0], []⟩ 8 (by kernel_rfl) (by kernel_rfl) (by kernel_rfl) (by kernel_rfl)) ?_
  intro W base args ds gs before hval0 hW hcnd _
  have hval : ∀ (j : Nat) t v, Try.f4.params[j]? = some t → args[j]? = some v → Value.okWide Try.prog W .any base t v := hval0
  have hW' := hW
  obtain ⟨p, q, hA0, hV, rfl, hfz, hnd⟩ := hW
  have hA : DataW.TrodAll enc Try.prog W 0 (fun _ => true) true Try.f4.params.toList args.toList ds p := hA0
  have hAll := hA
  rw [Try.params4] at hA hval
  obtain ⟨v0, vs0, d0, ds0, p0, q0, hargs, rfl, rfl, h0, r0⟩ := trodAll_cons hA
  obtain ⟨v1, vs1, d1, ds1, p1, q1, rfl, rfl, rfl, h1, r1⟩ := trodAll_cons r0
  obtain ⟨v2, vs2, d2, ds2, p2, q2, rfl, rfl, rfl, h2, r2⟩ := trodAll_cons r1
  obtain ⟨rfl, rfl, rfl⟩ := trodAll_nil r2
  obtain rfl : args = #[v0, v1, v2] := by cases args; simp_all
  obtain ⟨rfl, rfl⟩ := trodVars_none hV
  obtain ⟨A0, n0, c0, L0, rfl, S0⟩ := open_stops (hval 0 25 v0 rfl rfl) h0
  obtain ⟨a1, rfl, _, _, w1⟩ := open_int Try.underlying5 (hval 1 5 v1 rfl rfl) h1
  obtain ⟨l1, u1⟩ := bounds_u8 w1
  obtain ⟨a2, rfl, _, _, w2⟩ := open_int Try.underlying3 (hval 2 3 v2 rfl rfl) h2
  obtain ⟨l2, u2⟩ := bounds_i64 w2
  clear hA0 hval0
  refine (walk A0 n0 c0 L0 a1 a2 W S0 l1 u1 l2 u2).mono fun e W' ⟨he, bel⟩ => ?_
  subst he
  exact ⟨_, rfl, _, _, _, [], _, [], hW', trodAll_mk1 (shut_bool Try.underlying4 _), below_trodAll Try.laidOut bel (reads_of (by kernel_rfl)) hAll, rfl, bel.frame _, fun h => by cases h⟩

theorem over : Rows.gradientStopsRow.holds Try.pinned (OpenSpec.ofChange Rows.gradientStopsSpec) :=
  OpenClaim.holds_of_wide 4 Try.f4 rfl rfl rfl rfl rfl rfl rfl ⟨rfl, rfl, rfl, rfl, rfl⟩ rfl rfl rfl rfl rfl (by kernel_rfl) Try.func4 (by kernel_rfl)
    (of_decide_eq_true (by kernel_rfl)) (by unfold Func.isWrapper; first | (rw [if_pos (by decide +kernel)]; kernel_rfl) | (rw [if_neg (by decide +kernel)]; exact ⟨rfl, rfl⟩))
    (fun os started H enc _ => lifted os started H enc)

/-- The statement. -/
theorem proved : Rows.GradientStopsSaid := over
#print axioms proved
end Go.Proofs.Ytboomdbmeallfaa.gradientStops
