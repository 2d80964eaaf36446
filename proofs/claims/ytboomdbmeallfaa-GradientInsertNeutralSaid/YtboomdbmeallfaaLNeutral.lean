/- GradientInsertNeutral of grisaillelaw31 returns true for all its arguments: every slice of stops, every uint32 and every int; no condition. -/
import Derived.Test.YtboomdbmeallfaaGz
import Derived.Test.YtboomdbmeallfaaGd
import Derived.Test.YtboomdbmeallfaaGf
import Derived.Test.YtboomdbmeallfaaOs
import Derived.Test.YtboomdbmeallfaaOp
import Derived.Test.YtboomdbmeallfaaKk
namespace Go.Proofs.Ytboomdbmeallfaa.gradientInsertNeutral
open Go.RowKit Go.ChangeShapes Go.WideShapes Go.ChangeAt
set_option linter.unusedVariables false
open Go.Proofs.Ytboomdbmeallfaa
set_option linter.unusedSimpArgs false
theorem cAt_ok {L : List St} (hv : vB L = true) (hok : ∀ s ∈ L, okSt s) (t x : Int) : okSt (x, cAt L t) := by
  obtain ⟨n1, n2, hF, hR⟩ := vB_range hv
  have hok' : ∀ k, k < L.length → okSt (L.getD k st0) := fun k hk => by
    rw [List.getD_eq_getElem?_getD, List.getElem?_eq_getElem hk]; exact hok _ (List.getElem_mem hk)
  have h1 := lead_le L t
  have h2 := lead_stop L t
  have h3 := lead_len L t
  rw [cAt_of hv t _ rfl]
  by_cases z : lead t L = 0
  · rw [if_pos z]; exact hok' 0 (by omega)
  · rw [if_neg z]
    by_cases zn : lead t L = L.length
    · rw [if_pos zn]; exact hok' _ (by omega)
    · rw [if_neg zn]
      obtain ⟨a1, a2, a3, a4⟩ := hok' (lead t L - 1) (by omega)
      obtain ⟨b1, b2, b3, b4⟩ := hok' (lead t L) (by omega)
      have ha := h1 (lead t L - 1) (by omega)
      have hb := h2 (by omega)
      have ra := hR (lead t L - 1) (by omega)
      have rb := hR (lead t L) (by omega)
      exact ⟨lc8_bd _ _ _ _ a1 b1 (by omega) (by omega) (by omega) (by omega), lc8_bd _ _ _ _ a2 b2 (by omega) (by omega) (by omega) (by omega), lc8_bd _ _ _ _ a3 b3 (by omega) (by omega) (by omega) (by omega), lc8_bd _ _ _ _ a4 b4 (by omega) (by omega) (by omega) (by omega)⟩
theorem close_any (a b : Int) (w : World) (h : near a b) :
    Calls Try.prog 32 #[.int .u8 a, .int .u8 b] w fun e w' => e = .returned (.bool true) ∧ w = w' := by
  have h1 : 0 ≤ max a b - min a b ∧ max a b - min a b ≤ 1 := by unfold near at h; omega
  generalize hx : min a b = x at *
  generalize hy : max a b = y at *
  have hx := Lib.hid hx
  have hy := Lib.hid hy
  have m1 := fun (w : World) (ts : Array TypeId) (t : TypeId) => Lib.run_min_ints (P := Try.prog) w ts t .u8 .u8 a b
  have m2 := fun (w : World) (ts : Array TypeId) (t : TypeId) => Lib.run_max_ints (P := Try.prog) w ts t .u8 .u8 a b
  rw [hx.out] at m1
  rw [hy.out] at m2
  have t1 : decide (y - x ≤ 1) = true := decide_eq_true h1.2
  have t2 : IntKind.u8.wrap (y - x) = y - x := by rw [IntKind.wrap_u8]; omega
  have t3 : y - x ≤ 1 := h1.2
  go_enter Try.func32, Try.ntmps32
  go_wp2
  go_ret
  exact ⟨by simp [t1, t3], rfl⟩
set_option maxRecDepth 100000 in
set_option maxHeartbeats 4000000 in
theorem walk (A : Option Addr) (n c : Nat) (L : List St) (a : Nat) (t : Int) (w : World) (h : Sts w A n c L) (ha : (a : Int) ≤ 4294967295) (l : -9223372036854775808 ≤ t) (u : t ≤ 9223372036854775807) :
    Calls Try.prog 11 #[.slice A n c, .int .u32 a, .int .i64 t] w fun e w' => e = .returned (.bool true) ∧ Below w.heap.size w w' := by
  have K9 := Lib.hid (fun w => example31_any w)
  have hmx := h.max
  have hk0 := Keeps.refl w
  have hl := h.1
  by_cases h40 : n ≤ 40
  · have K1 := Lib.hid (fun w => few_yes A n c w h40 hmx)
    have K2 := Lib.hid (fun w' (hk : Keeps w w') => valid31_any A n c L w' (h.keep hk))
    cases hv : vB L with
    | false =>
      rw [hv] at K2
      clear h hv h40
      go_enter Try.func11, Try.ntmps11
      go_wp2_with (first | (go_at_call 15; (with_reducible refine (K1.out _).mono ?_); rintro e wf ⟨rfl, rfl⟩) | (go_at_call 16; (with_reducible refine (K2.out _ hk0).mono ?_); rintro e w2 ⟨rfl, hk⟩; replace hk0 := hk0.trans hk; clear hk) | (go_at_call 14; (with_reducible refine (K9.out _).mono ?_); rintro e w9 ⟨rfl, hk⟩; replace hk0 := hk0.trans hk; clear hk) | fail "ARM")
      go_ret
      exact ⟨rfl, hk0⟩
    | true =>
      rw [hv] at K2
      by_cases h16 : n = 16
      · subst h16
        clear h hv h40
        go_enter Try.func11, Try.ntmps11
        go_wp2_with (first | (go_at_call 15; (with_reducible refine (K1.out _).mono ?_); rintro e wf ⟨rfl, rfl⟩) | (go_at_call 16; (with_reducible refine (K2.out _ hk0).mono ?_); rintro e w2 ⟨rfl, hk⟩; replace hk0 := hk0.trans hk; clear hk) | (go_at_call 14; (with_reducible refine (K9.out _).mono ?_); rintro e w9 ⟨rfl, hk⟩; replace hk0 := hk0.trans hk; clear hk) | fail "ARM")
        go_ret
        exact ⟨rfl, hk0⟩
      · obtain ⟨n1, n2, -, -⟩ := vB_range hv
        have q16 : ((n : Int) == 16) = false := by rw [beq_eq_false_iff_ne]; omega
        obtain ⟨O, hO⟩ : ∃ O : Int, ((a : Int)).tmod 65537 = O := ⟨_, rfl⟩
        have hO0 : 0 ≤ O := by rw [← hO]; exact Int.tmod_nonneg _ (by omega)
        have hO1 : O ≤ 65536 := by have := Int.tmod_lt_of_pos ((a : Int)) (show (0 : Int) < 65537 by omega); omega
        have hw1 : IntKind.u32.wrap O = O := by rw [IntKind.wrap_u32]; omega
        have hw2 : IntKind.i64.wrap O = O := i64_in _ (by omega)
        obtain ⟨p1, p2, p3⟩ := neutral hv (by omega) h.2.2.2.1 O t hO0 hO1
        have hok := cAt_ok hv h.2.2.2.1 O O
        have hgi := insE_good (L := L) (s := (O, cAt L O)) (fun hb => by rcases hb with hb | hb | hb; exact absurd hb.2 (by rw [hv]; decide); dsimp only at hb; omega; dsimp only at hb; omega) (by omega)
        have KI := fun w' (hk : Keeps w w') => gins_any A n c L (O, cAt L O) w' (h.keep hk) hok
        unfold RetI at KI
        rw [hgi.1, hgi.2, ins_length, hl] at KI
        have KO := fun w' (hk : Keeps w w') => colorAt_any A n c L O w' (h.keep hk) (by omega) (by omega)
        have KA := fun w' (hk : Keeps w w') => colorAt_any A n c L t w' (h.keep hk) l u
        have KB := fun A1 c1 w' (hS : Sts w' A1 (n + 1) c1 (ins (O, cAt L O) L)) => colorAt_any A1 (n + 1) c1 (ins (O, cAt L O) L) t w' hS l u
        have KP := fun A1 c1 w' (hS : Sts w' A1 (n + 1) c1 (ins (O, cAt L O) L)) => colorAt_any A1 (n + 1) c1 (ins (O, cAt L O) L) O w' hS (by omega) (by omega)
        have KW2 := fun A1 c1 w' (hS : Sts w' A1 (n + 1) c1 (ins (O, cAt L O) L)) => valid31_any A1 (n + 1) c1 (ins (O, cAt L O) L) w' hS
        rw [p1] at KW2
        rw [p3] at KP
        generalize ins (O, cAt L O) L = IL at *
        generalize cAt L O = C at *
        generalize cAt L t = D at *
        generalize cAt IL t = E at *
        obtain ⟨C0, C1, C2, C3⟩ := C
        obtain ⟨D0, D1, D2, D3⟩ := D
        obtain ⟨E0, E1, E2, E3⟩ := E
        obtain ⟨g0, g1, g2, g3⟩ := p2
        dsimp only at g0 g1 g2 g3
        unfold colV at KO KA KB KP
        dsimp only at KO KA KB KP KI
        have J0 := Lib.hid (fun w => close_any D0 E0 w g0)
        have J1 := Lib.hid (fun w => close_any D1 E1 w g1)
        have J2 := Lib.hid (fun w => close_any D2 E2 w g2)
        have J3 := Lib.hid (fun w => close_any D3 E3 w g3)
        have KI := Lib.hid KI
        have KO := Lib.hid KO
        have KA := Lib.hid KA
        have KB := Lib.hid KB
        have KP := Lib.hid KP
        have KW2 := Lib.hid KW2
        have ge := coGuard
        have gq := coEql
        have hre := eq4_refl C0 C1 C2 C3
        have hn1 : (n : Int) ≤ 40 := by omega
        clear hgi hok p1 p3 g0 g1 g2 g3 hv h hl h40 h16
        go_enter Try.func11, Try.ntmps11
        go_wp2_with (first | (go_at_call 15; (with_reducible refine (K1.out _).mono ?_); rintro e wf ⟨rfl, rfl⟩) | (go_at_call 16; (with_reducible refine (KV2.out).mono ?_); rintro e w5 ⟨rfl, hk⟩; replace hk0 := hkA.out.trans hk; obtain ⟨y0, y1, y2, y3, y4, y5, y6, y7⟩ := HC.out _ hk; have KP2 := Lib.hid (KP.out A1 c1 _ (hSA.out.keep hk)); clear hk) | (go_at_call 16; (with_reducible refine (K2.out _ hk0).mono ?_); rintro e w2 ⟨rfl, hk⟩; replace hk0 := hk0.trans hk; clear hk) | (go_at_call 31; (with_reducible refine (KI.out _ hk0).mono ?_); rintro e w3 ⟨A1, c1, rfl, hS1, hk⟩; have hS1 := Lib.hid hS1; replace hk0 := hk0.trans hk; clear hk) | (go_at_call 17; (with_reducible refine (KO.out _ hk0).mono ?_); rintro e w4 ⟨rfl, hk⟩; replace hk0 := hk0.trans hk; clear hk) | (go_at_call 17; (with_reducible refine (KA.out _ hk0).mono ?_); rintro e w6 ⟨rfl, hk⟩; have hS1 := Lib.hid (hS1.out.keep hk); have KB2 := Lib.hid (KB.out A1 c1 _ hS1.out); replace hk0 := hk0.trans hk; clear hk) | (go_at_call 17; (with_reducible refine (KB2.out).mono ?_); rintro e w7 ⟨rfl, hk⟩; have hkc := hk0.trans hk; have HC := Lib.hid (show ∀ w', Keeps ((w7.alloc (.cells #[.int .u8 D0, .int .u8 D1, .int .u8 D2, .int .u8 D3] 28)).alloc (.cells #[.int .u8 E0, .int .u8 E1, .int .u8 E2, .int .u8 E3] 28)) w' → w'.cell? ⟨w7.heap.size, 0, none⟩ = some (.int .u8 D0) ∧ w'.cell? ⟨w7.heap.size, 1, none⟩ = some (.int .u8 D1) ∧ w'.cell? ⟨w7.heap.size, 2, none⟩ = some (.int .u8 D2) ∧ w'.cell? ⟨w7.heap.size, 3, none⟩ = some (.int .u8 D3) ∧ w'.cell? ⟨w7.heap.size + 1, 0, none⟩ = some (.int .u8 E0) ∧ w'.cell? ⟨w7.heap.size + 1, 1, none⟩ = some (.int .u8 E1) ∧ w'.cell? ⟨w7.heap.size + 1, 2, none⟩ = some (.int .u8 E2) ∧ w'.cell? ⟨w7.heap.size + 1, 3, none⟩ = some (.int .u8 E3) from fun w' hq => ⟨(hq.cell (p := ⟨w7.heap.size, 0, none⟩) (by simp; omega)).trans (by simp [go_sem]), (hq.cell (p := ⟨w7.heap.size, 1, none⟩) (by simp; omega)).trans (by simp [go_sem]), (hq.cell (p := ⟨w7.heap.size, 2, none⟩) (by simp; omega)).trans (by simp [go_sem]), (hq.cell (p := ⟨w7.heap.size, 3, none⟩) (by simp; omega)).trans (by simp [go_sem]), (hq.cell (p := ⟨w7.heap.size + 1, 0, none⟩) (by simp)).trans (by simp [go_sem]), (hq.cell (p := ⟨w7.heap.size + 1, 1, none⟩) (by simp)).trans (by simp [go_sem]), (hq.cell (p := ⟨w7.heap.size + 1, 2, none⟩) (by simp)).trans (by simp [go_sem]), (hq.cell (p := ⟨w7.heap.size + 1, 3, none⟩) (by simp)).trans (by simp [go_sem])⟩); have hkA := Lib.hid (show Keeps w ((w7.alloc (.cells #[.int .u8 D0, .int .u8 D1, .int .u8 D2, .int .u8 D3] 28)).alloc (.cells #[.int .u8 E0, .int .u8 E1, .int .u8 E2, .int .u8 E3] 28)) from (hkc.alloc _).alloc _); have hSA := Lib.hid (show Sts ((w7.alloc (.cells #[.int .u8 D0, .int .u8 D1, .int .u8 D2, .int .u8 D3] 28)).alloc (.cells #[.int .u8 E0, .int .u8 E1, .int .u8 E2, .int .u8 E3] 28)) A1 (n + 1) c1 IL from (hS1.out.keep hk).keep (((Keeps.refl _).alloc _).alloc _)); have KV2 := Lib.hid (KW2.out A1 c1 _ hSA.out); clear hk hkc KB2) | (go_at_call 32; (first | (with_reducible refine (J0.out _).mono ?_) | (with_reducible refine (J1.out _).mono ?_) | (with_reducible refine (J2.out _).mono ?_) | (with_reducible refine (J3.out _).mono ?_) | fail "J"); rintro e wc ⟨rfl, rfl⟩) | (go_at_call 17; (with_reducible refine (KP2.out).mono ?_); rintro e w11 ⟨rfl, hk⟩; replace hk0 := hk0.trans hk; clear hk) | (go_at_call 14; (with_reducible refine (K9.out _).mono ?_); rintro e w9 ⟨rfl, hk⟩; replace hk0 := hk0.trans hk; clear hk) | fail "ARM")
        go_ret
        exact ⟨rfl, hk0⟩
  · have K1 := Lib.hid (fun w => few_no A n c w h40 hmx)
    clear h
    go_enter Try.func11, Try.ntmps11
    go_wp2_with (first | (go_at_call 15; (with_reducible refine (K1.out _).mono ?_); rintro e wf ⟨rfl, rfl⟩) | (go_at_call 14; (with_reducible refine (K9.out _).mono ?_); rintro e w9 ⟨rfl, hk⟩; replace hk0 := hk0.trans hk; clear hk))
    go_ret
    exact ⟨rfl, hk0⟩

set_option maxRecDepth 100000 in
theorem lifted (os : Os) (started : os.Started) (H : Type) (enc : TypeId × Value → H) :
    ReturnsInHanded {} Try.checked os 11 .any (Rows.gradientInsertNeutralSpec.pre6 enc Try.prog Try.f11 Rows.gradientInsertNeutralRow.domain false) (Rows.gradientInsertNeutralSpec.post enc Try.prog Try.f11 false true false false) := by
  refine returnsInHanded_of_change (C := Try.checked) Try.own started (by kernel_rfl) Try.func11
    (ChangeSpec.witness6 (enc := enc) (C := Try.checked) false ⟨#[], #[.slice none 0 0, .int .u32 0, .int .i64 0], []⟩ 8 (by kernel_rfl) (by kernel_rfl) (by kernel_rfl) (by kernel_rfl)) ?_
  intro W base args ds gs before hval0 hW hcnd _
  have hval : ∀ (j : Nat) t v, Try.f11.params[j]? = some t → args[j]? = some v → Value.okWide Try.prog W .any base t v := hval0
  have hW' := hW
  obtain ⟨p, q, hA0, hV, rfl, hfz, hnd⟩ := hW
  have hA : DataW.TrodAll enc Try.prog W 0 (fun _ => true) true Try.f11.params.toList args.toList ds p := hA0
  have hAll := hA
  rw [Try.params11] at hA hval
  obtain ⟨v0, vs0, d0, ds0, p0, q0, hargs, rfl, rfl, h0, r0⟩ := trodAll_cons hA
  obtain ⟨v1, vs1, d1, ds1, p1, q1, rfl, rfl, rfl, h1, r1⟩ := trodAll_cons r0
  obtain ⟨v2, vs2, d2, ds2, p2, q2, rfl, rfl, rfl, h2, r2⟩ := trodAll_cons r1
  obtain ⟨rfl, rfl, rfl⟩ := trodAll_nil r2
  obtain rfl : args = #[v0, v1, v2] := by cases args; simp_all
  obtain ⟨rfl, rfl⟩ := trodVars_none hV
  obtain ⟨A0, n0, c0, L0, rfl, S0⟩ := open_stops (hval 0 25 v0 rfl rfl) h0
  obtain ⟨a1, rfl, _, _, w1⟩ := open_int Try.underlying47 (hval 1 47 v1 rfl rfl) h1
  obtain ⟨l1, u1⟩ := bounds_u32 w1
  obtain ⟨a1, rfl⟩ := Int.eq_ofNat_of_zero_le l1
  obtain ⟨a2, rfl, _, _, w2⟩ := open_int Try.underlying3 (hval 2 3 v2 rfl rfl) h2
  obtain ⟨l2, u2⟩ := bounds_i64 w2
  clear hA0 hval0
  refine (walk A0 n0 c0 L0 a1 a2 W S0 (by omega) l2 u2).mono fun e W' ⟨he, bel⟩ => ?_
  subst he
  exact ⟨_, rfl, _, _, _, [], _, [], hW', trodAll_mk1 (shut_bool Try.underlying4 _), below_trodAll Try.laidOut bel (reads_of (by kernel_rfl)) hAll, rfl, bel.frame _, fun h => by cases h⟩

theorem over : Rows.gradientInsertNeutralRow.holds Try.pinned (OpenSpec.ofChange Rows.gradientInsertNeutralSpec) :=
  OpenClaim.holds_of_wide 11 Try.f11 rfl rfl rfl rfl rfl rfl rfl ⟨rfl, rfl, rfl, rfl, rfl⟩ rfl rfl rfl rfl rfl (by kernel_rfl) Try.func11 (by kernel_rfl)
    (of_decide_eq_true (by kernel_rfl)) (by unfold Func.isWrapper; first | (rw [if_pos (by decide +kernel)]; kernel_rfl) | (rw [if_neg (by decide +kernel)]; exact ⟨rfl, rfl⟩))
    (fun os started H enc _ => lifted os started H enc)

/-- The statement. -/
theorem proved : Rows.GradientInsertNeutralSaid := over
#print axioms proved
end Go.Proofs.Ytboomdbmeallfaa.gradientInsertNeutral
