/- GradientTableEnds of grisaillelaw31 returns true for all its arguments: every slice of stops, every color, every byte; no condition. -/
import Derived.Test.YtboomdbmeallfaaGj
import Derived.Test.YtboomdbmeallfaaOp
import Derived.Test.YtboomdbmeallfaaKk
namespace Go.Proofs.Ytboomdbmeallfaa.gradientTableEnds
open Go.RowKit Go.ChangeShapes Go.WideShapes Go.ChangeAt
set_option linter.unusedVariables false
open Go.Proofs.Ytboomdbmeallfaa
set_option linter.unusedSimpArgs false
theorem sts1 (w : World) (a : St) (ha : okSt a) (w' : World) (hk : Keeps (w.alloc (.cells #[.int .i64 a.1, .int .u8 a.2.1, .int .u8 a.2.2.1, .int .u8 a.2.2.2.1, .int .u8 a.2.2.2.2] 31)) w') : Sts w' (some ⟨w.heap.size, 0, none⟩) 1 1 [a] := by
  refine Sts.keep ⟨rfl, by omega, by unfold maxLen; omega, ?_, fun _ => ⟨w.heap.size, 0, rfl, by simp, ?_⟩⟩ hk
  · intro s hs
    rcases List.mem_cons.1 hs with rfl | hs
    · exact ha
    · cases hs
  · intro k hk
    obtain rfl : k = 0 := by omega
    exact ⟨by simp [go_sem], by simp [go_sem], by simp [go_sem], by simp [go_sem], by simp [go_sem]⟩
theorem cAt_one (a : St) (t : Int) (hv : vB [a] = true) : cAt [a] t = a.2 := by
  unfold cAt
  rw [if_neg (by rw [hv]; decide)]
  by_cases h : lead t [a] = 0
  · rw [if_pos h]; rfl
  · rw [if_neg h, if_pos (by have := lead_len [a] t; simp at this ⊢; omega)]; rfl
theorem tab_none (A : Option Addr) (m c : Nat) (L : List St) (w : World) (h : Sts w A m c L) (hv : vB L = true) :
    Calls Try.prog 28 #[.slice A m c, .int .i64 0] w fun e w' => e = .returned (.tuple #[.slice none 0 0, .int .i64 2]) ∧ Keeps w w' := by
  have K1 := Lib.hid (fun w' (hk : Keeps w w') => valid31_any A m c L w' (h.keep hk))
  rw [hv] at K1
  have hk0 := Keeps.refl w
  clear h
  go_enter Try.func28, Try.ntmps28
  go_wp2_with (go_at_call 16; (with_reducible refine (K1.out _ hk0).mono ?_); rintro e w1 ⟨rfl, hk1⟩)
  go_ret2
  exact ⟨rfl, hk1⟩
set_option maxRecDepth 100000 in
set_option maxHeartbeats 8000000 in
theorem walkN (A : Option Addr) (m cc : Nat) (L : List St) (p q r s : Int) (n : Nat) (w : World) (h : Sts w A m cc L) (lp : 0 ≤ p) (up : p ≤ 255) (lq : 0 ≤ q) (uq : q ≤ 255) (lr : 0 ≤ r) (ur : r ≤ 255) (ls : 0 ≤ s) (us : s ≤ 255) (un : n ≤ 255) :
    Calls Try.prog 10 #[.slice A m cc, .agg #[.int .u8 p, .int .u8 q, .int .u8 r, .int .u8 s], .int .u8 (n : Int)] w fun e w' => e = .returned (.bool true) ∧ Below w.heap.size w w' := by
  have g3 := coGuard
  have g4 := coEql
  have g5 := coNeq
  have q1 := eq4_refl p q r s
  have K9 := Lib.hid (fun w => example31_any w)
  have hmx := h.max
  have K2 := Lib.hid (fun w' (hk : Keeps w w') => valid31_any A m cc L w' (h.keep hk))
  have hSt : ∀ w' (hk : Keeps w w'), Sts w' A m cc L := fun w' hk => h.keep hk
  have hSt := Lib.hid hSt
  have v1 : vB [((5 : Int), p, q, r, s)] = true := by simp [vB, vFrom]
  have o1 : okSt ((5 : Int), p, q, r, s) := ⟨⟨lp, up⟩, ⟨lq, uq⟩, ⟨lr, ur⟩, ⟨ls, us⟩⟩
  clear h lp up lq uq lr ur ls us
  have HS := Lib.hid (show ∀ w', Keeps (w.alloc (.cells #[.int .u8 p, .int .u8 q, .int .u8 r, .int .u8 s] 28)) w' → w'.cell? ⟨w.heap.size, 0, none⟩ = some (.int .u8 p) ∧ w'.frozen? ⟨w.heap.size, 0, none⟩ = false ∧ w'.cell? ⟨w.heap.size, 1, none⟩ = some (.int .u8 q) ∧ w'.frozen? ⟨w.heap.size, 1, none⟩ = false ∧ w'.cell? ⟨w.heap.size, 2, none⟩ = some (.int .u8 r) ∧ w'.frozen? ⟨w.heap.size, 2, none⟩ = false ∧ w'.cell? ⟨w.heap.size, 3, none⟩ = some (.int .u8 s) ∧ w'.frozen? ⟨w.heap.size, 3, none⟩ = false from fun w' hk => ⟨(hk.cell (p := ⟨w.heap.size, 0, none⟩) (by first | (simp; done) | (simp; omega))).trans (by simp [go_sem]), (hk.frozen (p := ⟨w.heap.size, 0, none⟩) (by first | (simp; done) | (simp; omega))).trans (by simp [go_sem]), (hk.cell (p := ⟨w.heap.size, 1, none⟩) (by first | (simp; done) | (simp; omega))).trans (by simp [go_sem]), (hk.frozen (p := ⟨w.heap.size, 1, none⟩) (by first | (simp; done) | (simp; omega))).trans (by simp [go_sem]), (hk.cell (p := ⟨w.heap.size, 2, none⟩) (by first | (simp; done) | (simp; omega))).trans (by simp [go_sem]), (hk.frozen (p := ⟨w.heap.size, 2, none⟩) (by first | (simp; done) | (simp; omega))).trans (by simp [go_sem]), (hk.cell (p := ⟨w.heap.size, 3, none⟩) (by first | (simp; done) | (simp; omega))).trans (by simp [go_sem]), (hk.frozen (p := ⟨w.heap.size, 3, none⟩) (by first | (simp; done) | (simp; omega))).trans (by simp [go_sem])⟩)
  have HB := Lib.hid (show Keeps w (w.alloc (.cells #[.int .u8 p, .int .u8 q, .int .u8 r, .int .u8 s] 28)) from (by (repeat (first | (with_reducible exact Keeps.refl _) | (with_reducible assumption) | (with_reducible refine Keeps.drewN ?_ _) | (with_reducible refine Keeps.drew ?_) | (with_reducible refine Keeps.alloc ?_ _) | (with_reducible refine Keeps.setNew ?_ ?_ _))) <;> (dsimp only; omega)))
  have hk0 := Keeps.refl (w.alloc (.cells #[.int .u8 p, .int .u8 q, .int .u8 r, .int .u8 s] 28))
  have hz : ((w.alloc (.cells #[.int .u8 p, .int .u8 q, .int .u8 r, .int .u8 s] 28))).heap.size = w.heap.size + 1 := by simp
  have HB1 := Lib.hid (HB.out.alloc (.cells #[.int .i64 5, .int .u8 p, .int .u8 q, .int .u8 r, .int .u8 s] 31))
  have HS1 := Lib.hid (fun w' (hk : Keeps (((w.alloc (.cells #[.int .u8 p, .int .u8 q, .int .u8 r, .int .u8 s] 28))).alloc (.cells #[.int .i64 5, .int .u8 p, .int .u8 q, .int .u8 r, .int .u8 s] 31)) w') => HS.out w' (((Keeps.refl _).alloc _).trans hk))
  by_cases hn : n = 0
  · subst hn
    have K1 := Lib.hid (tab_none (some ⟨((w.alloc (.cells #[.int .u8 p, .int .u8 q, .int .u8 r, .int .u8 s] 28))).heap.size, 0, none⟩) 1 1 [((5 : Int), p, q, r, s)] _ (sts1 ((w.alloc (.cells #[.int .u8 p, .int .u8 q, .int .u8 r, .int .u8 s] 28))) ((5 : Int), p, q, r, s) o1 _ (Keeps.refl _)) v1)
    rw [hz] at K1
    rw [show ((0 : Nat) : Int) = 0 from rfl]
    go_enter Try.func10, Try.ntmps10
    go_wp2_with (first | (go_at_call 28; (with_reducible refine K1.out.mono ?_); rintro e w1 ⟨rfl, hk1⟩; have hkw := HB1.out.trans hk1) | (go_at_call 14; (with_reducible refine (K9.out _).mono ?_); rintro e w9 ⟨rfl, hk9⟩; replace hkw := hkw.trans hk9; clear hk9))
    go_ret
    exact ⟨rfl, hkw⟩
  · have n1 : 1 ≤ n := by omega
    have hn0 : ((n : Int) == 0) = false := beq_eq_false_iff_ne.2 (by omega)
    have hT : ∀ k, tabI [((5 : Int), p, q, r, s)] n k = (p, q, r, s) := fun k => by unfold tabI; rw [cAt_one _ _ v1]
    have K1 := Lib.hid (table_any (some ⟨((w.alloc (.cells #[.int .u8 p, .int .u8 q, .int .u8 r, .int .u8 s] 28))).heap.size, 0, none⟩) 1 1 [((5 : Int), p, q, r, s)] n _ (sts1 ((w.alloc (.cells #[.int .u8 p, .int .u8 q, .int .u8 r, .int .u8 s] 28))) ((5 : Int), p, q, r, s) o1 _ (Keeps.refl _)) v1 n1 (by omega))
    rw [hz] at K1
    have hT := Lib.hid hT
    have hun : (n : Int) ≤ 255 := by omega
    clear v1 o1
    go_enter Try.func10, Try.ntmps10
    go_wp2_with (go_at_call 28; (with_reducible refine K1.out.mono ?_); rintro e w1 ⟨A1, rfl, hC, hk1⟩; obtain ⟨b1, o1, rfl, hb1, hc1⟩ := hC.2 n1; have hc1 := Lib.hid hc1; have hkw := HB1.out.trans hk1; obtain ⟨y0, y1, y2, y3, y4, y5, y6, y7⟩ := HS1.out _ hk1)
    have hkr := Keeps.refl w1
    go_loopw [9] (fun i wr => ∃ j : Nat, j ≤ n ∧ i = .int .i64 j ∧ Keeps w1 wr) (fun i _ => n - (intOf i).toNat)
    case atStart => exact ⟨0, by omega, rfl, hkr⟩
    case round =>
      obtain ⟨j, hj, rfl, hkv⟩ := hrel
      by_cases hlt : j < n
      · have hx := (hc1.out j hlt).keep hb1 hkv
        rw [hT.out j] at hx
        obtain ⟨c0, c1, c2, c3⟩ := hx
        obtain ⟨y0, y1, y2, y3, y4, y5, y6, y7⟩ := HS1.out _ (hk1.trans hkv)
        have hlt2 : (j : Int) < n := by omega
        go_wp2_with fail
        go_quiet (fail)
        go_wp2_with fail
        go_roundw
        case rel => exact ⟨j + 1, by omega, by go_num, hkv.drewN _⟩
        case measure => simp [intOf]; omega
      · obtain rfl : j = n := by omega
        replace hkw := hkw.trans hkv
        by_cases h40 : m ≤ 40
        · have KF := Lib.hid (fun w => few_yes A m cc w h40 hmx)
          cases hv : vB L with
          | false =>
            rw [hv] at K2
            go_wp2_with (first | (go_at_call 15; (with_reducible refine (KF.out _).mono ?_); rintro e wf ⟨rfl, rfl⟩) | (go_at_call 16; (with_reducible refine (K2.out _ hkw).mono ?_); rintro e w2 ⟨rfl, hk2⟩; replace hkw := hkw.trans hk2; clear hk2) | (go_at_call 14; (with_reducible refine (K9.out _).mono ?_); rintro e w9 ⟨rfl, hk9⟩; replace hkw := hkw.trans hk9; clear hk9))
            go_ret
            exact ⟨rfl, hkw⟩
          | true =>
            rw [hv] at K2
            have KT := Lib.hid (fun w' (hk : Keeps w w') => table_any A m cc L j w' (hSt.out w' hk) hv n1 (by omega))
            go_wp2_with (first | (go_at_call 15; (with_reducible refine (KF.out _).mono ?_); rintro e wf ⟨rfl, rfl⟩) | (go_at_call 16; (with_reducible refine (K2.out _ hkw).mono ?_); rintro e w2 ⟨rfl, hk2⟩; replace hkw := hkw.trans hk2; clear hk2) | (go_at_call 28; (with_reducible refine (KT.out _ hkw).mono ?_); rintro e w5 ⟨A2, rfl, hD, hk5⟩; obtain ⟨b2, o2, rfl, hb2, hc2⟩ := hD.2 n1; have hc2 := Lib.hid hc2; replace hkw := hkw.trans hk5))
            obtain ⟨e, he⟩ : ∃ e, j = e + 1 := ⟨j - 1, by omega⟩
            have he2 : (j : Int) - 1 = (e : Int) := by omega
            have hej : (e : Int) < j := by omega
            have h0j : (0 : Int) < j := by omega
            have tab0 : tabI L j 0 = cAt L 0 := by
              unfold tabI
              rw [show ((0 : Nat) : Int) * 65536 = 0 from rfl]
              by_cases hb : (j : Int) - 1 = 0
              · rw [hb, dvr_zero]
              · rw [dvr_none _ (by omega)]
            have K6 := Lib.hid (fun k : KW w5 => keepq (colorAt_any A m cc L 0 k.w (hSt.out _ (hkw.trans k.keeps)) (by omega) (by omega)))
            have K7 := Lib.hid (fun k : KW w5 => keepq (colorAt_any A m cc L 65536 k.w (hSt.out _ (hkw.trans k.keeps)) (by omega) (by omega)))
            have M9 := Lib.hid (fun k : KW w5 => keepq (example31_any k.w))
            have hx0 := Lib.hid (fun (k : KW w5) => (by have h := (hc2.out 0 (by omega)).keep hb2 k.keeps; rw [Nat.zero_mul, Nat.add_zero, tab0] at h; exact h : ColAt k.w b2 o2 (cAt L 0)))
            have zaA := Lib.hid (fun (k : KW w5) => (hx0.out k : ColAt k.w b2 (o2) (cAt L 0)))
            have za0 : ∀ k : KW w5, k.w.cell? ⟨b2, o2, none⟩ = some (.int .u8 (cAt L 0).1) := fun k => (zaA.out k).1
            have za1 : ∀ k : KW w5, k.w.cell? ⟨b2, o2 + 1, none⟩ = some (.int .u8 (cAt L 0).2.1) := fun k => (zaA.out k).2.1
            have za2 : ∀ k : KW w5, k.w.cell? ⟨b2, o2 + 2, none⟩ = some (.int .u8 (cAt L 0).2.2.1) := fun k => (zaA.out k).2.2.1
            have za3 : ∀ k : KW w5, k.w.cell? ⟨b2, o2 + 3, none⟩ = some (.int .u8 (cAt L 0).2.2.2) := fun k => (zaA.out k).2.2.2
            have hxe := Lib.hid (fun (k : KW w5) => (hc2.out e (by omega)).keep hb2 k.keeps)
            have hk5 := Keeps.refl w5
            have qa := eq4_refl (cAt L 0).1 (cAt L 0).2.1 (cAt L 0).2.2.1 (cAt L 0).2.2.2
            have qb := eq4_refl (cAt L 65536).1 (cAt L 65536).2.1 (cAt L 65536).2.2.1 (cAt L 65536).2.2.2
            unfold colV at K6 K7
            by_cases hone : j = 1
            · have t1 : ((j : Int) == 1) = true := beq_iff_eq.2 (by omega)
              generalize cAt L 0 = x0 at *
              clear K7 qb hxe hone he tab0
              go_wp2_with fail
              refine wp_region_kept (w5) (by kernel_rfl) (by kernel_rfl) (hk5) ?_
              repeat (first | go_big_quiet_skip | (go_big_quiet_want; go_big_quiet_op; first | go_big_quiet_on | go_big_quiet_call ((go_at_call 17; first | (with_reducible exact K6.out _)))))
              refine wpQuiet_nil ?_
              rintro w' ⟨k9, rfl⟩
              have hk := k9.keeps
              generalize k9.w = w9 at hk ⊢
              clear k9
              go_wp2_with fail
              refine wp_region_kept (w5) (by kernel_rfl) (by kernel_rfl) (hk) ?_
              repeat (first | go_big_quiet_skip | (go_big_quiet_want; go_big_quiet_op; first | go_big_quiet_on | go_big_quiet_call ((go_at_call 14; first | (with_reducible exact M9.out _)))))
              refine wpQuiet_nil ?_
              rintro w' ⟨k9, rfl⟩
              have hk := k9.keeps
              generalize k9.w = w9 at hk ⊢
              clear k9
              go_wp2_with fail
              go_ret
              exact ⟨rfl, hkw.trans hk⟩
            · have t1 : ((j : Int) == 1) = false := beq_eq_false_iff_ne.2 (by omega)
              have tabe : tabI L j e = cAt L 65536 := by
                unfold tabI
                rw [he2, dvr_full (e : Int) 65536 (by omega) (by omega) (by omega) (by omega)]
              have hxe2 := Lib.hid (fun (k : KW w5) => (by have h := hxe.out k; rw [tabe] at h; exact h : ColAt k.w b2 (o2 + e * 4) (cAt L 65536)))
              have zeA := Lib.hid (fun (k : KW w5) => (hxe2.out k : ColAt k.w b2 (o2 + e * 4) (cAt L 65536)))
              have ze0 : ∀ k : KW w5, k.w.cell? ⟨b2, o2 + e * 4, none⟩ = some (.int .u8 (cAt L 65536).1) := fun k => (zeA.out k).1
              have ze1 : ∀ k : KW w5, k.w.cell? ⟨b2, o2 + e * 4 + 1, none⟩ = some (.int .u8 (cAt L 65536).2.1) := fun k => (zeA.out k).2.1
              have ze2 : ∀ k : KW w5, k.w.cell? ⟨b2, o2 + e * 4 + 2, none⟩ = some (.int .u8 (cAt L 65536).2.2.1) := fun k => (zeA.out k).2.2.1
              have ze3 : ∀ k : KW w5, k.w.cell? ⟨b2, o2 + e * 4 + 3, none⟩ = some (.int .u8 (cAt L 65536).2.2.2) := fun k => (zeA.out k).2.2.2
              generalize cAt L 0 = x0 at *
              generalize cAt L 65536 = xe at *
              clear hxe hone he tab0 tabe
              go_wp2_with fail
              refine wp_region_kept (w5) (by kernel_rfl) (by kernel_rfl) (hk5) ?_
              repeat (first | go_big_quiet_skip | (go_big_quiet_want; go_big_quiet_op; first | go_big_quiet_on | go_big_quiet_call ((go_at_call 17; first | (with_reducible exact K6.out _)))))
              refine wpQuiet_nil ?_
              rintro w' ⟨k9, rfl⟩
              have hk := k9.keeps
              generalize k9.w = w9 at hk ⊢
              clear k9
              go_wp2_with fail
              refine wp_region_kept (w5) (by kernel_rfl) (by kernel_rfl) (hk) ?_
              repeat (first | go_big_quiet_skip | (go_big_quiet_want; go_big_quiet_op; first | go_big_quiet_on | go_big_quiet_call ((first | (go_at_call 17; first | (with_reducible exact K7.out _)) | (go_at_call 14; first | (with_reducible exact M9.out _))))))
              refine wpQuiet_nil ?_
              rintro w' ⟨k9, rfl⟩
              have hk := k9.keeps
              generalize k9.w = w9 at hk ⊢
              clear k9
              go_wp2_with fail
              go_ret
              exact ⟨rfl, hkw.trans hk⟩
        · have KF := Lib.hid (fun w => few_no A m cc w h40 hmx)
          go_wp2_with (first | (go_at_call 15; (with_reducible refine (KF.out _).mono ?_); rintro e wf ⟨rfl, rfl⟩) | (go_at_call 14; (with_reducible refine (K9.out _).mono ?_); rintro e w9 ⟨rfl, hk9⟩; replace hkw := hkw.trans hk9; clear hk9))
          go_ret
          exact ⟨rfl, hkw⟩
theorem walk (A : Option Addr) (m cc : Nat) (L : List St) (p q r s n : Int) (w : World) (h : Sts w A m cc L) (lp : 0 ≤ p) (up : p ≤ 255) (lq : 0 ≤ q) (uq : q ≤ 255) (lr : 0 ≤ r) (ur : r ≤ 255) (ls : 0 ≤ s) (us : s ≤ 255) (ln : 0 ≤ n) (un : n ≤ 255) :
    Calls Try.prog 10 #[.slice A m cc, .agg #[.int .u8 p, .int .u8 q, .int .u8 r, .int .u8 s], .int .u8 n] w fun e w' => e = .returned (.bool true) ∧ Below w.heap.size w w' := by
  obtain ⟨n, rfl⟩ := Int.eq_ofNat_of_zero_le ln
  exact walkN A m cc L p q r s n w h lp up lq uq lr ur ls us (by omega)

set_option maxRecDepth 100000 in
theorem lifted (os : Os) (started : os.Started) (H : Type) (enc : TypeId × Value → H) :
    ReturnsInHanded {} Try.checked os 10 .any (Rows.gradientTableEndsSpec.pre6 enc Try.prog Try.f10 Rows.gradientTableEndsRow.domain false) (Rows.gradientTableEndsSpec.post enc Try.prog Try.f10 false true false false) := by
  refine returnsInHanded_of_change (C := Try.checked) Try.own started (by kernel_rfl) Try.func10
    (ChangeSpec.witness6 (enc := enc) (C := Try.checked) false ⟨#[], #[.slice none 0 0, .agg #[.int .u8 0, .int .u8 0, .int .u8 0, .int .u8 0], .int .u8 0], []⟩ 8 (by kernel_rfl) (by kernel_rfl) (by kernel_rfl) (by kernel_rfl)) ?_
  intro W base args ds gs before hval0 hW hcnd _
  have hval : ∀ (j : Nat) t v, Try.f10.params[j]? = some t → args[j]? = some v → Value.okWide Try.prog W .any base t v := hval0
  have hW' := hW
  obtain ⟨p, q, hA0, hV, rfl, hfz, hnd⟩ := hW
  have hA : DataW.TrodAll enc Try.prog W 0 (fun _ => true) true Try.f10.params.toList args.toList ds p := hA0
  have hAll := hA
  rw [Try.params10] at hA hval
  obtain ⟨v0, vs0, d0, ds0, p0, q0, hargs, rfl, rfl, h0, r0⟩ := trodAll_cons hA
  obtain ⟨v1, vs1, d1, ds1, p1, q1, rfl, rfl, rfl, h1, r1⟩ := trodAll_cons r0
  obtain ⟨v2, vs2, d2, ds2, p2, q2, rfl, rfl, rfl, h2, r2⟩ := trodAll_cons r1
  obtain ⟨rfl, rfl, rfl⟩ := trodAll_nil r2
  obtain rfl : args = #[v0, v1, v2] := by cases args; simp_all
  obtain ⟨rfl, rfl⟩ := trodVars_none hV
  obtain ⟨A0, n0, c0, L0, rfl, S0⟩ := open_stops (hval 0 25 v0 rfl rfl) h0
  obtain ⟨c1, rfl, L1_0⟩ := open_flat (ks := [some .u8, some .u8, some .u8, some .u8]) (by kernel_rfl) (by kernel_rfl) (hval 1 28 v1 rfl rfl) h1
  obtain ⟨_, c1_0, rfl, ⟨a1_0, rfl, w1_0⟩, L1_1⟩ := leafs_cons L1_0
  obtain ⟨l1_0, u1_0⟩ := bounds_u8 w1_0
  obtain ⟨_, c1_1, rfl, ⟨a1_1, rfl, w1_1⟩, L1_2⟩ := leafs_cons L1_1
  obtain ⟨l1_1, u1_1⟩ := bounds_u8 w1_1
  obtain ⟨_, c1_2, rfl, ⟨a1_2, rfl, w1_2⟩, L1_3⟩ := leafs_cons L1_2
  obtain ⟨l1_2, u1_2⟩ := bounds_u8 w1_2
  obtain ⟨_, c1_3, rfl, ⟨a1_3, rfl, w1_3⟩, L1_4⟩ := leafs_cons L1_3
  obtain ⟨l1_3, u1_3⟩ := bounds_u8 w1_3
  obtain rfl := leafs_nil L1_4
  obtain ⟨a2, rfl, _, _, w2⟩ := open_int Try.underlying5 (hval 2 5 v2 rfl rfl) h2
  obtain ⟨l2, u2⟩ := bounds_u8 w2
  clear hA0 hval0
  refine (walk A0 n0 c0 L0 a1_0 a1_1 a1_2 a1_3 a2 W S0 l1_0 u1_0 l1_1 u1_1 l1_2 u1_2 l1_3 u1_3 l2 u2).mono fun e W' ⟨he, bel⟩ => ?_
  subst he
  exact ⟨_, rfl, _, _, _, [], _, [], hW', trodAll_mk1 (shut_bool Try.underlying4 _), below_trodAll Try.laidOut bel (reads_of (by kernel_rfl)) hAll, rfl, bel.frame _, fun h => by cases h⟩

theorem over : Rows.gradientTableEndsRow.holds Try.pinned (OpenSpec.ofChange Rows.gradientTableEndsSpec) :=
  OpenClaim.holds_of_wide 10 Try.f10 rfl rfl rfl rfl rfl rfl rfl ⟨rfl, rfl, rfl, rfl, rfl⟩ rfl rfl rfl rfl rfl (by kernel_rfl) Try.func10 (by kernel_rfl)
    (of_decide_eq_true (by kernel_rfl)) (by unfold Func.isWrapper; first | (rw [if_pos (by decide +kernel)]; kernel_rfl) | (rw [if_neg (by decide +kernel)]; exact ⟨rfl, rfl⟩))
    (fun os started H enc _ => lifted os started H enc)

/-- The statement. -/
theorem proved : Rows.GradientTableEndsSaid := over
#print axioms proved
end Go.Proofs.Ytboomdbmeallfaa.gradientTableEnds
