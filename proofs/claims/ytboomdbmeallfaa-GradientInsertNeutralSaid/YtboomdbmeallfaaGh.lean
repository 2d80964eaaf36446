/- Contract of reference 31's ColorAt. -/
import Derived.Test.YtboomdbmeallfaaGg
namespace Go.Proofs.Ytboomdbmeallfaa
open Go.RowKit
set_option linter.unusedVariables false
set_option linter.unusedSimpArgs false
theorem lead_len : ∀ (L : List St) (t : Int), lead t L ≤ L.length
  | [], _ => by unfold lead; simp
  | s :: r, t => by unfold lead; split <;> simp; exact lead_len r t
theorem lead_stop : ∀ (L : List St) (t : Int), lead t L < L.length → t < (L.getD (lead t L) st0).1
  | [], t, h => by simp at h
  | s :: r, t, h => by
    by_cases hb : t < s.1
    · have e : lead t (s :: r) = 0 := by unfold lead; rw [if_pos hb]
      rw [e]; simpa using hb
    · have e : lead t (s :: r) = lead t r + 1 := by show (if _ then _ else _) = _; rw [if_neg hb]
      rw [e] at h ⊢
      simpa using lead_stop r t (by simpa using h)
set_option maxRecDepth 100000 in
set_option maxHeartbeats 4000000 in
theorem rcolorAt_any (A : Option Addr) (n c : Nat) (L : List St) (t : Int) (w : World) (h : Sts w A n c L) (l : -9223372036854775808 ≤ t) (u : t ≤ 9223372036854775807) :
    Calls Try.prog 19 #[.slice A n c, .int .i64 t] w fun e w' => e = .returned (colV (cAt L t)) ∧ Keeps w w' := by
  have hl := h.1
  have hmx := h.max
  have HS := Lib.hid (show ∀ w', Keeps (w.alloc (.cells #[.int .u8 0, .int .u8 0, .int .u8 0, .int .u8 0] 28)) w' → w'.cell? ⟨w.heap.size, 0, none⟩ = some (.int .u8 0) ∧ w'.frozen? ⟨w.heap.size, 0, none⟩ = false ∧ w'.cell? ⟨w.heap.size, 1, none⟩ = some (.int .u8 0) ∧ w'.frozen? ⟨w.heap.size, 1, none⟩ = false ∧ w'.cell? ⟨w.heap.size, 2, none⟩ = some (.int .u8 0) ∧ w'.frozen? ⟨w.heap.size, 2, none⟩ = false ∧ w'.cell? ⟨w.heap.size, 3, none⟩ = some (.int .u8 0) ∧ w'.frozen? ⟨w.heap.size, 3, none⟩ = false from fun w' hk => ⟨(hk.cell (p := ⟨w.heap.size, 0, none⟩) (by first | (simp; done) | (simp; omega))).trans (by simp [go_sem]), (hk.frozen (p := ⟨w.heap.size, 0, none⟩) (by first | (simp; done) | (simp; omega))).trans (by simp [go_sem]), (hk.cell (p := ⟨w.heap.size, 1, none⟩) (by first | (simp; done) | (simp; omega))).trans (by simp [go_sem]), (hk.frozen (p := ⟨w.heap.size, 1, none⟩) (by first | (simp; done) | (simp; omega))).trans (by simp [go_sem]), (hk.cell (p := ⟨w.heap.size, 2, none⟩) (by first | (simp; done) | (simp; omega))).trans (by simp [go_sem]), (hk.frozen (p := ⟨w.heap.size, 2, none⟩) (by first | (simp; done) | (simp; omega))).trans (by simp [go_sem]), (hk.cell (p := ⟨w.heap.size, 3, none⟩) (by first | (simp; done) | (simp; omega))).trans (by simp [go_sem]), (hk.frozen (p := ⟨w.heap.size, 3, none⟩) (by first | (simp; done) | (simp; omega))).trans (by simp [go_sem])⟩)
  have HB := Lib.hid (show Keeps w (w.alloc (.cells #[.int .u8 0, .int .u8 0, .int .u8 0, .int .u8 0] 28)) from (by (repeat (first | (with_reducible exact Keeps.refl _) | (with_reducible assumption) | (with_reducible refine Keeps.drewN ?_ _) | (with_reducible refine Keeps.drew ?_) | (with_reducible refine Keeps.alloc ?_ _) | (with_reducible refine Keeps.setNew ?_ ?_ _))) <;> (dsimp only; omega)))
  have hk0 := Keeps.refl (w.alloc (.cells #[.int .u8 0, .int .u8 0, .int .u8 0, .int .u8 0] 28))
  have GV := Lib.hid (fun w' hk => keepk (w0 := (w.alloc (.cells #[.int .u8 0, .int .u8 0, .int .u8 0, .int .u8 0] 28))) (rvalid31_any A n c L w' (h.keep (HB.out.trans hk))) hk)
  have HT := Lib.hid h
  have hW0 : ((w.alloc (.cells #[.int .u8 0, .int .u8 0, .int .u8 0, .int .u8 0] 28))).heap.size = w.heap.size + 1 := by simp
  clear h
  cases hv : vB L with
  | false =>
    rw [hv] at GV
    have e : cAt L t = (0, 0, 0, 0) := by unfold cAt; rw [if_pos hv]
    rw [e]
    clear hv e
    go_enter Try.func19, Try.ntmps19
    go_wp2_with (go_at_call 22; (with_reducible refine (GV.out _ (by assumption)).mono ?_); rintro e w1 ⟨rfl, hk⟩; obtain ⟨y0, y1, y2, y3, y4, y5, y6, y7⟩ := HS.out _ hk)
    exact bodyPost_ret (v := .agg #[.int .u8 0, .int .u8 0, .int .u8 0, .int .u8 0]) (by simp [results, Try.results19, go_sem, *]) rfl ⟨rfl, (HB.out.trans hk).far4 (by omega) _ _ _ _⟩
  | true =>
    rw [hv] at GV
    obtain ⟨n1, n2, hF, hR⟩ := vB_range hv
    rw [hl] at n1 n2 hR
    have hMo := Lib.hid (vFrom_mono L 0 hF)
    have hE := Lib.hid (show cAt L t = if lead t L = 0 then (L.getD 0 st0).2 else if lead t L = n then (L.getD (n - 1) st0).2 else lerpS (L.getD (lead t L - 1) st0) (L.getD (lead t L) st0) t by unfold cAt; rw [if_neg (by rw [hv]; decide), hl])
    have hR := Lib.hid hR
    have hLe := Lib.hid (lead_le L t)
    have hLn := lead_len L t
    have hSt := Lib.hid (lead_stop L t)
    rw [hl] at hLn hSt
    generalize lead t L = m at *
    clear hv hF
    obtain ⟨b, o, rfl, hb, hc⟩ := HT.out.2.2.2.2 (by omega)
    have hc := Lib.hid hc
    go_enter Try.func19, Try.ntmps19
    go_wp2_with (go_at_call 22; (with_reducible refine (GV.out _ (by assumption)).mono ?_); rintro e w1 ⟨rfl, hk1⟩)
    generalize (w.alloc (.cells #[.int .u8 0, .int .u8 0, .int .u8 0, .int .u8 0] 28)) = W0 at *
    clear GV
    go_loopw [5, 6] (fun a i wr => ∃ (j : Nat), j ≤ n ∧ i = .int .i64 j ∧ a = .int .i64 (((min m j : Nat) : Int) - 1) ∧ Keeps W0 wr) (fun _ i _ => n - (intOf i).toNat)
    case atStart => exact ⟨0, by omega, rfl, by rw [Nat.min_zero]; rfl, hk1⟩
    case round =>
      obtain ⟨j, hj, rfl, rfl, hkw⟩ := hrel
      by_cases hlt : j < n
      · obtain ⟨c0, c1, c2, c3, c4⟩ := (hc.out j hlt).keep hb (HB.out.trans hkw)
        clear c1 c2 c3 c4
        by_cases hjm : j < m
        · have hle := hLe.out j hjm
          rw [show min m j = j by omega]
          generalize L.getD j st0 = s at *
          go_wp2_with fail
          go_roundw
          case rel => exact ⟨j + 1, by omega, by go_num, by rw [show min m (j + 1) = j + 1 by omega]; go_num, hkw⟩
          case measure => simp [intOf]; omega
        · have hgt : t < (L.getD j st0).1 := by
            have h1 := hSt.out (by omega)
            have h2 := hMo.out m j (by omega) (by omega)
            omega
          rw [show min m j = m by omega]
          generalize L.getD j st0 = s at *
          go_wp2_with fail
          go_roundw
          case rel => exact ⟨j + 1, by omega, by go_num, by rw [show min m (j + 1) = m by omega], hkw⟩
          case measure => simp [intOf]; omega
      · obtain rfl : j = n := by omega
        rw [show min m j = m by omega]
        cases m with
        | zero =>
          have hval := Lib.hid (show cAt L t = (L.getD 0 st0).2 by rw [hE.out, if_pos rfl])
          obtain ⟨c0, c1, c2, c3, c4⟩ := (hc.out 0 (by omega)).keep hb (HB.out.trans hkw)
          rw [Nat.zero_mul, Nat.add_zero] at c0 c1 c2 c3 c4
          have d2 : wr.cell? ⟨b, o + 1 + 1, none⟩ = _ := c2
          have d3 : wr.cell? ⟨b, o + 1 + 2, none⟩ = _ := c3
          have d4 : wr.cell? ⟨b, o + 1 + 3, none⟩ = _ := c4
          obtain ⟨y0, y1, y2, y3, y4, y5, y6, y7⟩ := HS.out _ hkw
          generalize L.getD 0 st0 = s at *
          rw [show (((0 : Nat) : Int) - 1) = -1 from rfl]
          go_wp2_with fail
          exact bodyPost_ret (v := .agg #[.int .u8 s.2.1, .int .u8 s.2.2.1, .int .u8 s.2.2.2.1, .int .u8 s.2.2.2.2]) (by simp [results, Try.results19, go_sem, *]) rfl ⟨by rw [hval.out]; rfl, (HB.out.trans hkw).far4 (by omega) _ _ _ _⟩
        | succ m =>
          rw [show ((m + 1 : Nat) : Int) - 1 = (m : Int) by omega]
          by_cases hmn : m + 1 = j
          · have hval := Lib.hid (show cAt L t = (L.getD m st0).2 by rw [hE.out, if_neg (by omega), if_pos hmn, ← hmn, Nat.add_sub_cancel])
            obtain ⟨c0, c1, c2, c3, c4⟩ := (hc.out m (by omega)).keep hb (HB.out.trans hkw)
            have d2 : wr.cell? ⟨b, o + m * 5 + 1 + 1, none⟩ = _ := c2
            have d3 : wr.cell? ⟨b, o + m * 5 + 1 + 2, none⟩ = _ := c3
            have d4 : wr.cell? ⟨b, o + m * 5 + 1 + 3, none⟩ = _ := c4
            obtain ⟨y0, y1, y2, y3, y4, y5, y6, y7⟩ := HS.out _ hkw
            generalize L.getD m st0 = s at *
            have t2 : ((m : Int) == (j : Int) - 1) = true := beq_iff_eq.2 (by omega)
            have hlt1 : (m : Int) < j := by omega
            have hmn := Lib.hid hmn
            go_wp2_with fail
            exact bodyPost_ret (v := .agg #[.int .u8 s.2.1, .int .u8 s.2.2.1, .int .u8 s.2.2.2.1, .int .u8 s.2.2.2.2]) (by simp [results, Try.results19, go_sem, *]) rfl ⟨by rw [hval.out]; rfl, (HB.out.trans hkw).far4 (by omega) _ _ _ _⟩
          · have hval := Lib.hid (show cAt L t = lerpS (L.getD m st0) (L.getD (m + 1) st0) t by rw [hE.out, if_neg (by omega), if_neg hmn, Nat.add_sub_cancel])
            have hR1 := hR.out m (by omega)
            have hR2 := hR.out (m + 1) (by omega)
            have hL1 := hLe.out m (by omega)
            have hL2 := hSt.out (by omega)
            have ok1 := HT.out.ok m
            have ok2 := HT.out.ok (m + 1)
            have HL : Hid (∀ w', Keeps w w' → StAt w' b (o + m * 5) (L.getD m st0) ∧ StAt w' b (o + (m + 1) * 5) (L.getD (m + 1) st0)) := Lib.hid (fun w' hk => ⟨(hc.out m (by omega)).keep hb hk, (hc.out (m + 1) (by omega)).keep hb hk⟩)
            generalize L.getD m st0 = s at *
            generalize L.getD (m + 1) st0 = u at *
            have t2 : ((m : Int) == (j : Int) - 1) = false := beq_eq_false_iff_ne.2 (by omega)
            have hlt1 : (m : Int) + 1 < j := by omega
            have hlt0 : (m : Int) < j := by omega
            have hnn : (0 : Int) ≤ (m : Int) + 1 := by omega
            have hto : ((m : Int) + 1).toNat = m + 1 := by omega
            have wj : IntKind.i64.wrap ((m : Int) + 1) = (m : Int) + 1 := by simp [IntKind.wrap, IntKind.bits, IntKind.signed]; omega
            have wt : IntKind.i64.wrap (t - s.1) = t - s.1 := by simp [IntKind.wrap, IntKind.bits, IntKind.signed]; omega
            have wd : IntKind.i64.wrap (u.1 - s.1) = u.1 - s.1 := by simp [IntKind.wrap, IntKind.bits, IntKind.signed]; omega
            have hcl : clI (t - s.1) 0 (u.1 - s.1) = t - s.1 := by unfold clI; rw [if_neg (by omega), if_neg (by omega)]
            have GL := fun w => rlercol_any s.2.1 s.2.2.1 s.2.2.2.1 s.2.2.2.2 u.2.1 u.2.2.1 u.2.2.2.1 u.2.2.2.2 (t - s.1) (u.1 - s.1) w ok1.1 ok1.2.1 ok1.2.2.1 ok1.2.2.2 ok2.1 ok2.2.1 ok2.2.2.1 ok2.2.2.2 (by omega) (by omega)
            rw [hcl] at GL
            have GL := Lib.hid (fun w' (hk : Keeps W0 w') => keepk (GL w') hk)
            clear hcl
            have HT2 : Hid (∀ w', Keeps w w' → w'.cell? ⟨b, o + m * 5, none⟩ = some (.int .i64 s.1) ∧ w'.cell? ⟨b, o + m * 5 + 1, none⟩ = some (.int .u8 s.2.1) ∧ w'.cell? ⟨b, o + m * 5 + 1 + 1, none⟩ = some (.int .u8 s.2.2.1) ∧ w'.cell? ⟨b, o + m * 5 + 1 + 2, none⟩ = some (.int .u8 s.2.2.2.1) ∧ w'.cell? ⟨b, o + m * 5 + 1 + 3, none⟩ = some (.int .u8 s.2.2.2.2) ∧ w'.cell? ⟨b, o + (m + 1) * 5, none⟩ = some (.int .i64 u.1) ∧ w'.cell? ⟨b, o + (m + 1) * 5 + 1, none⟩ = some (.int .u8 u.2.1) ∧ w'.cell? ⟨b, o + (m + 1) * 5 + 1 + 1, none⟩ = some (.int .u8 u.2.2.1) ∧ w'.cell? ⟨b, o + (m + 1) * 5 + 1 + 2, none⟩ = some (.int .u8 u.2.2.2.1) ∧ w'.cell? ⟨b, o + (m + 1) * 5 + 1 + 3, none⟩ = some (.int .u8 u.2.2.2.2)) := Lib.hid (fun w' hk => by
              obtain ⟨⟨a0, a1, a2, a3, a4⟩, b0, b1, b2, b3, b4⟩ := HL.out w' hk
              exact ⟨a0, a1, a2, a3, a4, b0, b1, b2, b3, b4⟩)
            have HT0 := Lib.hid (fun w' (hk : Keeps W0 w') => HT2.out w' (HB.out.trans hk))
            have HU := Lib.hid (fun w' (u v x y : Value) (hk : Keeps W0 w') => HT2.out _ ((HB.out.trans hk).far4 (g := w.heap.size) (Nat.le_refl _) u v x y))
            clear hR1 hR2 hL1 hL2 ok1 ok2 HL HT hc hE hR hLe hSt hMo hLn
            go_wp2_with fail
            go_region_held3 (fun w' => w'.cell? ⟨b, o + m * 5, none⟩ = some (.int .i64 s.1) ∧ w'.cell? ⟨b, o + m * 5 + 1, none⟩ = some (.int .u8 s.2.1) ∧ w'.cell? ⟨b, o + m * 5 + 1 + 1, none⟩ = some (.int .u8 s.2.2.1) ∧ w'.cell? ⟨b, o + m * 5 + 1 + 2, none⟩ = some (.int .u8 s.2.2.2.1) ∧ w'.cell? ⟨b, o + m * 5 + 1 + 3, none⟩ = some (.int .u8 s.2.2.2.2) ∧ w'.cell? ⟨b, o + (m + 1) * 5, none⟩ = some (.int .i64 u.1) ∧ w'.cell? ⟨b, o + (m + 1) * 5 + 1, none⟩ = some (.int .u8 u.2.1) ∧ w'.cell? ⟨b, o + (m + 1) * 5 + 1 + 1, none⟩ = some (.int .u8 u.2.2.1) ∧ w'.cell? ⟨b, o + (m + 1) * 5 + 1 + 2, none⟩ = some (.int .u8 u.2.2.2.1) ∧ w'.cell? ⟨b, o + (m + 1) * 5 + 1 + 3, none⟩ = some (.int .u8 u.2.2.2.2)) (first | exact HT0.out _ (by assumption) | exact HT0.out _ (Keeps.drew (by assumption)) | exact HU.out _ _ _ _ _ (by assumption) | fail "KEEP")
              (first | (go_at_call 40; (first | (with_reducible refine (GL.out _ (by first | assumption | exact Keeps.drew (by assumption) | exact Keeps.drewN (by assumption) _)).mono ?_)); rintro e w1 ⟨rfl, hk⟩; obtain ⟨Y0, Y1, Y2, Y3, Y4, Y5, Y6, Y7⟩ := HS.out _ hk) | fail "ARM")
            go_wp2_with fail
            exact bodyPost_ret (v := colV (lerpS s u t)) (by simp [results, Try.results19, go_sem, colV, lerpS, *]) rfl ⟨by rw [hval.out], (HB.out.trans hk).far4 (by omega) _ _ _ _⟩
end Go.Proofs.Ytboomdbmeallfaa
