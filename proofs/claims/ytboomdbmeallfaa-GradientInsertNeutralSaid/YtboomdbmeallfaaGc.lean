/- Contract of gradient.ColorAt. -/
import Derived.Test.YtboomdbmeallfaaGb
import Derived.Test.YtboomdbmeallfaaBy
import Derived.WalkMore
namespace Go.Proofs.Ytboomdbmeallfaa
open Go.RowKit
set_option linter.unusedVariables false
set_option linter.unusedSimpArgs false
def lead (t : Int) : List St → Nat
  | [] => 0
  | s :: r => if t < s.1 then 0 else lead t r + 1
def lerpS (a b : St) (t : Int) : Int × Int × Int × Int :=
  (lc8 a.2.1 b.2.1 (t - a.1) (b.1 - a.1), lc8 a.2.2.1 b.2.2.1 (t - a.1) (b.1 - a.1), lc8 a.2.2.2.1 b.2.2.2.1 (t - a.1) (b.1 - a.1), lc8 a.2.2.2.2 b.2.2.2.2 (t - a.1) (b.1 - a.1))
def colV (c : Int × Int × Int × Int) : Value := .agg #[.int .u8 c.1, .int .u8 c.2.1, .int .u8 c.2.2.1, .int .u8 c.2.2.2]
def cAt (L : List St) (t : Int) : Int × Int × Int × Int :=
  if vB L = false then (0, 0, 0, 0) else if lead t L = 0 then (L.getD 0 st0).2 else if lead t L = L.length then (L.getD (L.length - 1) st0).2
  else lerpS (L.getD (lead t L - 1) st0) (L.getD (lead t L) st0) t
theorem vFrom_range : ∀ (L : List St) (a : Int), vFrom a L = true → ∀ k, k < L.length → a ≤ (L.getD k st0).1 ∧ (L.getD k st0).1 ≤ 65536
  | [], _, _, k, hk => by simp at hk
  | s :: r, a, h, k, hk => by
    unfold vFrom at h
    by_cases hb : s.1 < a ∨ 65536 < s.1
    · rw [if_pos hb] at h; cases h
    · rw [if_neg hb] at h
      cases k with
      | zero => simp only [List.getD_cons_zero]; omega
      | succ k =>
        have := vFrom_range r s.1 h k (by simpa using hk)
        simp only [List.getD_cons_succ]; omega
theorem vB_range {L : List St} (h : vB L = true) : 1 ≤ L.length ∧ L.length ≤ 16 ∧ vFrom 0 L = true ∧ ∀ k, k < L.length → 0 ≤ (L.getD k st0).1 ∧ (L.getD k st0).1 ≤ 65536 := by
  unfold vB at h
  by_cases hb : L.length < 1 ∨ 16 < L.length
  · rw [if_pos hb] at h; cases h
  · rw [if_neg hb] at h; exact ⟨by omega, by omega, h, vFrom_range L 0 h⟩
theorem lead_le : ∀ (L : List St) (t : Int) (k : Nat), k < lead t L → (L.getD k st0).1 ≤ t
  | [], _, k, h => by unfold lead at h; omega
  | s :: r, t, k, h => by
    unfold lead at h
    by_cases hb : t < s.1
    · rw [if_pos hb] at h; omega
    · rw [if_neg hb] at h
      cases k with
      | zero => simp only [List.getD_cons_zero]; omega
      | succ k => simp only [List.getD_cons_succ]; exact lead_le r t k (by omega)
set_option maxRecDepth 100000 in
set_option maxHeartbeats 4000000 in
theorem colorAt_any (A : Option Addr) (n c : Nat) (L : List St) (t : Int) (w : World) (h : Sts w A n c L) (l : -9223372036854775808 ≤ t) (u : t ≤ 9223372036854775807) :
    Calls Try.prog 17 #[.slice A n c, .int .i64 t] w fun e w' => e = .returned (colV (cAt L t)) ∧ Keeps w w' := by
  have hl := h.1
  have hmx := h.max
  have HS := Lib.hid (show ∀ w', Keeps (w.alloc (.cells #[.int .u8 0, .int .u8 0, .int .u8 0, .int .u8 0] 28)) w' → w'.cell? ⟨w.heap.size, 0, none⟩ = some (.int .u8 0) ∧ w'.frozen? ⟨w.heap.size, 0, none⟩ = false ∧ w'.cell? ⟨w.heap.size, 1, none⟩ = some (.int .u8 0) ∧ w'.frozen? ⟨w.heap.size, 1, none⟩ = false ∧ w'.cell? ⟨w.heap.size, 2, none⟩ = some (.int .u8 0) ∧ w'.frozen? ⟨w.heap.size, 2, none⟩ = false ∧ w'.cell? ⟨w.heap.size, 3, none⟩ = some (.int .u8 0) ∧ w'.frozen? ⟨w.heap.size, 3, none⟩ = false from fun w' hk => ⟨(hk.cell (p := ⟨w.heap.size, 0, none⟩) (by first | (simp; done) | (simp; omega))).trans (by simp [go_sem]), (hk.frozen (p := ⟨w.heap.size, 0, none⟩) (by first | (simp; done) | (simp; omega))).trans (by simp [go_sem]), (hk.cell (p := ⟨w.heap.size, 1, none⟩) (by first | (simp; done) | (simp; omega))).trans (by simp [go_sem]), (hk.frozen (p := ⟨w.heap.size, 1, none⟩) (by first | (simp; done) | (simp; omega))).trans (by simp [go_sem]), (hk.cell (p := ⟨w.heap.size, 2, none⟩) (by first | (simp; done) | (simp; omega))).trans (by simp [go_sem]), (hk.frozen (p := ⟨w.heap.size, 2, none⟩) (by first | (simp; done) | (simp; omega))).trans (by simp [go_sem]), (hk.cell (p := ⟨w.heap.size, 3, none⟩) (by first | (simp; done) | (simp; omega))).trans (by simp [go_sem]), (hk.frozen (p := ⟨w.heap.size, 3, none⟩) (by first | (simp; done) | (simp; omega))).trans (by simp [go_sem])⟩)
  have HB := Lib.hid (show Keeps w (w.alloc (.cells #[.int .u8 0, .int .u8 0, .int .u8 0, .int .u8 0] 28)) from (by (repeat (first | (with_reducible exact Keeps.refl _) | (with_reducible assumption) | (with_reducible refine Keeps.drewN ?_ _) | (with_reducible refine Keeps.drew ?_) | (with_reducible refine Keeps.alloc ?_ _) | (with_reducible refine Keeps.setNew ?_ ?_ _))) <;> (dsimp only; omega)))
  have hk0 := Keeps.refl (w.alloc (.cells #[.int .u8 0, .int .u8 0, .int .u8 0, .int .u8 0] 28))
  have GV := Lib.hid (fun w' hk => keepk (w0 := (w.alloc (.cells #[.int .u8 0, .int .u8 0, .int .u8 0, .int .u8 0] 28))) (valid31_any A n c L w' (h.keep (HB.out.trans hk))) hk)
  have HT := Lib.hid h
  have hW0 : ((w.alloc (.cells #[.int .u8 0, .int .u8 0, .int .u8 0, .int .u8 0] 28))).heap.size = w.heap.size + 1 := by simp
  clear h
  cases hv : vB L with
  | false =>
    rw [hv] at GV
    have e : cAt L t = (0, 0, 0, 0) := by unfold cAt; rw [if_pos hv]
    rw [e]
    clear hv e
    go_enter Try.func17, Try.ntmps17
    go_wp2_with fail
    go_step3
    go_wp2_with (go_at_call 16; (with_reducible refine (GV.out _ (by assumption)).mono ?_); rintro e w1 ⟨rfl, hk⟩; obtain ⟨y0, y1, y2, y3, y4, y5, y6, y7⟩ := HS.out _ hk)
    rw [Exit.noGoto_ret]
    exact bodyPost_ret (v := .agg #[.int .u8 0, .int .u8 0, .int .u8 0, .int .u8 0]) (by simp [results, Try.results17, go_sem, *]) rfl ⟨rfl, (HB.out.trans hk).far4 (by omega) _ _ _ _⟩
  | true =>
    rw [hv] at GV
    obtain ⟨n1, n2, hF, hR⟩ := vB_range hv
    rw [hl] at n1 n2 hR
    have e : cAt L t = if lead t L = 0 then (L.getD 0 st0).2 else if lead t L = n then (L.getD (n - 1) st0).2 else lerpS (L.getD (lead t L - 1) st0) (L.getD (lead t L) st0) t := by unfold cAt; rw [if_neg (by rw [hv]; decide), hl]
    have hE := Lib.hid e
    have hR := Lib.hid hR
    have hLe := Lib.hid (lead_le L t)
    clear hv hF e
    obtain ⟨b, o, rfl, hb, hc⟩ := HT.out.2.2.2.2 (by omega)
    have hc := Lib.hid hc
    go_enter Try.func17, Try.ntmps17
    go_wp2_with fail
    go_step3
    go_wp2_with (go_at_call 16; (with_reducible refine (GV.out _ (by assumption)).mono ?_); rintro e w1 ⟨rfl, hk1⟩)
    go_step3
    go_wp2_with fail
    generalize (w.alloc (.cells #[.int .u8 0, .int .u8 0, .int .u8 0, .int .u8 0] 28)) = W0 at *
    clear GV
    go_loopw [5, 16] (fun a i wr => ∃ (j : Nat), j ≤ n ∧ i = .int .i64 j ∧ a = .int .i64 ((j : Int) - 1) ∧ Keeps W0 wr ∧ Hid (lead t L = j + lead t (L.drop j))) (fun _ i _ => n - (intOf i).toNat)
    case atStart => exact ⟨0, by omega, rfl, rfl, hk1, Lib.hid (by simp)⟩
    case round =>
      obtain ⟨j, hj, rfl, rfl, hkw, hQ⟩ := hrel
      by_cases hlt : j < n
      · have hB2 := Lib.hid (HB.out.trans hkw)
        obtain ⟨c0, c1, c2, c3, c4⟩ := (hc.out j hlt).keep hb hB2.out
        have hbw : b < wr.heap.size := Nat.lt_of_lt_of_le hb hB2.out.size
        have hsw : w.heap.size < wr.heap.size := by have := hkw.size; omega
        have hD := Lib.hid (drop_getD L j st0 (by omega))
        rw [hD.out] at hQ
        by_cases hbad : t < (L.getD j st0).1
        · have hm : lead t L = j := by rw [hQ.out]; unfold lead; rw [if_pos hbad]; rfl
          have hR1 := hR.out j hlt
          clear hQ hD
          cases j with
          | zero =>
            have hval := Lib.hid (show cAt L t = (L.getD 0 st0).2 by rw [hE.out, if_pos hm])
            clear hm hR1
            generalize L.getD 0 st0 = s at *
            obtain ⟨y0, y1, y2, y3, y4, y5, y6, y7⟩ := HS.out _ hkw
            rw [Nat.zero_mul, Nat.add_zero] at c0 c1 c2 c3 c4
            have d2 : wr.cell? ⟨b, o + 1 + 1, none⟩ = _ := c2
            have d3 : wr.cell? ⟨b, o + 1 + 2, none⟩ = _ := c3
            have d4 : wr.cell? ⟨b, o + 1 + 3, none⟩ = _ := c4
            rw [show (((0 : Nat) : Int) - 1) = -1 from rfl, show ((0 : Nat) : Int) = 0 from rfl]
            go_wp2_with fail
            rw [Exit.noGoto_ret]
            exact bodyPost_ret (v := .agg #[.int .u8 s.2.1, .int .u8 s.2.2.1, .int .u8 s.2.2.2.1, .int .u8 s.2.2.2.2]) (by simp [results, Try.results17, go_sem, *]) rfl ⟨by rw [hval.out]; rfl, ((HB.out.trans hkw).far4 (by omega) _ _ _ _).alloc _⟩
          | succ j =>
            have hval := Lib.hid (show cAt L t = lerpS (L.getD j st0) (L.getD (j + 1) st0) t by rw [hE.out, if_neg (by omega), if_neg (by omega), hm, Nat.add_sub_cancel])
            have hR2 := hR.out j (by omega)
            have hL1 := hLe.out j (by omega)
            have ok1 := HT.out.ok j
            have ok2 := HT.out.ok (j + 1)
            have HL : Hid (∀ w', Keeps W0 w' → StAt w' b (o + j * 5) (L.getD j st0) ∧ StAt w' b (o + (j + 1) * 5) (L.getD (j + 1) st0)) := Lib.hid (fun w' hk => ⟨(hc.out j (by omega)).keep hb (HB.out.trans hk), (hc.out (j + 1) hlt).keep hb (HB.out.trans hk)⟩)
            clear hm
            generalize L.getD j st0 = s at *
            generalize L.getD (j + 1) st0 = u at *
            rw [show ((j + 1 : Nat) : Int) = (j : Int) + 1 by omega, show (j : Int) + 1 - 1 = (j : Int) by omega]
            have hlt1 : (j : Int) + 1 < n := by omega
            have hlt0 : (j : Int) < n := by omega
            have wj : IntKind.i64.wrap ((j : Int) + 1) = (j : Int) + 1 := by simp [IntKind.wrap, IntKind.bits, IntKind.signed]; omega
            have t1 : ((j : Int) == -1) = false := beq_eq_false_iff_ne.2 (by omega)
            have t2 : ((j : Int) == (n : Int) - 1) = false := beq_eq_false_iff_ne.2 (by omega)
            have hcl : clI (t - s.1) 0 (u.1 - s.1) = t - s.1 := by unfold clI; rw [if_neg (by omega), if_neg (by omega)]
            have GL := fun w => lercol_any s.2.1 s.2.2.1 s.2.2.2.1 s.2.2.2.2 u.2.1 u.2.2.1 u.2.2.2.1 u.2.2.2.2 (t - s.1) (u.1 - s.1) w ok1.1 ok1.2.1 ok1.2.2.1 ok1.2.2.2 ok2.1 ok2.2.1 ok2.2.2.1 ok2.2.2.2 (by omega) (by omega)
            rw [hcl] at GL
            have GL := Lib.hid GL
            clear hcl
            go_wp2_with fail
            have hk0 := hkw.alloc (.cells #[.int .i64 u.1, .int .u8 u.2.1, .int .u8 u.2.2.1, .int .u8 u.2.2.2.1, .int .u8 u.2.2.2.2] 31)
            clear hkw c0 c1 c2 c3 c4
            refine wp_region_steps (by kernel_rfl) (fun L a w' => ∃ (b0 b1 b2 b3 b4 b5 b6 b7 b8 b9 b10 b11 b12 : Bool), L = #[b0, b1, b2, b3, b4, b5, b6, b7, b8, b9, b10, b11, b12] ∧ ∃ (p0 p1 : Nat), a = { tmps := #[.slice (some ⟨b, o, none⟩) n c, .int .i64 t, undef, undef, .pointer (some ⟨w.heap.size, 0, none⟩), .int .i64 (j : Int), .int .i64 ((j : Int) + 1), .pointer (some ⟨wr.heap.size, 0, none⟩), if b9 then .pointer (some ⟨p0, 0, none⟩) else undef, if b10 then .pointer (some ⟨p1, 0, none⟩) else undef, .slice (some ⟨b, o, none⟩) n c, .bool true, .bool false, undef, .slice (some ⟨b, o, none⟩) n c, .int .i64 (n : Int), .int .i64 ((j : Int) + 1), .bool true, .int .i64 ((j : Int) + 1), .pointer (some ⟨b, o + (j + 1) * 5, none⟩), .agg #[.int .i64 u.1, .int .u8 u.2.1, .int .u8 u.2.2.1, .int .u8 u.2.2.2.1, .int .u8 u.2.2.2.2], u21, .bool true, .pointer (some ⟨wr.heap.size, 0, none⟩), .int .i64 u.1, .int .i64 t, .bool true, u27, .int .i64 (j : Int), .bool false, .bool false, undef, undef, undef, undef, .bool false, .slice (some ⟨b, o, none⟩) n c, .int .i64 (n : Int), .int .i64 ((n : Int) - 1), .bool false, undef, undef, undef, undef, undef, if b0 then .slice (some ⟨b, o, none⟩) n c else undef, if b1 then .int .i64 (j : Int) else undef, if b2 then .pointer (some ⟨b, o + j * 5, none⟩) else undef, if b3 then .agg #[.int .i64 s.1, .int .u8 s.2.1, .int .u8 s.2.2.1, .int .u8 s.2.2.2.1, .int .u8 s.2.2.2.2] else undef, if b4 then .slice (some ⟨b, o, none⟩) n c else undef, if b5 then .int .i64 (j : Int) else undef, if b6 then .int .i64 ((j : Int) + 1) else undef, if b7 then .pointer (some ⟨b, o + (j + 1) * 5, none⟩) else undef, if b8 then .agg #[.int .i64 u.1, .int .u8 u.2.1, .int .u8 u.2.2.1, .int .u8 u.2.2.2.1, .int .u8 u.2.2.2.2] else undef, undef, undef, undef, undef, undef, undef, undef, undef, undef, undef, undef, undef, undef, undef], defers := [] } ∧ Keeps (W0) w' ∧ Box5 b9 (W0.heap.size) (p0) (.int .i64 (if b11 then s.1 else 0)) (.int .u8 (if b11 then s.2.1 else 0)) (.int .u8 (if b11 then s.2.2.1 else 0)) (.int .u8 (if b11 then s.2.2.2.1 else 0)) (.int .u8 (if b11 then s.2.2.2.2 else 0)) w' ∧ Box5 b10 (W0.heap.size) (p1) (.int .i64 (if b12 then u.1 else 0)) (.int .u8 (if b12 then u.2.1 else 0)) (.int .u8 (if b12 then u.2.2.1 else 0)) (.int .u8 (if b12 then u.2.2.2.1 else 0)) (.int .u8 (if b12 then u.2.2.2.2 else 0)) w' ∧ (b9 = true → b10 = true → p0 ≠ p1) ∧ (b9 = false → b11 = false) ∧ (b10 = false → b12 = false)) 13 (by kernel_rfl) ?_ ?_ ?_
            · exact ⟨false, false, false, false, false, false, false, false, false, false, false, false, false, rfl, 0, 0, rfl, hk0.drew, Box5.none, Box5.none, (fun h => by cases h), (fun _ => rfl), (fun _ => rfl)⟩
            · refine (InvSteps.cons rfl ?_ (InvSteps.cons rfl ?_ (InvSteps.cons rfl ?_ (InvSteps.cons rfl ?_ (InvSteps.cons rfl ?_ (InvSteps.cons rfl ?_ (InvSteps.cons rfl ?_ (InvSteps.cons rfl ?_ (InvSteps.cons rfl ?_ (InvSteps.cons rfl ?_ (InvSteps.cons rfl ?_ (InvSteps.cons rfl ?_ (InvSteps.cons rfl ?_ InvSteps.nil)))))))))))))
              all_goals rintro L a w' ⟨b0, b1, b2, b3, b4, b5, b6, b7, b8, b9, b10, b11, b12, rfl, p0, p1, rfl, hk, HA0, HA1, D0_1, Z0, Z1⟩ hl hd K hK
              all_goals (simp [Region.binds] at hl hd; simp only [List.getElem_toArray, List.getElem_cons_zero, List.getElem_cons_succ])
              · subst hl; (repeat (rcases hd with ⟨hq, hd⟩; first | subst hq | clear hq)); (first | subst hd | clear hd | skip)
                go_simp
                exact hK.out _ _ ⟨true, _, _, _, _, _, _, _, _, _, _, _, _, rfl, p0, p1, rfl, hk, HA0, HA1, D0_1, Z0, Z1⟩
              · subst hl; (repeat (rcases hd with ⟨hq, hd⟩; first | subst hq | clear hq)); (first | subst hd | clear hd | skip)
                go_simp
                exact hK.out _ _ ⟨_, true, _, _, _, _, _, _, _, _, _, _, _, rfl, p0, p1, rfl, hk, HA0, HA1, D0_1, Z0, Z1⟩
              · subst hl; (repeat (rcases hd with ⟨hq, hd⟩; first | subst hq | clear hq)); (first | subst hd | clear hd | skip)
                go_simp
                exact hK.out _ _ ⟨_, _, true, _, _, _, _, _, _, _, _, _, _, rfl, p0, p1, rfl, hk, HA0, HA1, D0_1, Z0, Z1⟩
              · subst hl; (repeat (rcases hd with ⟨hq, hd⟩; first | subst hq | clear hq)); (first | subst hd | clear hd | skip)
                obtain ⟨⟨y0, y1, y2, y3, y4⟩, y5, y6, y7, y8, y9⟩ := HL.out _ hk
                go_simp
                exact hK.out _ _ ⟨_, _, _, true, _, _, _, _, _, _, _, _, _, rfl, p0, p1, rfl, hk, HA0, HA1, D0_1, Z0, Z1⟩
              · subst hl; (repeat (rcases hd with ⟨hq, hd⟩; first | subst hq | clear hq)); (first | subst hd | clear hd | skip)
                go_simp
                exact hK.out _ _ ⟨_, _, _, _, true, _, _, _, _, _, _, _, _, rfl, p0, p1, rfl, hk, HA0, HA1, D0_1, Z0, Z1⟩
              · subst hl; (repeat (rcases hd with ⟨hq, hd⟩; first | subst hq | clear hq)); (first | subst hd | clear hd | skip)
                go_simp
                exact hK.out _ _ ⟨_, _, _, _, _, true, _, _, _, _, _, _, _, rfl, p0, p1, rfl, hk, HA0, HA1, D0_1, Z0, Z1⟩
              · subst hl; (repeat (rcases hd with ⟨hq, hd⟩; first | subst hq | clear hq)); (first | subst hd | clear hd | skip)
                go_simp
                exact hK.out _ _ ⟨_, _, _, _, _, _, true, _, _, _, _, _, _, rfl, p0, p1, rfl, hk, HA0, HA1, D0_1, Z0, Z1⟩
              · subst hl; (repeat (rcases hd with ⟨hq, hd⟩; first | subst hq | clear hq)); (first | subst hd | clear hd | skip)
                go_simp
                exact hK.out _ _ ⟨_, _, _, _, _, _, _, true, _, _, _, _, _, rfl, p0, p1, rfl, hk, HA0, HA1, D0_1, Z0, Z1⟩
              · subst hl; (repeat (rcases hd with ⟨hq, hd⟩; first | subst hq | clear hq)); (first | subst hd | clear hd | skip)
                obtain ⟨⟨y0, y1, y2, y3, y4⟩, y5, y6, y7, y8, y9⟩ := HL.out _ hk
                go_simp
                exact hK.out _ _ ⟨_, _, _, _, _, _, _, _, true, _, _, _, _, rfl, p0, p1, rfl, hk, HA0, HA1, D0_1, Z0, Z1⟩
              · subst hl; obtain rfl := Z0 rfl
                have hs := hk.size
                go_simp
                exact hK.out _ _ ⟨_, _, _, _, _, _, _, _, _, true, _, _, _, rfl, w'.heap.size, p1, rfl, hk.alloc _, Box5.new (by omega), HA1.keeps ((Keeps.refl _).alloc _), (fun _ h => (HA1.ne h).symm), (fun h => by cases h), Z1⟩
              · subst hl; obtain rfl := Z1 rfl
                have hs := hk.size
                go_simp
                exact hK.out _ _ ⟨_, _, _, _, _, _, _, _, _, _, true, _, _, rfl, p0, w'.heap.size, rfl, hk.alloc _, HA0.keeps ((Keeps.refl _).alloc _), Box5.new (by omega), (fun h _ => HA0.ne h), Z0, (fun h => by cases h)⟩
              · subst hl; (repeat (rcases hd with ⟨hq, hd⟩; first | subst hq | clear hq)); (first | subst hd | clear hd | skip)
                obtain ⟨q1, q2, q3, q4, q5, q6, q7, q8, q9, q10, q11, q12⟩ := HA0 rfl
                have hs := hk.size
                go_simp
                exact hK.out _ _ ⟨_, _, _, _, _, _, _, _, _, _, _, true, _, rfl, p0, p1, rfl, hk.set5 (by omega) _ _ _ _ _, HA0.at, HA1.far (fun h e => D0_1 rfl h e.symm), D0_1, (fun h => by cases h), Z1⟩
              · subst hl; (repeat (rcases hd with ⟨hq, hd⟩; first | subst hq | clear hq)); (first | subst hd | clear hd | skip)
                obtain ⟨q1, q2, q3, q4, q5, q6, q7, q8, q9, q10, q11, q12⟩ := HA1 rfl
                have hs := hk.size
                go_simp
                exact hK.out _ _ ⟨_, _, _, _, _, _, _, _, _, _, _, _, true, rfl, p0, p1, rfl, hk.set5 (by omega) _ _ _ _ _, HA0.far (fun h => D0_1 h rfl), HA1.at, D0_1, Z0, (fun h => by cases h)⟩
            · rintro L a w' ⟨b0, b1, b2, b3, b4, b5, b6, b7, b8, b9, b10, b11, b12, rfl, p0, p1, rfl, hk, HA0, HA1, D0_1, Z0, Z1⟩ hr
              have c := ready_nil hr 0 rfl (by simp [Region.binds]); simp at c; subst c
              have c := ready_nil hr 1 rfl (by simp [Region.binds]); simp at c; subst c
              have c := ready_nil hr 2 rfl (by simp [Region.binds]); simp at c; subst c
              have c := ready_nil hr 3 rfl (by simp [Region.binds]); simp at c; subst c
              have c := ready_nil hr 4 rfl (by simp [Region.binds]); simp at c; subst c
              have c := ready_nil hr 5 rfl (by simp [Region.binds]); simp at c; subst c
              have c := ready_nil hr 6 rfl (by simp [Region.binds]); simp at c; subst c
              have c := ready_nil hr 7 rfl (by simp [Region.binds]); simp at c; subst c
              have c := ready_nil hr 8 rfl (by simp [Region.binds]); simp at c; subst c
              have c := ready_nil hr 9 rfl (by simp [Region.binds]); simp at c; subst c
              have c := ready_nil hr 10 rfl (by simp [Region.binds]); simp at c; subst c
              have c := ready_nil hr 11 rfl (by simp [Region.binds]); simp at c; subst c
              have c := ready_nil hr 12 rfl (by simp [Region.binds]); simp at c; subst c
              clear hr Z0 Z1
              obtain ⟨q0_1, q0_2, q0_3, q0_4, q0_5, q0_6, q0_7, q0_8, q0_9, q0_10, q0_11, q0_12⟩ := HA0 rfl
              simp only [if_true] at q0_3 q0_4 q0_5 q0_6 q0_7
              have HB0 := Lib.hid HA0; clear HA0; simp only [if_true] at HB0
              obtain ⟨q1_1, q1_2, q1_3, q1_4, q1_5, q1_6, q1_7, q1_8, q1_9, q1_10, q1_11, q1_12⟩ := HA1 rfl
              simp only [if_true] at q1_3 q1_4 q1_5 q1_6 q1_7
              have HB1 := Lib.hid HA1; clear HA1; simp only [if_true] at HB1
              have D0_1 := D0_1 rfl rfl
              simp only [if_true]
              obtain ⟨⟨y0, y1, y2, y3, y4⟩, y5, y6, y7, y8, y9⟩ := HL.out _ hk
              have hj := Keeps.trans HB.out hk
              go_wp2_with (go_at_call 39; (with_reducible refine (GL.out _).mono ?_); rintro e w9 ⟨rfl, hk9⟩; obtain ⟨Y0, Y1, Y2, Y3, Y4, Y5, Y6, Y7⟩ := HS.out _ (hk.trans hk9))
              rw [Exit.noGoto_ret]
              exact bodyPost_ret (v := colV (lerpS s u t)) (by simp [results, Try.results17, go_sem, colV, lerpS, *]) rfl ⟨by rw [hval.out], (HB.out.trans (hk.trans hk9)).far4 (by omega) _ _ _ _⟩
        · have hQ2 := Lib.hid (show lead t L = (j + 1) + lead t (L.drop (j + 1)) by rw [hQ.out]; show j + (if _ then _ else _) = _; rw [if_neg hbad]; omega)
          generalize L.getD j st0 = s at *
          go_wp2_with fail
          go_roundw
          case rel => exact ⟨j + 1, by omega, by go_num, by go_num, hkw.alloc _, hQ2⟩
          case measure => simp [intOf]; omega
      · obtain rfl : j = n := by omega
        obtain ⟨m, hmn⟩ : ∃ m, j = m + 1 := ⟨j - 1, by omega⟩
        have hm : lead t L = j := by rw [hQ.out, List.drop_of_length_le (by omega)]; rfl
        have hval := Lib.hid (show cAt L t = (L.getD m st0).2 by rw [hE.out, if_neg (by omega), if_pos hm, hmn, Nat.add_sub_cancel])
        have t1 : ((m : Int) == -1) = false := beq_eq_false_iff_ne.2 (by omega)
        have t2 : ((m : Int) == (j : Int) - 1) = true := beq_iff_eq.2 (by omega)
        have hlt1 : (m : Int) < j := by omega
        obtain ⟨c0, c1, c2, c3, c4⟩ := (hc.out m (by omega)).keep hb (HB.out.trans hkw)
        have d2 : wr.cell? ⟨b, o + m * 5 + 1 + 1, none⟩ = _ := c2
        have d3 : wr.cell? ⟨b, o + m * 5 + 1 + 2, none⟩ = _ := c3
        have d4 : wr.cell? ⟨b, o + m * 5 + 1 + 3, none⟩ = _ := c4
        obtain ⟨y0, y1, y2, y3, y4, y5, y6, y7⟩ := HS.out _ hkw
        clear hm hQ
        generalize L.getD m st0 = s at *
        rw [show ((j : Int) - 1) = (m : Int) by omega]
        have hmn := Lib.hid hmn
        go_wp2_with fail
        try rw [Exit.noGoto_ret]
        exact bodyPost_ret (v := .agg #[.int .u8 s.2.1, .int .u8 s.2.2.1, .int .u8 s.2.2.2.1, .int .u8 s.2.2.2.2]) (by simp [results, Try.results17, go_sem, *]) rfl ⟨by rw [hval.out]; rfl, (HB.out.trans hkw).far4 (by omega) _ _ _ _⟩
end Go.Proofs.Ytboomdbmeallfaa
