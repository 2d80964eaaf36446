/- The contract of reference 25's Length. -/
import Derived.Test.YtihmhpleiefodaaDs
import Derived.Test.YtihmhpleiefodaaDn
namespace Go.Proofs.Ytihmhpleiefodaa
open Go.RowKit Go.Shelf
attribute [local go_sem ↓] Go.wp_at_zero Go.wp_at_succ
set_option linter.unusedVariables false
set_option linter.unusedSimpArgs false
set_option maxRecDepth 100000 in
set_option maxHeartbeats 2000000 in
theorem rdlen_any (cl : Bool) (A : Option Addr) (n c : Nat) (L : List Pt) (w : World) (h : Pts w A n c L) (hn : n ≤ 1000000) :
    Calls Try.prog 13 #[.agg #[.slice A n c, .bool cl]] w fun e w' => e = .returned (.int .i64 (lenP cl L)) ∧ Keeps w w' := by
  have hl := h.1
  have HS := Lib.hid (show ∀ w', Keeps (w.alloc (.cells #[.slice A n c, .bool cl] 24)) w' → w'.cell? ⟨w.heap.size, 0, none⟩ = some (.slice A n c) ∧ w'.frozen? ⟨w.heap.size, 0, none⟩ = false ∧ w'.cell? ⟨w.heap.size, 1, none⟩ = some (.bool cl) ∧ w'.frozen? ⟨w.heap.size, 1, none⟩ = false from fun w' hk => ⟨(hk.cell (p := ⟨w.heap.size, 0, none⟩) (by first | (simp; done) | (simp; omega))).trans (by simp [go_sem]), (hk.frozen (p := ⟨w.heap.size, 0, none⟩) (by first | (simp; done) | (simp; omega))).trans (by simp [go_sem]), (hk.cell (p := ⟨w.heap.size, 1, none⟩) (by first | (simp; done) | (simp; omega))).trans (by simp [go_sem]), (hk.frozen (p := ⟨w.heap.size, 1, none⟩) (by first | (simp; done) | (simp; omega))).trans (by simp [go_sem])⟩)
  have HB := Lib.hid (show Keeps w (w.alloc (.cells #[.slice A n c, .bool cl] 24)) from (by (repeat (first | (with_reducible exact Keeps.refl _) | (with_reducible assumption) | (with_reducible refine Keeps.drewN ?_ _) | (with_reducible refine Keeps.drew ?_) | (with_reducible refine Keeps.alloc ?_ _) | (with_reducible refine Keeps.setNew ?_ ?_ _))) <;> (dsimp only; omega)))
  have hk0 := Keeps.refl (w.alloc (.cells #[.slice A n c, .bool cl] 24))
  have KL := Lib.hid (fun w' (hk : Keeps w w') => rline_any cl A n c L w' (h.keep hk) hn)
  have KR := Lib.hid (fun w' (hk : Keeps w w') => rright_any A n c L w' (h.keep hk))
  have hnu := dedC_len cl L
  have hok := Lib.hid (dedC_ok cl L h.2.2.2.1)
  have hLP := Lib.hid (show lenP cl L = if L.all vP = true then lng (segs cl (dedC cl L)) else 0 from rfl)
  clear h
  generalize L.all vP = vv at *
  have hll := lineL_len cl (dedC cl L)
  have hlo := Lib.hid (lineL_ok (cl := cl) hok.out)
  have hsl := Lib.hid (fun h => lineL_segs (cl := cl) (M := dedC cl L) h)
  have hge := Lib.hid (fun k h => lineL_get (cl := cl) (M := dedC cl L) (k := k) h)
  have hSl : (segs cl (dedC cl L)).length ≤ 1000000 := by unfold segs segN; rw [upS_len]; split <;> (try split) <;> omega
  have hz := Lib.hid (show (lineL cl (dedC cl L)).length = 0 → (segs cl (dedC cl L)) = [] from fun h => by
    have : (dedC cl L).length ≤ 1 := by
      rw [hll] at h
      split at h
      · assumption
      · omega
    unfold segs segN
    rw [if_pos this]; rfl)
  clear hok hll hnu
  generalize segs cl (dedC cl L) = S at *
  generalize lenP cl L = tot at *
  generalize lineL cl (dedC cl L) = R at *
  go_enter Try.func13, Try.ntmps13
  obtain ⟨y0, y1, y2, y3⟩ := HS.out _ hk0
  go_wp2_with (go_at_call 28; (with_reducible refine (KL.out _ HB.out).mono ?_); rintro e w1 ⟨A1, c1, rfl, ho1, hk1⟩)
  obtain ⟨A1', c1', e1, hP1⟩ := Pts.of_own ho1 rfl hlo.out
  cases e1
  replace hP1 := Lib.hid hP1
  clear ho1 y0 y1 y2 y3 KL hlo
  have hmx := hP1.out.max
  cases vv with
  | false =>
    rw [if_neg (by decide)] at hLP
    go_loopw [3, 5] (fun v i wr => v = .int .i64 0 ∧ i = .int .i64 1 ∧ Keeps (w.alloc (.cells #[.slice A n c, .bool cl] 24)) wr) (fun _ _ _ => 0)
    case atStart => exact ⟨rfl, rfl, hk1⟩
    case round =>
      obtain ⟨rfl, rfl, hkw⟩ := hrel
      obtain ⟨y0, y1, y2, y3⟩ := HS.out _ hkw
      by_cases h1 : 1 < R.length
      · have h1i : (1 : Int) < R.length := by omega
        go_wp2_with (go_at_call 29; (with_reducible refine (KR.out _ (HB.out.trans hkw)).mono ?_); rintro e w3 ⟨rfl, hk3⟩)
        go_ret
        rw [hLP.out]
        exact ⟨rfl, (HB.out.trans hkw).trans hk3⟩
      · have h1i : ¬ (1 : Int) < R.length := by omega
        go_wp2_with fail
        go_ret
        rw [hLP.out]
        exact ⟨rfl, HB.out.trans hkw⟩
  | true =>
    rw [if_pos rfl] at hLP
    go_loopw [3, 5] (fun v i wr => ∃ q : Nat, q ≤ S.length ∧ i = .int .i64 ((q : Int) + 1) ∧ v = .int .i64 (lng (S.take q)) ∧ Keeps (w.alloc (.cells #[.slice A n c, .bool cl] 24)) wr ∧ Keeps w1 wr) (fun _ i _ => S.length + 2 - (intOf i).toNat)
    case atStart => exact ⟨0, by omega, rfl, rfl, hk1, Keeps.refl _⟩
    case round =>
      obtain ⟨q, hq, rfl, rfl, hkw, hk1w⟩ := hrel
      obtain ⟨y0, y1, y2, y3⟩ := HS.out _ hkw
      have hRl : R.length = 0 ∨ R.length = S.length + 1 := by
        rcases Nat.eq_zero_or_pos R.length with e | e
        · exact .inl e
        · exact .inr (hsl.out e)
      have hS0 : R.length = 0 → S.length = 0 := fun e => by rw [hz.out e]; rfl
      have hlt9 : (S.take q).length ≤ 1000000 := by rw [List.length_take]; omega
      have hlb := lng_bd (S.take q)
      by_cases hlt : q < S.length
      · have h1i : (q : Int) + 1 < R.length := by omega
        obtain ⟨g0, g1⟩ := hge.out q hlt
        obtain ⟨b, o, rfl, hb, hx⟩ := (hP1.out.keep hk1w).2.2.2.2 (by omega)
        obtain ⟨c0, c1⟩ := hx q (by omega)
        obtain ⟨d0, d1⟩ := hx (q + 1) (by omega)
        rw [g0] at c0 c1
        rw [g1] at d0 d1
        have hT := Lib.hid (lng_take_succ S q hlt)
        have hls := lenS_bd (S.getD q sg0)
        have KP0 := fun w' => rpiece_any (S.getD q sg0).1 (S.getD q sg0).2 w'
        have hww : IntKind.i64.wrap (q : Int) = q := i64_in _ (by omega)
        have hqi : (q : Int) < R.length := by omega
        clear hx g0 g1 hS0 hRl
        rw [show ((S.getD q sg0).1, (S.getD q sg0).2) = S.getD q sg0 from rfl] at KP0
        generalize (S.getD q sg0).1 = pa at *
        generalize (S.getD q sg0).2 = pb at *
        generalize lenS (S.getD q sg0) = ls at *
        generalize lng (S.take q) = lq at *
        unfold ptA at KP0
        go_upto_region 6 with (go_at_call 29; (with_reducible refine (KR.out _ (HB.out.trans hkw)).mono ?_); rintro e w3 ⟨rfl, hk3⟩)
        have hkw3 := hkw.trans hk3
        have hbw : b < w3.heap.size := Nat.lt_of_lt_of_le hb hk3.size
        have z0 := fun k : KW w3 => ((hk3.trans k.keeps).cell (p := ⟨b, o + q * 2, none⟩) hb).trans c0
        have z1 := fun k : KW w3 => ((hk3.trans k.keeps).cell (p := ⟨b, o + q * 2 + 1, none⟩) hb).trans c1
        have z2 := fun k : KW w3 => ((hk3.trans k.keeps).cell (p := ⟨b, o + (q + 1) * 2, none⟩) hb).trans d0
        have z3 := fun k : KW w3 => ((hk3.trans k.keeps).cell (p := ⟨b, o + (q + 1) * 2 + 1, none⟩) hb).trans d1
        have KP := Lib.hid (fun k : KW w3 => keepq (KP0 k.w))
        clear KP0 c0 c1 d0 d1
        refine wp_region_kept (w3) (by kernel_rfl) (by kernel_rfl) (Keeps.refl _) ?_
        repeat (first | go_big_quiet_skip | (go_big_quiet_want; go_big_quiet_op; first | go_big_quiet_on | go_big_quiet_call ((go_at_call 30; first | (with_reducible exact KP.out _)))))
        refine wpQuiet_nil ?_
        rintro w' ⟨k9, rfl⟩
        have hk := k9.keeps
        generalize k9.w = w9 at hk ⊢
        clear k9
        clear z0 z1 z2 z3 KP
        go_wp2_with fail
        go_roundw
        case rel => exact ⟨q + 1, by omega, by go_num, by rw [hT.out], hkw3.trans hk, (hk1w.trans hk3).trans hk⟩
        case measure => simp [intOf]; omega
      · obtain ⟨hq9⟩ : Nonempty (q = S.length) := ⟨by omega⟩
        subst hq9
        rw [List.take_length] at hlb ⊢
        have h1i : ¬ ((S.length : Int) + 1 < R.length) := by omega
        go_wp2_with fail
        go_ret
        rw [hLP.out]
        exact ⟨rfl, HB.out.trans hkw⟩
end Go.Proofs.Ytihmhpleiefodaa
