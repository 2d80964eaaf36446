/- DashIntervals of grisaillelaw25 returns true for all its arguments: every stroke style, length and limit; no condition. -/
import Derived.Test.YtihmhpleiefodaaDu
import Derived.Test.YtihmhpleiefodaaOp
import Derived.Test.YtihmhpleiefodaaOz
namespace Go.Proofs.Ytihmhpleiefodaa.dashIntervals
open Go.RowKit Go.ChangeShapes Go.WideShapes Go.ChangeAt
set_option linter.unusedVariables false
open Go.Proofs.Ytihmhpleiefodaa
attribute [local go_sem ↓] Go.wp_at_zero Go.wp_at_succ
set_option linter.unusedSimpArgs false
theorem on_iv (wd jn cp ml ph long : Int) (D : List Int) : IvOf (isOnB wd jn cp ml ph D) long 0 (onL wd jn cp ml ph D long) := by
  unfold onL
  split
  · rename_i h
    have h1 := ivs_of (onI D ph) long (by omega)
    have key : ∀ (a : Int) (R : List (Int × Int)), 0 ≤ a → IvOf (onI D ph) long a R → IvOf (isOnB wd jn cp ml ph D) long a R := by
      have e : ∀ x, 0 ≤ x → isOnB wd jn cp ml ph D x = onI D ph x := fun x hx => by unfold isOnB; rw [h.1, decide_eq_true hx]; rfl
      intro a R
      induction R generalizing a with
      | nil => intro ha hR x h1 h2; rw [e x (by omega)]; exact hR x h1 h2
      | cons p r ih =>
        intro ha ⟨h1, h2, h3, h4, h5, h6, h7⟩
        exact ⟨h1, h2, h3, fun x k1 k2 => by rw [e x (by omega)]; exact h4 x k1 k2, fun x k1 k2 => by rw [e x (by omega)]; exact h5 x k1 k2, fun k => by rw [e _ (by omega)]; exact h6 k, ih _ (by omega) h7⟩
    exact key 0 _ (Int.le_refl _) h1
  · rename_i h
    intro x h1 h2
    unfold isOnB
    cases hs : stB wd jn cp ml ph D with
    | false => rfl
    | true => exact absurd ⟨hs, by omega⟩ h
set_option maxRecDepth 100000 in
set_option maxHeartbeats 4000000 in
theorem walk (wd jn cp ml ph : Int) (A : Option Addr) (n c : Nat) (D : List Int) (long most : Int) (w : World) (h : Ins w A n c D) (hB : i64b wd ∧ i64b jn ∧ i64b cp ∧ i64b ml ∧ i64b ph) (l0 : -9223372036854775808 ≤ long) (l1 : long ≤ 9223372036854775807) (m0 : 0 ≤ most) (m1 : most ≤ 255) :
    Calls Try.prog 4 #[.agg #[.int .i64 wd, .int .i64 jn, .int .i64 cp, .int .i64 ml, .slice A n c, .int .i64 ph], .int .i64 long, .int .u8 most] w fun e w' => e = .returned (.bool true) ∧ Below w.heap.size w w' := by
  have hl := h.1
  have hmx := h.max
  obtain ⟨m, hm⟩ := Int.eq_ofNat_of_zero_le m0
  replace hm := Lib.hid hm
  have HS := Lib.hid (show ∀ w', Keeps (w.alloc (.cells #[.int .i64 wd, .int .i64 jn, .int .i64 cp, .int .i64 ml, .slice A n c, .int .i64 ph] 27)) w' → w'.cell? ⟨w.heap.size, 0, none⟩ = some (.int .i64 wd) ∧ w'.frozen? ⟨w.heap.size, 0, none⟩ = false ∧ w'.cell? ⟨w.heap.size, 1, none⟩ = some (.int .i64 jn) ∧ w'.frozen? ⟨w.heap.size, 1, none⟩ = false ∧ w'.cell? ⟨w.heap.size, 2, none⟩ = some (.int .i64 cp) ∧ w'.frozen? ⟨w.heap.size, 2, none⟩ = false ∧ w'.cell? ⟨w.heap.size, 3, none⟩ = some (.int .i64 ml) ∧ w'.frozen? ⟨w.heap.size, 3, none⟩ = false ∧ w'.cell? ⟨w.heap.size, 4, none⟩ = some (.slice A n c) ∧ w'.frozen? ⟨w.heap.size, 4, none⟩ = false ∧ w'.cell? ⟨w.heap.size, 5, none⟩ = some (.int .i64 ph) ∧ w'.frozen? ⟨w.heap.size, 5, none⟩ = false from fun w' hk => ⟨(hk.cell (p := ⟨w.heap.size, 0, none⟩) (by first | (simp; done) | (simp; omega))).trans (by simp [go_sem]), (hk.frozen (p := ⟨w.heap.size, 0, none⟩) (by first | (simp; done) | (simp; omega))).trans (by simp [go_sem]), (hk.cell (p := ⟨w.heap.size, 1, none⟩) (by first | (simp; done) | (simp; omega))).trans (by simp [go_sem]), (hk.frozen (p := ⟨w.heap.size, 1, none⟩) (by first | (simp; done) | (simp; omega))).trans (by simp [go_sem]), (hk.cell (p := ⟨w.heap.size, 2, none⟩) (by first | (simp; done) | (simp; omega))).trans (by simp [go_sem]), (hk.frozen (p := ⟨w.heap.size, 2, none⟩) (by first | (simp; done) | (simp; omega))).trans (by simp [go_sem]), (hk.cell (p := ⟨w.heap.size, 3, none⟩) (by first | (simp; done) | (simp; omega))).trans (by simp [go_sem]), (hk.frozen (p := ⟨w.heap.size, 3, none⟩) (by first | (simp; done) | (simp; omega))).trans (by simp [go_sem]), (hk.cell (p := ⟨w.heap.size, 4, none⟩) (by first | (simp; done) | (simp; omega))).trans (by simp [go_sem]), (hk.frozen (p := ⟨w.heap.size, 4, none⟩) (by first | (simp; done) | (simp; omega))).trans (by simp [go_sem]), (hk.cell (p := ⟨w.heap.size, 5, none⟩) (by first | (simp; done) | (simp; omega))).trans (by simp [go_sem]), (hk.frozen (p := ⟨w.heap.size, 5, none⟩) (by first | (simp; done) | (simp; omega))).trans (by simp [go_sem])⟩)
  have HB := Lib.hid (show Keeps w (w.alloc (.cells #[.int .i64 wd, .int .i64 jn, .int .i64 cp, .int .i64 ml, .slice A n c, .int .i64 ph] 27)) from (by (repeat (first | (with_reducible exact Keeps.refl _) | (with_reducible assumption) | (with_reducible refine Keeps.drewN ?_ _) | (with_reducible refine Keeps.drew ?_) | (with_reducible refine Keeps.alloc ?_ _) | (with_reducible refine Keeps.setNew ?_ ?_ _))) <;> (dsimp only; omega)))
  have hk0 := Keeps.refl (w.alloc (.cells #[.int .i64 wd, .int .i64 jn, .int .i64 cp, .int .i64 ml, .slice A n c, .int .i64 ph] 27))
  have KX := Lib.hid example25_any
  by_cases hs1 : 40 < n
  · have hs1i : (40 : Int) < n := by omega
    clear h hB
    go_enter Try.func4, Try.ntmps4
    obtain ⟨y0, y1, y2, y3, y4, y5, y6, y7, y8, y9, y10, y11⟩ := HS.out _ hk0
    go_wp2_with (go_at_call 11; (with_reducible refine (KX.out _).mono ?_); rintro e w2 ⟨rfl, hk2⟩)
    go_ret
    exact ⟨rfl, HB.out.trans hk2⟩
  · have hs1i : ¬ (40 : Int) < n := by omega
    by_cases hs2 : 3000 < long
    · clear h hB
      go_enter Try.func4, Try.ntmps4
      obtain ⟨y0, y1, y2, y3, y4, y5, y6, y7, y8, y9, y10, y11⟩ := HS.out _ hk0
      go_wp2_with (go_at_call 11; (with_reducible refine (KX.out _).mono ?_); rintro e w2 ⟨rfl, hk2⟩)
      go_ret
      exact ⟨rfl, HB.out.trans hk2⟩
    · have hs2b : decide ((3000 : Int) < long) = false := decide_eq_false hs2
      have KR := Lib.hid (fun w' (q : Nat) (hk : Keeps (w.alloc (.cells #[.int .i64 wd, .int .i64 jn, .int .i64 cp, .int .i64 ml, .slice A n c, .int .i64 ph] 27)) w') (hq : q ≤ 4000) => lruns_any wd jn cp ml ph long A n c D q w' (h.keep (HB.out.trans hk)) hq (by omega))
      have KI := Lib.hid (fun w' x (hk : Keeps (w.alloc (.cells #[.int .i64 wd, .int .i64 jn, .int .i64 cp, .int .i64 ml, .slice A n c, .int .i64 ph] 27)) w') (hx : x ≤ 4000) => ison_any wd jn cp ml ph A n c D x w' (h.keep (HB.out.trans hk)) (by omega))
      have hiv := on_iv wd jn cp ml ph long D
      have hlen : ((onL wd jn cp ml ph D long).length : Int) ≤ 4000 := by
        by_cases hz : 0 ≤ long
        · have := hiv.len hz; omega
        · have : onL wd jn cp ml ph D long = [] := by unfold onL; rw [if_neg (by rintro ⟨_, h⟩; omega)]
          rw [this]; simp
      have ht0 : (onL wd jn cp ml ph D long).take 4000 = onL wd jn cp ml ph D long := List.take_of_length_le (by omega)
      have KR0 := Lib.hid (fun w' hk => KR.out w' 4000 hk (Nat.le_refl _))
      rw [ht0, show ((4000 : Nat) : Int) = 4000 from rfl] at KR0
      have hlm := List.length_take (i := m) (l := onL wd jn cp ml ph D long)
      have hiv := Lib.hid hiv
      clear h hB ht0
      generalize isOnB wd jn cp ml ph D = on at *
      generalize onL wd jn cp ml ph D long = L at *
      go_enter Try.func4, Try.ntmps4
      obtain ⟨y0, y1, y2, y3, y4, y5, y6, y7, y8, y9, y10, y11⟩ := HS.out _ hk0
      go_wp2_with (go_at_call 16; (with_reducible refine (KR0.out _ hk0).mono ?_); rintro e w1 ⟨A9, c9, rfl, hP9, hk9⟩; replace hP9 := Lib.hid hP9)
      clear y0 y1 y2 y3 y4 y5 y6 y7 y8 y9 y10 y11
      go_loopw [9, 10] (fun av iv wr => ∃ (a : Int) (k : Nat), av = .int .i64 a ∧ iv = .int .i64 k ∧ 0 ≤ a ∧ a ≤ 3000 ∧ k ≤ L.length ∧ Hid (IvOf on long a (L.drop k)) ∧ Hid (0 < k → a < long → on a = false) ∧ Keeps (w.alloc (.cells #[.int .i64 wd, .int .i64 jn, .int .i64 cp, .int .i64 ml, .slice A n c, .int .i64 ph] 27)) wr ∧ Keeps w1 wr) (fun _ i _ => L.length - (intOf i).toNat)
      case atStart => exact ⟨0, 0, rfl, rfl, by omega, by omega, by omega, Lib.hid (by simpa using hiv.out), Lib.hid (fun h => absurd h (by omega)), hk9, Keeps.refl _⟩
      case round =>
        obtain ⟨a, k, rfl, rfl, ha0, ha1, hk, hI9, hof, hkw, hkw1⟩ := hrel
        obtain ⟨y0, y1, y2, y3, y4, y5, y6, y7, y8, y9, y10, y11⟩ := HS.out _ hkw
        by_cases hlt : k < L.length
        · have hlti : (k : Int) < L.length := by omega
          have hdr := drop_getDQ L k pt0 hlt
          obtain ⟨b, o, rfl, hb, hx⟩ := hP9.out.2.2.2.2 (by omega)
          have hxk := hx k hlt
          obtain ⟨c0, c1⟩ := hxk.keep hb hkw1
          have hI8 := hI9.out
          rw [hdr] at hI8
          generalize hse : L.getD k pt0 = se at *
          obtain ⟨s, e⟩ := se
          obtain ⟨g1, g2, g3, g4, g5, g6, g7⟩ := hI8
          obtain ⟨e0, e1⟩ := hxk
          dsimp only at c0 c1 e0 e1
          have t1 : decide (s < a) = false := decide_eq_false (by omega)
          have t2 : decide (e ≤ s) = false := decide_eq_false (by omega)
          have t3 : decide (long < e) = false := decide_eq_false (by omega)
          have hsa : 0 < k → s ≠ a := fun hk0 he => by
            have h1 := g5 s (Int.le_refl _) g2
            rw [he, hof.out hk0 (by omega)] at h1; cases h1
          have hsa2 : (0 < k ∧ (decide ((0 : Int) < k) = true) ∧ (s == a) = false) ∨ (k = 0 ∧ decide (0 < k) = false) := by
            rcases Nat.eq_zero_or_pos k with e0 | e0
            · exact .inr ⟨e0, decide_eq_false (by omega)⟩
            · exact .inl ⟨e0, decide_eq_true (by omega), by simpa using hsa e0⟩
          replace g4 := Lib.hid g4
          replace g5 := Lib.hid g5
          replace g6 := Lib.hid g6
          replace g7 := Lib.hid g7
          clear hx hdr hI9 hof hsa hse
          have HC := Lib.hid (fun w4 (hq : Keeps w1 w4) => And.intro ((hq.cell (p := ⟨b, o + k * 2, none⟩) hb).trans e0) ((hq.cell (p := ⟨b, o + k * 2 + 1, none⟩) hb).trans e1))
          clear e0 e1
          rcases hsa2 with ⟨t6, t4, t5⟩ | ⟨-, t4⟩
          all_goals
            go_upto_region 10 with fail
            go_quiet (fail)
            have HKA : Keeps (w.alloc (.cells #[.int .i64 wd, .int .i64 jn, .int .i64 cp, .int .i64 ml, .slice A n c, .int .i64 ph] 27)) (wr.drewN nq) := hkw.drewN nq
            have HKB : Keeps w1 (wr.drewN nq) := hkw1.drewN nq
            clear y0 y1 y2 y3 y4 y5 y6 y7 y8 y9 y10 y11 c0 c1 t1 t2 t3
            generalize wr.drewN nq = wq at *
            obtain ⟨y0, y1, y2, y3, y4, y5, y6, y7, y8, y9, y10, y11⟩ := HS.out _ HKA
            obtain ⟨c0, c1⟩ := HC.out _ HKB
            go_wp2_with fail
            clear y0 y1 y2 y3 y4 y5 y6 y7 y8 y9 y10 y11 c0 c1
            go_loopw [9] (fun v wr => ∃ x : Int, v = .int .i64 x ∧ a ≤ x ∧ x ≤ s ∧ Keeps (w.alloc (.cells #[.int .i64 wd, .int .i64 jn, .int .i64 cp, .int .i64 ml, .slice A n c, .int .i64 ph] 27)) wr ∧ Keeps w1 wr) (fun v _ => (s - intOf v).toNat)
            case atStart => exact ⟨a, rfl, Int.le_refl _, by omega, HKA, HKB⟩
            case round =>
              clear HKA HKB
              obtain ⟨x, rfl, hx0, hx1, hkv, hkv1⟩ := hrel
              obtain ⟨y0, y1, y2, y3, y4, y5, y6, y7, y8, y9, y10, y11⟩ := HS.out _ hkv
              obtain ⟨c0, c1⟩ := HC.out _ hkv1
              by_cases hxl : x < s
              · have hxv : on x = false := g4.out x hx0 hxl
                have KIx := Lib.hid (fun w' hk => KI.out w' x hk (by omega))
                rw [hxv] at KIx
                clear hxv
                go_wp2_with (go_at_call 14; (with_reducible refine (KIx.out _ hkv).mono ?_); rintro e3 w3 ⟨rfl, hk3⟩)
                go_roundw
                case rel => exact ⟨x + 1, by go_num, by omega, by omega, hkv.trans hk3, hkv1.trans hk3⟩
                case measure => simp [intOf]; omega
              · obtain ⟨hxs⟩ : Nonempty (s = x) := ⟨by omega⟩
                subst hxs
                have HKA := hkv
                have HKB := hkv1
                go_wp2_with fail
                clear y0 y1 y2 y3 y4 y5 y6 y7 y8 y9 y10 y11 c0 c1
                go_loopw [9] (fun v wr => ∃ x : Int, v = .int .i64 x ∧ s ≤ x ∧ x ≤ e ∧ Keeps (w.alloc (.cells #[.int .i64 wd, .int .i64 jn, .int .i64 cp, .int .i64 ml, .slice A n c, .int .i64 ph] 27)) wr ∧ Keeps w1 wr) (fun v _ => (e - intOf v).toNat)
                case atStart => exact ⟨s, rfl, Int.le_refl _, by omega, HKA, HKB⟩
                case round =>
                  clear HKA HKB
                  obtain ⟨x, rfl, hx0, hx1, hkv, hkv1⟩ := hrel
                  obtain ⟨y0, y1, y2, y3, y4, y5, y6, y7, y8, y9, y10, y11⟩ := HS.out _ hkv
                  obtain ⟨c0, c1⟩ := HC.out _ hkv1
                  by_cases hxl : x < e
                  · have hxv : on x = true := g5.out x hx0 hxl
                    have KIx := Lib.hid (fun w' hk => KI.out w' x hk (by omega))
                    rw [hxv] at KIx
                    clear hxv
                    go_wp2_with (go_at_call 14; (with_reducible refine (KIx.out _ hkv).mono ?_); rintro e3 w3 ⟨rfl, hk3⟩)
                    go_roundw
                    case rel => exact ⟨x + 1, by go_num, by omega, by omega, hkv.trans hk3, hkv1.trans hk3⟩
                    case measure => simp [intOf]; omega
                  · obtain ⟨hxe⟩ : Nonempty (e = x) := ⟨by omega⟩
                    subst hxe
                    have HKA := hkv
                    have HKB := hkv1
                    go_wp2_with fail
                    go_roundw
                    case rel => exact ⟨e, k + 1, rfl, by go_num, by omega, by omega, by omega, g7, Lib.hid (fun _ h9 => g6.out h9), hkv, hkv1⟩
                    case measure => simp [intOf]; omega
        · have hki : ¬ (k : Int) < L.length := by omega
          obtain ⟨hk9'⟩ : Nonempty (k = L.length) := ⟨by omega⟩
          rw [hk9', List.drop_length] at hI9
          have hoff := Lib.hid (show ∀ x, a ≤ x → x < long → on x = false from hI9.out)
          clear hk9' hI9 hof
          have HKA := hkw
          have HKB := hkw1
          go_wp2_with fail
          clear y0 y1 y2 y3 y4 y5 y6 y7 y8 y9 y10 y11
          go_loopw [9] (fun v wr => ∃ x : Int, v = .int .i64 x ∧ a ≤ x ∧ (x ≤ long ∨ x = a) ∧ Keeps (w.alloc (.cells #[.int .i64 wd, .int .i64 jn, .int .i64 cp, .int .i64 ml, .slice A n c, .int .i64 ph] 27)) wr ∧ Keeps w1 wr) (fun v _ => (long - intOf v).toNat)
          case atStart => exact ⟨a, rfl, Int.le_refl _, .inr rfl, HKA, HKB⟩
          case round =>
            clear HKA HKB
            obtain ⟨x, rfl, hx0, hx1, hkv, hkv1⟩ := hrel
            obtain ⟨y0, y1, y2, y3, y4, y5, y6, y7, y8, y9, y10, y11⟩ := HS.out _ hkv
            by_cases hxl : x < long
            · have hxv : on x = false := hoff.out x hx0 hxl
              have KIx := Lib.hid (fun w' hk => KI.out w' x hk (by omega))
              rw [hxv] at KIx
              clear hxv
              go_wp2_with (go_at_call 14; (with_reducible refine (KIx.out _ hkv).mono ?_); rintro e3 w3 ⟨rfl, hk3⟩)
              go_roundw
              case rel => exact ⟨x + 1, by go_num, by omega, by omega, hkv.trans hk3, hkv1.trans hk3⟩
              case measure => simp [intOf]; omega
            · have KRm := Lib.hid (fun w' hk => KR.out w' m hk (by have := hm.out; omega))
              rw [← hm.out] at KRm
              by_cases hml : m < L.length
              · have hln : (L.take m).length = m := by rw [hlm]; omega
                have hmi : most < L.length := by have := hm.out; omega
                clear hlm hlen hx0 hx1 hmx
                generalize L.take m = R at *
                have hmin : min (L.length : Int) most = most := Int.min_eq_right (by omega)
                have hq2 : (R.length : Int) = most := by rw [hln, hm.out]
                clear hln
                go_wp2_with (first | (go_at_call 16; (with_reducible refine (KRm.out _ hkv).mono ?_); rintro e5 w5 ⟨A5, c5, rfl, hP5, hk5⟩; clear hP5) | (go_at_call 11; (with_reducible refine (KX.out _).mono ?_); rintro e w2 ⟨rfl, hk2⟩))
                go_ret
                exact ⟨rfl, ((HB.out.trans hkv).trans hk5).trans hk2⟩
              · have hmi : (L.length : Int) ≤ most := by have := hm.out; omega
                have hln : L.take m = L := List.take_of_length_le (by omega)
                rw [hln] at KRm
                have hmin : min (L.length : Int) most = L.length := Int.min_eq_left (by omega)
                clear hlm hlen hx0 hx1 hmx hln hmi
                go_wp2_with (first | (go_at_call 16; (with_reducible refine (KRm.out _ hkv).mono ?_); rintro e5 w5 ⟨A5, c5, rfl, hP5, hk5⟩; clear hP5) | (go_at_call 11; (with_reducible refine (KX.out _).mono ?_); rintro e w2 ⟨rfl, hk2⟩))
                go_ret
                exact ⟨rfl, ((HB.out.trans hkv).trans hk5).trans hk2⟩

set_option maxRecDepth 100000 in
theorem lifted (os : Os) (started : os.Started) (H : Type) (enc : TypeId × Value → H) :
    ReturnsInHanded {} Try.checked os 4 .any (Rows.dashIntervalsSpec.pre6 enc Try.prog Try.f4 Rows.dashIntervalsRow.domain false) (Rows.dashIntervalsSpec.post enc Try.prog Try.f4 false true false false) := by
  refine returnsInHanded_of_change (C := Try.checked) Try.own started (by kernel_rfl) Try.func4
    (ChangeSpec.witness6 (enc := enc) (C := Try.checked) false ⟨#[], #[.agg #[.int .i64 0, .int .i64 0, .int .i64 0, .int .i64 0, .slice none 0 0, .int .i64 0], .int .i64 0, .int .u8 0], []⟩ 8 (by kernel_rfl) (by kernel_rfl) (by kernel_rfl) (by kernel_rfl)) ?_
  intro W base args ds gs before hval0 hW hcnd _
  have hval : ∀ (j : Nat) t v, Try.f4.params[j]? = some t → args[j]? = some v → Value.okWide Try.prog W .any base t v := hval0
  have hW' := hW
  obtain ⟨p, q, hA0, hV, rfl, hfz, hnd⟩ := hW
  have hA : DataW.TrodAll enc Try.prog W 0 (fun _ => true) true Try.f4.params.toList args.toList ds p := hA0
  have hAll := hA
  rw [Try.params4] at hA hval
  obtain ⟨v0, vs0, d0, ds0, p0, q0, hargs, rfl, rfl, h0, r0⟩ := trodAll_cons hA
  obtain ⟨v1, vs1, d1, ds1, p1, q1, rfl, rfl, rfl, h1, r1⟩ := trodAll_cons r0
  obtain ⟨v2, vs2, d2, ds2, p2, q2, rfl, rfl, rfl, h2, r2⟩ := trodAll_cons r1
  obtain ⟨rfl, rfl, rfl⟩ := trodAll_nil r2
  obtain rfl : args = #[v0, v1, v2] := by cases args; simp_all
  obtain ⟨rfl, rfl⟩ := trodVars_none hV
  obtain ⟨wd0, jn0, cp0, ml0, ph0, A0, n0, c0, D0, rfl, I0, B0⟩ := open_style (hval 0 27 v0 rfl rfl) h0
  obtain ⟨a1, rfl, _, _, w1⟩ := open_int Try.underlying3 (hval 1 3 v1 rfl rfl) h1
  obtain ⟨l1, u1⟩ := bounds_i64 w1
  obtain ⟨a2, rfl, _, _, w2⟩ := open_int Try.underlying5 (hval 2 5 v2 rfl rfl) h2
  obtain ⟨l2, u2⟩ := bounds_u8 w2
  clear hA0 hval0
  refine (walk wd0 jn0 cp0 ml0 ph0 A0 n0 c0 D0 a1 a2 W I0 B0 l1 u1 l2 u2).mono fun e W' ⟨he, bel⟩ => ?_
  subst he
  exact ⟨_, rfl, _, _, _, [], _, [], hW', trodAll_mk1 (shut_bool Try.underlying4 _), below_trodAll Try.laidOut bel (reads_of (by kernel_rfl)) hAll, rfl, bel.frame _, fun h => by cases h⟩

theorem over : Rows.dashIntervalsRow.holds Try.pinned (OpenSpec.ofChange Rows.dashIntervalsSpec) :=
  OpenClaim.holds_of_wide 4 Try.f4 rfl rfl rfl rfl rfl rfl rfl ⟨rfl, rfl, rfl, rfl, rfl⟩ rfl rfl rfl rfl rfl (by kernel_rfl) Try.func4 (by kernel_rfl)
    (of_decide_eq_true (by kernel_rfl)) (by unfold Func.isWrapper; first | (rw [if_pos (by decide +kernel)]; kernel_rfl) | (rw [if_neg (by decide +kernel)]; exact ⟨rfl, rfl⟩))
    (fun os started H enc _ => lifted os started H enc)

/-- The statement. -/
theorem proved : Rows.DashIntervalsSaid := over
#print axioms proved
end Go.Proofs.Ytihmhpleiefodaa.dashIntervals
