/- Contracts of package intmath and of the functions of math/bits that it calls: what each call returns and that it turns no old memory. -/
import Derived.Test.YtihmhpleiefodaaPd
import Derived.Test.YtihmhpleiefodaaShelf
import Derived.Test.YtihmhpleiefodaaWd
import Derived.WalkKit
import Derived.WalkSpells
import Derived.WalkLawsBesides
import Derived.Lib.Hide
import Derived.Deep.QuietTactic
import Derived.BigQuiet
import Derived.Deep.CutBlock
import Derived.Deep.DeepCutAuto
namespace Go.Proofs.Ytihmhpleiefodaa
open Go.RowKit

theorem lz64 (hi lo y : Nat) (w : World) (hh : hi < y) (hl : lo < 18446744073709551616) (h1 : y < 18446744073709551616) :
    Calls Try.prog 98 #[.int .u64 y] w fun e w' => ∃ s Y U L : Nat, s ≤ 63 ∧ e = .returned (.int .i64 s) ∧ w = w' ∧
      9223372036854775808 ≤ Y ∧ Y < 18446744073709551616 ∧ U < Y ∧ L < 18446744073709551616 ∧
      IntKind.u64.wrap (↑y * 2 ^ s) = (Y : Int) ∧ bits BinOp.or IntKind.u64 (IntKind.u64.wrap (↑hi * 2 ^ s)) (↑lo / 2 ^ (64 - s)) = (U : Int) ∧ IntKind.u64.wrap (↑lo * 2 ^ s) = (L : Int) ∧
      Hid (Y = y * 2 ^ s ∧ U * 18446744073709551616 + L = (hi * 18446744073709551616 + lo) * 2 ^ s) := by
  obtain ⟨b1, b2, b3, b4⟩ := lz_ok y (by omega) h1
  obtain ⟨c1, c2, c3⟩ := Dg.shifted hi lo y (64 - Lib.bitLen y) (by omega) hl hh
  refine (Try.bits_LeadingZeros64 y w (by omega) (by omega)).mono fun e w' ⟨he, hw⟩ => ?_
  refine ⟨64 - Lib.bitLen y, y * 2 ^ (64 - Lib.bitLen y), _, _, by omega, ?_, hw.symm, b3, b4, c2, Nat.mod_lt (lo * 2 ^ (64 - Lib.bitLen y)) (show 18446744073709551616 > 0 by omega), ?_, ?_, ?_, rfl, c1⟩
  · rw [he]
    have e1 : ((y : Int).toNat) = y := by omega
    rw [e1]
    congr 2
    omega
  · have e1 : (y : Int) * 2 ^ (64 - Lib.bitLen y) = ((y * 2 ^ (64 - Lib.bitLen y) : Nat) : Int) := by simp
    rw [e1, wrap_u64_id _ b4]
  · have hs : 64 - Lib.bitLen y ≤ 63 := by omega
    generalize 64 - Lib.bitLen y = s at *
    have e1 : (hi : Int) * 2 ^ s = ((hi * 2 ^ s : Nat) : Int) := by simp
    have e2 : (lo : Int) / 2 ^ (64 - s) = ((lo / 2 ^ (64 - s) : Nat) : Int) := by simp
    have hb : hi * 2 ^ s < 18446744073709551616 := Nat.lt_of_le_of_lt (Nat.le_add_right _ _) (Nat.lt_trans c2 b4)
    rw [e1, wrap_u64_id _ hb, e2, or_add_u64 _ _ _ hs hb c3]
  · have e1 : (lo : Int) * 2 ^ (64 - Lib.bitLen y) = ((lo * 2 ^ (64 - Lib.bitLen y) : Nat) : Int) := by simp
    rw [e1, wrap_u64_mod]

set_option maxRecDepth 100000 in
set_option maxHeartbeats 400000 in
theorem div64_big (hi lo y : Nat) (w : World) (hh : hi < y) (hl : lo < 18446744073709551616) (hy : y < 18446744073709551616) (h0 : 0 < hi) :
    Calls Try.prog 93 #[.int .u64 hi, .int .u64 lo, .int .u64 y] w fun e w' => e = .returned (.tuple #[.int .u64 ((hi * 18446744073709551616 + lo) / y : Nat), .int .u64 ((hi * 18446744073709551616 + lo) % y : Nat)]) ∧ w = w' := by
  have hy0 : ((y : Int) == 0) = false := by simp; omega
  have hh0 : ((hi : Int) == 0) = false := by simp; omega
  go_enter Try.func93, Try.ntmps93
  go_wp2_with fail
  refine (lz64 hi lo y _ hh hl hy).mono ?_
  rintro e w' ⟨s, Y, U, L, hs, rfl, rfl, hY1, hY2, hU, hL, eY, eU, eL, H⟩
  obtain ⟨Yh, eYh, bYh, hYh⟩ : ∃ Yh : Nat, (Y : Int) / 4294967296 = (Yh : Int) ∧ 2147483648 ≤ Yh ∧ Hid (Yh = Y / 4294967296) := ⟨Y / 4294967296, by omega, by omega, rfl⟩
  obtain ⟨Y0, eY0, bY0, hY0⟩ : ∃ Y0 : Nat, bits BinOp.and IntKind.u64 (Y : Int) 4294967295 = (Y0 : Int) ∧ Y0 < 4294967296 ∧ Hid (Y0 = Y % 4294967296) := ⟨_, and_mask32 Y hY2, by omega, rfl⟩
  obtain ⟨Lh, eLh, bLh, hLh⟩ : ∃ Lh : Nat, (L : Int) / 4294967296 = (Lh : Int) ∧ Lh < 4294967296 ∧ Hid (Lh = L / 4294967296) := ⟨L / 4294967296, by omega, by omega, rfl⟩
  obtain ⟨L0, eL0, bL0, hL0⟩ : ∃ L0 : Nat, bits BinOp.and IntKind.u64 (L : Int) 4294967295 = (L0 : Int) ∧ L0 < 4294967296 ∧ Hid (L0 = L % 4294967296) := ⟨_, and_mask32 L hL, by omega, rfl⟩
  obtain ⟨q, eq, bq, hq⟩ : ∃ q : Nat, (U : Int) / (Yh : Int) = (q : Int) ∧ q ≤ 4294967297 ∧ Hid (q = U / Yh) := ⟨U / Yh, by simp, by rw [hYh.out]; exact Dg.start_le hU hY1, rfl⟩
  obtain ⟨m, em, bm, hm⟩ : ∃ m : Nat, (q : Int) * (Yh : Int) = (m : Int) ∧ m ≤ U ∧ Hid (U - m = U % Yh) := ⟨q * Yh, by simp, by rw [hq.out]; exact Nat.div_mul_le_self U Yh, by
    rw [hq.out]; have := Nat.div_add_mod' U Yh; unfold Hid; omega⟩
  have RD := Lib.hid (fun q r => @Dg.round U Lh Y q r hY1 hY2 hU bLh)
  have HI := Lib.hid (Dg.inv_start hY1 hY2 hU bLh)
  have hU2 : Dg.rt U Lh Y < Y := Dg.rt_lt (by omega)
  have RD2 := Lib.hid (fun q r => @Dg.round (Dg.rt U Lh Y) L0 Y q r hY1 hY2 hU2 bL0)
  have HI2 := Lib.hid (Dg.inv_start hY1 hY2 hU2 bL0)
  have HR := Lib.hid (@Dg.rest_eq U Lh Y (by omega) hY2)
  have HR2 := Lib.hid (@Dg.rest_eq (Dg.rt U Lh Y) L0 Y (by omega) hY2)
  have HU2 := Lib.hid hU2
  clear hU2
  go_upto_block 0 with fail
  clear eY eU eL eY0 eYh eL0 eLh eq em
  go_cut [15] (fun x wx => ∃ Q : Nat, x = .int .u64 Q ∧ Hid (Q = Dg.qt U Lh Y) ∧ w = wx)
  case first =>
    go_wp2_with fail
    go_loop [15, 16] (fun x z => ∃ q r : Nat, x = .int .u64 q ∧ z = .int .u64 r ∧ Hid (Dg.Inv U Lh Y q r)) (fun x _ => (intOf x).toNat)
    case atStart =>
      refine ⟨q, U - m, rfl, by go_num, ?_⟩
      rw [hm.out, hq.out, hYh.out]; exact HI.out
    case round =>
      obtain ⟨q, r, rfl, rfl, hr⟩ := hrel
      obtain ⟨m', v, q', r', e1, e2, e3, e4, h5, h6⟩ := RD.out q r hr.out
      rw [← hYh.out] at e2
      rw [← hY0.out] at e3
      have H5 := Lib.hid h5
      have H6 := Lib.hid h6
      clear h5 h6
      by_cases hc : 4294967296 ≤ q
      · have H := H5.out (.inl hc)
        rw [if_neg (by omega)] at e1
        have eT : decide ((4294967296 : Int) ≤ (q : Int)) = true := by simp; omega
        have HC := Lib.hid hc
        clear hc
        obtain ⟨hq0, hq1, hbk, hgo⟩ := H
        have HB := Lib.hid hbk
        have HG := Lib.hid hgo
        clear hbk hgo
        by_cases hd : 4294967296 ≤ r'
        · have eD : decide ((4294967296 : Int) ≤ (r' : Int)) = true := by simp; omega
          have HD := Lib.hid hd
          clear hd
          go_wp2_with fail
          go_meet
          exact ⟨_, rfl, HB.out HD.out, rfl⟩
        · have eD : decide ((4294967296 : Int) ≤ (r' : Int)) = false := by simp; omega
          have HD := Lib.hid hd
          clear hd
          go_wp2_with fail
          go_round
          case rel => exact ⟨q', r', rfl, rfl, HG.out (Nat.lt_of_not_le HD.out)⟩
          case measure => simp [intOf]; omega
      · have eT : decide ((4294967296 : Int) ≤ (q : Int)) = false := by simp; omega
        by_cases hv : v < m'
        · have H := H5.out (.inr hv)
          have hqz : ¬ q = 0 := by omega
          rw [if_neg hqz] at e1
          have HC := Lib.hid hc
          clear hc hqz
          obtain ⟨hq0, hq1, hbk, hgo⟩ := H
          have HB := Lib.hid hbk
          have HG := Lib.hid hgo
          clear hbk hgo
          by_cases hd : 4294967296 ≤ r'
          · have eD : decide ((4294967296 : Int) ≤ (r' : Int)) = true := by simp; omega
            have HD := Lib.hid hd
            clear hd
            go_wp2_with fail
            go_meet
            exact ⟨_, rfl, HB.out HD.out, rfl⟩
          · have eD : decide ((4294967296 : Int) ≤ (r' : Int)) = false := by simp; omega
            have HD := Lib.hid hd
            clear hd
            go_wp2_with fail
            go_round
            case rel => exact ⟨q', r', rfl, rfl, HG.out (Nat.lt_of_not_le HD.out)⟩
            case measure => simp [intOf]; omega
        · have HC := Lib.hid hc
          clear hc
          clear e1
          go_wp2_with fail
          go_meet
          exact ⟨_, rfl, H6.out (Nat.lt_of_not_le HC.out) (Nat.le_of_not_lt hv), rfl⟩
  case rest =>
    obtain ⟨Q, rfl, hQ, rfl⟩ := hcut
    obtain ⟨R, eR, hR⟩ : ∃ R : Nat, IntKind.u64.wrap (IntKind.u64.wrap (IntKind.u64.wrap ((U : Int) * 4294967296) + (Lh : Int)) - IntKind.u64.wrap ((Q : Int) * (Y : Int))) = (R : Int) ∧ Hid (R = Dg.rt U Lh Y) :=
      ⟨_, by rw [hQ.out]; exact HR.out, rfl⟩
    rw [← hR.out] at RD2 HI2 HR2 HU2
    obtain ⟨q2, eq2, bq2, hq2⟩ : ∃ q : Nat, (R : Int) / (Yh : Int) = (q : Int) ∧ q ≤ 4294967297 ∧ Hid (q = R / Yh) := ⟨R / Yh, by simp, by rw [hYh.out]; exact Dg.start_le HU2.out hY1, rfl⟩
    obtain ⟨m2, em2, bm2, hm2⟩ : ∃ m : Nat, (q2 : Int) * (Yh : Int) = (m : Int) ∧ m ≤ R ∧ Hid (R - m = R % Yh) := ⟨q2 * Yh, by simp, by rw [hq2.out]; exact Nat.div_mul_le_self R Yh, by
      rw [hq2.out]; have := Nat.div_add_mod' R Yh; unfold Hid; omega⟩
    have bR : R < 18446744073709551616 := Nat.lt_trans HU2.out hY2
    go_upto_block 2 with fail
    clear eR eq2 em2
    go_cut [18] (fun x wx => ∃ Q2 : Nat, x = .int .u64 Q2 ∧ Hid (Q2 = Dg.qt R L0 Y) ∧ w = wx)
    case first =>
      go_wp2_with fail
      go_loop [16, 18] (fun z x => ∃ q r : Nat, x = .int .u64 q ∧ z = .int .u64 r ∧ Hid (Dg.Inv R L0 Y q r)) (fun _ x => (intOf x).toNat)
      case atStart =>
        refine ⟨q2, R - m2, rfl, by go_num, ?_⟩
        rw [hm2.out, hq2.out, hYh.out]; exact HI2.out
      case round =>
        obtain ⟨q, r, rfl, rfl, hr⟩ := hrel
        obtain ⟨m', v, q', r', e1, e2, e3, e4, h5, h6⟩ := RD2.out q r hr.out
        rw [← hYh.out] at e2
        rw [← hY0.out] at e3
        have H5 := Lib.hid h5
        have H6 := Lib.hid h6
        clear h5 h6
        by_cases hc : 4294967296 ≤ q
        · have H := H5.out (.inl hc)
          rw [if_neg (by omega)] at e1
          have eT : decide ((4294967296 : Int) ≤ (q : Int)) = true := by simp; omega
          have HC := Lib.hid hc
          clear hc
          obtain ⟨hq0, hq1, hbk, hgo⟩ := H
          have HB := Lib.hid hbk
          have HG := Lib.hid hgo
          clear hbk hgo
          by_cases hd : 4294967296 ≤ r'
          · have eD : decide ((4294967296 : Int) ≤ (r' : Int)) = true := by simp; omega
            have HD := Lib.hid hd
            clear hd
            go_wp2_with fail
            go_meet
            exact ⟨_, rfl, HB.out HD.out, rfl⟩
          · have eD : decide ((4294967296 : Int) ≤ (r' : Int)) = false := by simp; omega
            have HD := Lib.hid hd
            clear hd
            go_wp2_with fail
            go_round
            case rel => exact ⟨q', r', rfl, rfl, HG.out (Nat.lt_of_not_le HD.out)⟩
            case measure => simp [intOf]; omega
        · have eT : decide ((4294967296 : Int) ≤ (q : Int)) = false := by simp; omega
          by_cases hv : v < m'
          · have H := H5.out (.inr hv)
            have hqz : ¬ q = 0 := by omega
            rw [if_neg hqz] at e1
            have HC := Lib.hid hc
            clear hc hqz
            obtain ⟨hq0, hq1, hbk, hgo⟩ := H
            have HB := Lib.hid hbk
            have HG := Lib.hid hgo
            clear hbk hgo
            by_cases hd : 4294967296 ≤ r'
            · have eD : decide ((4294967296 : Int) ≤ (r' : Int)) = true := by simp; omega
              have HD := Lib.hid hd
              clear hd
              go_wp2_with fail
              go_meet
              exact ⟨_, rfl, HB.out HD.out, rfl⟩
            · have eD : decide ((4294967296 : Int) ≤ (r' : Int)) = false := by simp; omega
              have HD := Lib.hid hd
              clear hd
              go_wp2_with fail
              go_round
              case rel => exact ⟨q', r', rfl, rfl, HG.out (Nat.lt_of_not_le HD.out)⟩
              case measure => simp [intOf]; omega
          · have HC := Lib.hid hc
            clear hc
            clear e1
            go_wp2_with fail
            go_meet
            exact ⟨_, rfl, H6.out (Nat.lt_of_not_le HC.out) (Nat.le_of_not_lt hv), rfl⟩
    case rest =>
      obtain ⟨Q2, rfl, hQ2, rfl⟩ := hcut
      go_wp2_with fail
      go_ret2
      refine ⟨?_, rfl⟩
      obtain ⟨f1, f2⟩ := Dg.fin hi lo y s L Lh L0 Q R Q2 (by omega) hY2 hU hL H.out hLh.out hL0.out hQ.out hR.out hQ2.out
      rw [← f1, ← f2]
      rfl

set_option maxRecDepth 100000 in
set_option maxHeartbeats 400000 in
theorem div64_small (lo y : Nat) (w : World) (hl : lo < 18446744073709551616) (hy : y < 18446744073709551616) (h0 : 0 < y) :
    Calls Try.prog 93 #[.int .u64 0, .int .u64 lo, .int .u64 y] w fun e w' => e = .returned (.tuple #[.int .u64 (lo / y : Nat), .int .u64 (lo % y : Nat)]) ∧ ∃ n, w' = w.drewN n := by
  have hy0 : ((y : Int) == 0) = false := by simp; omega
  have hq : lo / y < 18446744073709551616 := Nat.lt_of_le_of_lt (Nat.div_le_self _ _) hl
  obtain ⟨q, eq, bq, hq⟩ : ∃ q : Nat, (lo : Int) / (y : Int) = (q : Int) ∧ q < 18446744073709551616 ∧ Hid (q = lo / y) := ⟨lo / y, by simp, hq, rfl⟩
  go_enter Try.func93, Try.ntmps93
  go_wp2_with fail
  go_quiet (fail)
  go_wp2_with fail
  go_ret2
  refine ⟨?_, nq, rfl⟩
  rw [← hq.out, Int.natCast_emod]
  rfl

theorem div64_any (hi lo y : Nat) (w : World) (hh : hi < y) (hl : lo < 18446744073709551616) (hy : y < 18446744073709551616) :
    Calls Try.prog 93 #[.int .u64 hi, .int .u64 lo, .int .u64 y] w fun e w' => e = .returned (.tuple #[.int .u64 ((hi * 18446744073709551616 + lo) / y : Nat), .int .u64 ((hi * 18446744073709551616 + lo) % y : Nat)]) ∧ Below w.heap.size w w' := by
  rcases Nat.eq_zero_or_pos hi with h0 | h0
  · subst h0
    refine (div64_small lo y w hl hy hh).mono fun e w' ⟨he, n, hw⟩ => ?_
    subst hw
    refine ⟨?_, below_drewN (Below.refl _ _) n⟩
    rw [he, Nat.zero_mul, Nat.zero_add]
  · refine (div64_big hi lo y w hh hl hy h0).mono fun e w' ⟨he, hw⟩ => ?_
    subst hw
    exact ⟨he, Below.refl _ _⟩
end Go.Proofs.Ytihmhpleiefodaa
