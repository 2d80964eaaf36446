/- LinejoinMiterTip of grisaillelaw23 returns true for all its arguments; no condition. -/
import Derived.Test.YtdodgnpjlicnoaaE23
import Derived.Test.YtdodgnpjlicnoaaJk
import Derived.Test.YtdodgnpjlicnoaaJc
import Derived.Test.YtdodgnpjlicnoaaOp
import Derived.Test.YtdodgnpjlicnoaaKk
namespace Go.Proofs.Ytdodgnpjlicnoaa.linejoinMiterTip
open Go.RowKit Go.ChangeShapes Go.WideShapes Go.ChangeAt
set_option linter.unusedVariables false
open Go.Proofs.Ytdodgnpjlicnoaa
set_option linter.unusedSimpArgs false
set_option maxRecDepth 100000 in
set_option maxHeartbeats 4000000 in
theorem walk (nx ny mx my k0 k1 k2 : Int) (w : World) (l0 : -9223372036854775808 ≤ nx) (u0 : nx ≤ 9223372036854775807) (l1 : -9223372036854775808 ≤ ny) (u1 : ny ≤ 9223372036854775807) (l2 : -9223372036854775808 ≤ mx) (u2 : mx ≤ 9223372036854775807) (l3 : -9223372036854775808 ≤ my) (u3 : my ≤ 9223372036854775807) (l4 : -9223372036854775808 ≤ k0) (u4 : k0 ≤ 9223372036854775807) (l5 : -9223372036854775808 ≤ k1) (u5 : k1 ≤ 9223372036854775807) (l6 : -9223372036854775808 ≤ k2) (u6 : k2 ≤ 9223372036854775807) :
    Calls Try.prog 7 #[.agg #[.int .i64 nx, .int .i64 ny], .agg #[.int .i64 mx, .int .i64 my], .agg #[.int .i64 k0, .int .i64 k1, .int .i64 k2]] w fun e w' => e = .returned (.bool true) ∧ Below w.heap.size w w' := by
  have g3 := ptGuard
  have g4 := ptEql
  have g5 := ptNeq
  have HS := Lib.hid (show ∀ w', Keeps (((w.alloc (.cells #[.int .i64 nx, .int .i64 ny] 23)).alloc (.cells #[.int .i64 mx, .int .i64 my] 23)).alloc (.cells #[.int .i64 k0, .int .i64 k1, .int .i64 k2] 41)) w' → w'.cell? ⟨w.heap.size, 0, none⟩ = some (.int .i64 nx) ∧ w'.frozen? ⟨w.heap.size, 0, none⟩ = false ∧ w'.cell? ⟨w.heap.size, 1, none⟩ = some (.int .i64 ny) ∧ w'.frozen? ⟨w.heap.size, 1, none⟩ = false ∧ w'.cell? ⟨w.heap.size + 1, 0, none⟩ = some (.int .i64 mx) ∧ w'.frozen? ⟨w.heap.size + 1, 0, none⟩ = false ∧ w'.cell? ⟨w.heap.size + 1, 1, none⟩ = some (.int .i64 my) ∧ w'.frozen? ⟨w.heap.size + 1, 1, none⟩ = false ∧ w'.cell? ⟨w.heap.size + 1 + 1, 0, none⟩ = some (.int .i64 k0) ∧ w'.frozen? ⟨w.heap.size + 1 + 1, 0, none⟩ = false ∧ w'.cell? ⟨w.heap.size + 1 + 1, 1, none⟩ = some (.int .i64 k1) ∧ w'.frozen? ⟨w.heap.size + 1 + 1, 1, none⟩ = false ∧ w'.cell? ⟨w.heap.size + 1 + 1, 2, none⟩ = some (.int .i64 k2) ∧ w'.frozen? ⟨w.heap.size + 1 + 1, 2, none⟩ = false from fun w' hk => ⟨(hk.cell (p := ⟨w.heap.size, 0, none⟩) (by first | (simp; done) | (simp; omega))).trans (by simp [go_sem]), (hk.frozen (p := ⟨w.heap.size, 0, none⟩) (by first | (simp; done) | (simp; omega))).trans (by simp [go_sem]), (hk.cell (p := ⟨w.heap.size, 1, none⟩) (by first | (simp; done) | (simp; omega))).trans (by simp [go_sem]), (hk.frozen (p := ⟨w.heap.size, 1, none⟩) (by first | (simp; done) | (simp; omega))).trans (by simp [go_sem]), (hk.cell (p := ⟨w.heap.size + 1, 0, none⟩) (by first | (simp; done) | (simp; omega))).trans (by simp [go_sem]), (hk.frozen (p := ⟨w.heap.size + 1, 0, none⟩) (by first | (simp; done) | (simp; omega))).trans (by simp [go_sem]), (hk.cell (p := ⟨w.heap.size + 1, 1, none⟩) (by first | (simp; done) | (simp; omega))).trans (by simp [go_sem]), (hk.frozen (p := ⟨w.heap.size + 1, 1, none⟩) (by first | (simp; done) | (simp; omega))).trans (by simp [go_sem]), (hk.cell (p := ⟨w.heap.size + 1 + 1, 0, none⟩) (by first | (simp; done) | (simp; omega))).trans (by simp [go_sem]), (hk.frozen (p := ⟨w.heap.size + 1 + 1, 0, none⟩) (by first | (simp; done) | (simp; omega))).trans (by simp [go_sem]), (hk.cell (p := ⟨w.heap.size + 1 + 1, 1, none⟩) (by first | (simp; done) | (simp; omega))).trans (by simp [go_sem]), (hk.frozen (p := ⟨w.heap.size + 1 + 1, 1, none⟩) (by first | (simp; done) | (simp; omega))).trans (by simp [go_sem]), (hk.cell (p := ⟨w.heap.size + 1 + 1, 2, none⟩) (by first | (simp; done) | (simp; omega))).trans (by simp [go_sem]), (hk.frozen (p := ⟨w.heap.size + 1 + 1, 2, none⟩) (by first | (simp; done) | (simp; omega))).trans (by simp [go_sem])⟩)
  have HB := Lib.hid (show Keeps w (((w.alloc (.cells #[.int .i64 nx, .int .i64 ny] 23)).alloc (.cells #[.int .i64 mx, .int .i64 my] 23)).alloc (.cells #[.int .i64 k0, .int .i64 k1, .int .i64 k2] 41)) from (by (repeat (first | (with_reducible exact Keeps.refl _) | (with_reducible assumption) | (with_reducible refine Keeps.drewN ?_ _) | (with_reducible refine Keeps.drew ?_) | (with_reducible refine Keeps.alloc ?_ _) | (with_reducible refine Keeps.setNew ?_ ?_ _))) <;> (dsimp only; omega)))
  have hk0 := Keeps.refl (((w.alloc (.cells #[.int .i64 nx, .int .i64 ny] 23)).alloc (.cells #[.int .i64 mx, .int .i64 my] 23)).alloc (.cells #[.int .i64 k0, .int .i64 k1, .int .i64 k2] 41))
  have K9 := Lib.hid (fun w => example23_any w)
  obtain ⟨lo, hlo⟩ : ∃ lo, min k1 k2 = lo := ⟨_, rfl⟩
  obtain ⟨hi, hhi⟩ : ∃ hi, max k1 k2 = hi := ⟨_, rfl⟩
  have hlh : lo ≤ hi := by omega
  have m1 := fun (w : World) (ts : Array TypeId) (t : TypeId) => Lib.run_min_ints (P := Try.prog) w ts t .i64 .i64 k1 k2
  have m2 := fun (w : World) (ts : Array TypeId) (t : TypeId) => Lib.run_max_ints (P := Try.prog) w ts t .i64 .i64 k1 k2
  rw [hlo] at m1
  rw [hhi] at m2
  have KL := Lib.hid (fun w => ltip_any (nx, ny) (mx, my) k0 lo w)
  have KHi := Lib.hid (fun w => ltip_any (nx, ny) (mx, my) k0 hi w)
  have KS := Lib.hid (fun w => ltip_any (mx, my) (nx, ny) k0 lo w)
  have KG := Lib.hid (fun w => ltip_any (negP (nx, ny)) (negP (mx, my)) k0 lo w)
  rw [tipB_swap (nx, ny) (mx, my), tipP_swap (nx, ny) (mx, my)] at KS
  rw [(tip_neg (nx, ny) (mx, my) k0 lo).1, (tip_neg (nx, ny) (mx, my) k0 lo).2] at KG
  have hmono := fun h => tipB_mono (nx, ny) (mx, my) k0 lo hi h hlh
  have hmonoP := fun h => tipP_mono (nx, ny) (mx, my) k0 lo hi h hlh
  have hplace := tip_place (nx, ny) (mx, my) k0 lo
  have hyes := fun h => tip_yes (n := (nx, ny)) (m := (mx, my)) (v := k0) (l := lo) h
  have hno : tipB (nx, ny) (mx, my) k0 lo = false → tipP (nx, ny) (mx, my) k0 lo = pt0 := fun h => by unfold tipP; rw [h]; rfl
  have HSc := Lib.hid (show ∀ w', Keeps (((w.alloc (.cells #[.int .i64 nx, .int .i64 ny] 23)).alloc (.cells #[.int .i64 mx, .int .i64 my] 23)).alloc (.cells #[.int .i64 k0, .int .i64 k1, .int .i64 k2] 41)) w' → w'.cell? ⟨w.heap.size, 0, none⟩ = some (.int .i64 nx) ∧ w'.cell? ⟨w.heap.size, 1, none⟩ = some (.int .i64 ny) ∧ w'.cell? ⟨w.heap.size + 1, 0, none⟩ = some (.int .i64 mx) ∧ w'.cell? ⟨w.heap.size + 1, 1, none⟩ = some (.int .i64 my) ∧ w'.cell? ⟨w.heap.size + 1 + 1, 0, none⟩ = some (.int .i64 k0) ∧ w'.cell? ⟨w.heap.size + 1 + 1, 1, none⟩ = some (.int .i64 k1) ∧ w'.cell? ⟨w.heap.size + 1 + 1, 2, none⟩ = some (.int .i64 k2) from fun w' hk => by
    obtain ⟨y0, -, y1, -, y2, -, y3, -, y4, -, y5, -, y6, -⟩ := HS.out w' hk
    exact ⟨y0, y1, y2, y3, y4, y5, y6⟩)
  have hk := hk0
  have hlo := Lib.hid hlo
  have hhi := Lib.hid hhi
  clear HS l0 u0 l1 u1 l2 u2 l3 u3 l4 u4 l5 u5 l6 u6 hlh
  generalize tipP (nx, ny) (mx, my) k0 lo = T at *
  generalize tipP (nx, ny) (mx, my) k0 hi = U at *
  generalize tipB (nx, ny) (mx, my) k0 hi = BU at *
  have q1 : (T.1 == T.1) = true := beq_self_eq_true _
  have q2 : (T.2 == T.2) = true := beq_self_eq_true _
  obtain ⟨y0, y1, y2, y3, y4, y5, y6⟩ := HSc.out _ hk
  cases hb : tipB (nx, ny) (mx, my) k0 lo with
  | false =>
    obtain rfl := hno hb
    rw [hb] at KL KS
    rw [show pt0.1 = 0 from rfl, show pt0.2 = 0 from rfl] at KL KS
    clear hmono hmonoP hplace hyes hno hb KG q1 q2
    go_enter Try.func7, Try.ntmps7
    go_wp2_with fail
    go_quiet (fail)
    obtain ⟨y0, y1, y2, y3, y4, y5, y6⟩ := HSc.out _ (hk.drewN 1)
    go_wp2_with (first | (go_at_call 16; (with_reducible refine (KL.out _).mono ?_); rintro e w1 ⟨rfl, hk1⟩; replace hk := Keeps.alloc (Keeps.trans (by first | exact hk | exact hk.drewN _) hk1) (.cells #[.int .i64 0, .int .i64 0] 23); obtain ⟨y0, y1, y2, y3, y4, y5, y6⟩ := HSc.out _ hk; have hka1 := hk1.alloc (.cells #[.int .i64 0, .int .i64 0] 23); have HT := Lib.hid (show ∀ w', Keeps (w1.alloc (.cells #[.int .i64 0, .int .i64 0] 23)) w' → w'.cell? ⟨w1.heap.size, 0, none⟩ = some (.int .i64 0) ∧ w'.cell? ⟨w1.heap.size, 1, none⟩ = some (.int .i64 0) from fun w' hq => ⟨(hq.cell (p := ⟨w1.heap.size, 0, none⟩) (by first | (simp; done) | (simp; omega))).trans (by simp [go_sem]), (hq.cell (p := ⟨w1.heap.size, 1, none⟩) (by first | (simp; done) | (simp; omega))).trans (by simp [go_sem])⟩); skip) | (go_at_call 16; (with_reducible refine (KHi.out _).mono ?_); rintro e w2 ⟨rfl, hk2⟩; replace hk := Keeps.alloc (Keeps.trans (by first | exact hk | exact hk.drewN _) hk2) (.cells #[.int .i64 U.1, .int .i64 U.2] 23); obtain ⟨y0, y1, y2, y3, y4, y5, y6⟩ := HSc.out _ hk; have hka2 := hk2.alloc (.cells #[.int .i64 U.1, .int .i64 U.2] 23); have HU := Lib.hid (show ∀ w', Keeps (w2.alloc (.cells #[.int .i64 U.1, .int .i64 U.2] 23)) w' → w'.cell? ⟨w2.heap.size, 0, none⟩ = some (.int .i64 U.1) ∧ w'.cell? ⟨w2.heap.size, 1, none⟩ = some (.int .i64 U.2) from fun w' hq => ⟨(hq.cell (p := ⟨w2.heap.size, 0, none⟩) (by first | (simp; done) | (simp; omega))).trans (by simp [go_sem]), (hq.cell (p := ⟨w2.heap.size, 1, none⟩) (by first | (simp; done) | (simp; omega))).trans (by simp [go_sem])⟩); skip) | (go_at_call 16; (with_reducible refine (KS.out _).mono ?_); rintro e w3 ⟨rfl, hk3⟩; replace hk := Keeps.alloc (Keeps.trans (by first | exact hk | exact hk.drewN _) hk3) (.cells #[.int .i64 0, .int .i64 0] 23); obtain ⟨y0, y1, y2, y3, y4, y5, y6⟩ := HSc.out _ hk; have hka3 := hk3.alloc (.cells #[.int .i64 0, .int .i64 0] 23); have HV := Lib.hid (show ∀ w', Keeps (w3.alloc (.cells #[.int .i64 0, .int .i64 0] 23)) w' → w'.cell? ⟨w3.heap.size, 0, none⟩ = some (.int .i64 0) ∧ w'.cell? ⟨w3.heap.size, 1, none⟩ = some (.int .i64 0) from fun w' hq => ⟨(hq.cell (p := ⟨w3.heap.size, 0, none⟩) (by first | (simp; done) | (simp; omega))).trans (by simp [go_sem]), (hq.cell (p := ⟨w3.heap.size, 1, none⟩) (by first | (simp; done) | (simp; omega))).trans (by simp [go_sem])⟩); obtain ⟨v0, v1⟩ := HT.out _ (hka2.trans hka3); obtain ⟨v2, v3⟩ := HU.out _ hka3) | (go_at_call 15; (with_reducible refine (keepk (K9.out _) hk).mono ?_); rintro e w9 ⟨rfl, hk⟩) | fail "ARM")
    go_ret
    exact ⟨rfl, HB.out.trans hk⟩
  | true =>
    obtain ⟨h1, h2, h3, h4, h5, h6, h7⟩ := hyes hb
    obtain ⟨a, b, x, y, ea, eb, rfl, ba, bb, bx, by1, p1, p2, c1, c2⟩ := hplace hb
    have hn := (vP_bd h1).2.2
    have hm := (vP_bd h2).2.2
    have KAd := fun w => radd_any nx ny mx my w
    rw [show hc nx = nx from (vP_bd h1).1, show hc ny = ny from (vP_bd h1).2.1, show hc mx = mx from (vP_bd h2).1, show hc my = my from (vP_bd h2).2.1] at KAd
    dsimp only at ea eb hn hm
    rw [ea, eb] at KAd
    have KAd := Lib.hid KAd
    rw [hb] at KL KS KG
    dsimp only [negP] at KL KS KG q1 q2
    have q3 : (-x == -x) = true := beq_self_eq_true _
    have q4 : (-y == -y) = true := beq_self_eq_true _
    have qm : ∀ z t : Int, (-134217729 ≤ z ∧ z ≤ 134217729) → (-2097152 ≤ t ∧ t ≤ 2097152) → -281474978807808 ≤ z * t ∧ z * t ≤ 281474978807808 := fun z t hz ht => by
      have := Nat.mul_le_mul (show z.natAbs ≤ 134217729 by omega) (show t.natAbs ≤ 2097152 by omega)
      rw [← Int.natAbs_mul] at this; omega
    obtain ⟨XA, hXA⟩ : ∃ XA, x * a = XA := ⟨_, rfl⟩
    obtain ⟨YB, hYB⟩ : ∃ YB, y * b = YB := ⟨_, rfl⟩
    obtain ⟨XB, hXB⟩ : ∃ XB, x * b = XB := ⟨_, rfl⟩
    obtain ⟨YA, hYA⟩ : ∃ YA, y * a = YA := ⟨_, rfl⟩
    have b1 := qm x a bx ba
    have b2 := qm y b by1 bb
    have b3 := qm x b bx bb
    have b4 := qm y a by1 ba
    rw [hXA] at b1 p1
    rw [hYB] at b2 p2
    rw [hXB] at b3 c1 c2
    rw [hYA] at b4 c1 c2
    obtain ⟨C, hC⟩ : ∃ C, XB - YA = C := ⟨_, rfl⟩
    rw [hC] at c1 c2
    obtain ⟨MA, hMA⟩ : ∃ MA, max a (-a) = MA := ⟨_, rfl⟩
    obtain ⟨MB, hMB⟩ : ∃ MB, max b (-b) = MB := ⟨_, rfl⟩
    obtain ⟨MC, hMC⟩ : ∃ MC, max C (-C) = MC := ⟨_, rfl⟩
    rw [hMA, hMB] at c1 c2
    obtain ⟨SM, hSM⟩ : ∃ SM, MA + MB = SM := ⟨_, rfl⟩
    have t1 : decide (MC ≤ SM) = true := decide_eq_true (by omega)
    have t2 : decide (0 ≤ XA) = true := decide_eq_true p1
    have t3 : decide (0 ≤ YB) = true := decide_eq_true p2
    have t4 : MC ≤ SM := by omega
    have w1 : IntKind.i64.wrap XA = XA := i64_in _ (by omega)
    have w2 : IntKind.i64.wrap YB = YB := i64_in _ (by omega)
    have w3 : IntKind.i64.wrap XB = XB := i64_in _ (by omega)
    have w4 : IntKind.i64.wrap YA = YA := i64_in _ (by omega)
    have w5 : IntKind.i64.wrap C = C := i64_in _ (by omega)
    have w6 : IntKind.i64.wrap (-C) = -C := i64_in _ (by omega)
    have w7 : IntKind.i64.wrap (-a) = -a := i64_in _ (by omega)
    have w8 : IntKind.i64.wrap (-b) = -b := i64_in _ (by omega)
    have w9 : IntKind.i64.wrap SM = SM := i64_in _ (by omega)
    have n1 : IntKind.i64.wrap (-nx) = -nx := i64_in _ (by omega)
    have n2 : IntKind.i64.wrap (-ny) = -ny := i64_in _ (by omega)
    have n3 : IntKind.i64.wrap (-mx) = -mx := i64_in _ (by omega)
    have n4 : IntKind.i64.wrap (-my) = -my := i64_in _ (by omega)
    have n5 : IntKind.i64.wrap (-x) = -x := i64_in _ (by omega)
    have n6 : IntKind.i64.wrap (-y) = -y := i64_in _ (by omega)
    have m3 := fun (w : World) (ts : Array TypeId) (t : TypeId) => Lib.run_max_ints (P := Try.prog) w ts t .i64 .i64 a (-a)
    have m4 := fun (w : World) (ts : Array TypeId) (t : TypeId) => Lib.run_max_ints (P := Try.prog) w ts t .i64 .i64 b (-b)
    have m5 := fun (w : World) (ts : Array TypeId) (t : TypeId) => Lib.run_max_ints (P := Try.prog) w ts t .i64 .i64 C (-C)
    rw [hMA] at m3
    rw [hMB] at m4
    rw [hMC] at m5
    have hMM := Lib.hid (And.intro hMA (And.intro hMB hMC))
    have hh6 := Lib.hid (hmono hb)
    have hh7 := Lib.hid (hmonoP hb)
    clear hmono hmonoP hplace hyes hno hb h1 h2 h3 h4 h5 h6 h7 ea eb ba bb bx by1 c1 c2 qm b1 b2 b3 b4 hMA hMB hMC hn hm p1 p2
    by_cases hh : hi ≤ 65536
    · obtain rfl : BU = true := hh6.out hh
      obtain rfl : U = (x, y) := hh7.out hh
      have t5 : decide (hi ≤ 65536) = true := decide_eq_true hh
      dsimp only at KHi
      clear hh6 hh7
      go_enter Try.func7, Try.ntmps7
      go_wp2_with fail
      go_quiet (fail)
      obtain ⟨y0, y1, y2, y3, y4, y5, y6⟩ := HSc.out _ (hk.drewN 1)
      go_wp2_with (first | (go_at_call 16; (with_reducible refine (KL.out _).mono ?_); rintro e w1 ⟨rfl, hk1⟩; replace hk := Keeps.alloc (Keeps.trans (by first | exact hk | exact hk.drewN _) hk1) (.cells #[.int .i64 x, .int .i64 y] 23); obtain ⟨y0, y1, y2, y3, y4, y5, y6⟩ := HSc.out _ hk; have hka1 := hk1.alloc (.cells #[.int .i64 x, .int .i64 y] 23); have HT := Lib.hid (show ∀ w', Keeps (w1.alloc (.cells #[.int .i64 x, .int .i64 y] 23)) w' → w'.cell? ⟨w1.heap.size, 0, none⟩ = some (.int .i64 x) ∧ w'.cell? ⟨w1.heap.size, 1, none⟩ = some (.int .i64 y) from fun w' hq => ⟨(hq.cell (p := ⟨w1.heap.size, 0, none⟩) (by first | (simp; done) | (simp; omega))).trans (by simp [go_sem]), (hq.cell (p := ⟨w1.heap.size, 1, none⟩) (by first | (simp; done) | (simp; omega))).trans (by simp [go_sem])⟩); skip) | (go_at_call 16; (with_reducible refine (KHi.out _).mono ?_); rintro e w2 ⟨rfl, hk2⟩; replace hk := Keeps.alloc (Keeps.trans (by first | exact hk | exact hk.drewN _) hk2) (.cells #[.int .i64 x, .int .i64 y] 23); obtain ⟨y0, y1, y2, y3, y4, y5, y6⟩ := HSc.out _ hk; have hka2 := hk2.alloc (.cells #[.int .i64 x, .int .i64 y] 23); have HU := Lib.hid (show ∀ w', Keeps (w2.alloc (.cells #[.int .i64 x, .int .i64 y] 23)) w' → w'.cell? ⟨w2.heap.size, 0, none⟩ = some (.int .i64 x) ∧ w'.cell? ⟨w2.heap.size, 1, none⟩ = some (.int .i64 y) from fun w' hq => ⟨(hq.cell (p := ⟨w2.heap.size, 0, none⟩) (by first | (simp; done) | (simp; omega))).trans (by simp [go_sem]), (hq.cell (p := ⟨w2.heap.size, 1, none⟩) (by first | (simp; done) | (simp; omega))).trans (by simp [go_sem])⟩); skip) | (go_at_call 16; (with_reducible refine (KS.out _).mono ?_); rintro e w3 ⟨rfl, hk3⟩; replace hk := Keeps.alloc (Keeps.trans (by first | exact hk | exact hk.drewN _) hk3) (.cells #[.int .i64 x, .int .i64 y] 23); obtain ⟨y0, y1, y2, y3, y4, y5, y6⟩ := HSc.out _ hk; have hka3 := hk3.alloc (.cells #[.int .i64 x, .int .i64 y] 23); have HV := Lib.hid (show ∀ w', Keeps (w3.alloc (.cells #[.int .i64 x, .int .i64 y] 23)) w' → w'.cell? ⟨w3.heap.size, 0, none⟩ = some (.int .i64 x) ∧ w'.cell? ⟨w3.heap.size, 1, none⟩ = some (.int .i64 y) from fun w' hq => ⟨(hq.cell (p := ⟨w3.heap.size, 0, none⟩) (by first | (simp; done) | (simp; omega))).trans (by simp [go_sem]), (hq.cell (p := ⟨w3.heap.size, 1, none⟩) (by first | (simp; done) | (simp; omega))).trans (by simp [go_sem])⟩); obtain ⟨v0, v1⟩ := HT.out _ (hka2.trans hka3); obtain ⟨v2, v3⟩ := HU.out _ hka3) | (go_at_call 16; (with_reducible refine (KG.out _).mono ?_); rintro e w4 ⟨rfl, hk4⟩; replace hk := Keeps.alloc (Keeps.trans (by first | exact hk | exact hk.drewN _) hk4) (.cells #[.int .i64 (-x), .int .i64 (-y)] 23); obtain ⟨y0, y1, y2, y3, y4, y5, y6⟩ := HSc.out _ hk; have hka4 := hk4.alloc (.cells #[.int .i64 (-x), .int .i64 (-y)] 23); have HX := Lib.hid (show ∀ w', Keeps (w4.alloc (.cells #[.int .i64 (-x), .int .i64 (-y)] 23)) w' → w'.cell? ⟨w4.heap.size, 0, none⟩ = some (.int .i64 (-x)) ∧ w'.cell? ⟨w4.heap.size, 1, none⟩ = some (.int .i64 (-y)) from fun w' hq => ⟨(hq.cell (p := ⟨w4.heap.size, 0, none⟩) (by first | (simp; done) | (simp; omega))).trans (by simp [go_sem]), (hq.cell (p := ⟨w4.heap.size, 1, none⟩) (by first | (simp; done) | (simp; omega))).trans (by simp [go_sem])⟩); obtain ⟨v0, v1⟩ := HT.out _ (hka2.trans (hka3.trans hka4))) | (go_at_call 22; (with_reducible refine (KAd.out _).mono ?_); rintro e w5 ⟨rfl, hk5⟩; replace hk := (hk.trans hk5).alloc (.cells #[.int .i64 a, .int .i64 b] 23); have hka5 := hk5.alloc (.cells #[.int .i64 a, .int .i64 b] 23); obtain ⟨v0, v1⟩ := HT.out _ (hka2.trans (hka3.trans (hka4.trans hka5)))) | (go_at_call 15; (with_reducible refine (keepk (K9.out _) hk).mono ?_); rintro e w9 ⟨rfl, hk⟩) | fail "ARM")
      go_ret
      exact ⟨rfl, HB.out.trans hk⟩
    · have t5 : decide (hi ≤ 65536) = false := decide_eq_false hh
      clear hh6 hh7
      go_enter Try.func7, Try.ntmps7
      go_wp2_with fail
      go_quiet (fail)
      obtain ⟨y0, y1, y2, y3, y4, y5, y6⟩ := HSc.out _ (hk.drewN 1)
      go_wp2_with (first | (go_at_call 16; (with_reducible refine (KL.out _).mono ?_); rintro e w1 ⟨rfl, hk1⟩; replace hk := Keeps.alloc (Keeps.trans (by first | exact hk | exact hk.drewN _) hk1) (.cells #[.int .i64 x, .int .i64 y] 23); obtain ⟨y0, y1, y2, y3, y4, y5, y6⟩ := HSc.out _ hk; have hka1 := hk1.alloc (.cells #[.int .i64 x, .int .i64 y] 23); have HT := Lib.hid (show ∀ w', Keeps (w1.alloc (.cells #[.int .i64 x, .int .i64 y] 23)) w' → w'.cell? ⟨w1.heap.size, 0, none⟩ = some (.int .i64 x) ∧ w'.cell? ⟨w1.heap.size, 1, none⟩ = some (.int .i64 y) from fun w' hq => ⟨(hq.cell (p := ⟨w1.heap.size, 0, none⟩) (by first | (simp; done) | (simp; omega))).trans (by simp [go_sem]), (hq.cell (p := ⟨w1.heap.size, 1, none⟩) (by first | (simp; done) | (simp; omega))).trans (by simp [go_sem])⟩); skip) | (go_at_call 16; (with_reducible refine (KHi.out _).mono ?_); rintro e w2 ⟨rfl, hk2⟩; replace hk := Keeps.alloc (Keeps.trans (by first | exact hk | exact hk.drewN _) hk2) (.cells #[.int .i64 U.1, .int .i64 U.2] 23); obtain ⟨y0, y1, y2, y3, y4, y5, y6⟩ := HSc.out _ hk; have hka2 := hk2.alloc (.cells #[.int .i64 U.1, .int .i64 U.2] 23); have HU := Lib.hid (show ∀ w', Keeps (w2.alloc (.cells #[.int .i64 U.1, .int .i64 U.2] 23)) w' → w'.cell? ⟨w2.heap.size, 0, none⟩ = some (.int .i64 U.1) ∧ w'.cell? ⟨w2.heap.size, 1, none⟩ = some (.int .i64 U.2) from fun w' hq => ⟨(hq.cell (p := ⟨w2.heap.size, 0, none⟩) (by first | (simp; done) | (simp; omega))).trans (by simp [go_sem]), (hq.cell (p := ⟨w2.heap.size, 1, none⟩) (by first | (simp; done) | (simp; omega))).trans (by simp [go_sem])⟩); skip) | (go_at_call 16; (with_reducible refine (KS.out _).mono ?_); rintro e w3 ⟨rfl, hk3⟩; replace hk := Keeps.alloc (Keeps.trans (by first | exact hk | exact hk.drewN _) hk3) (.cells #[.int .i64 x, .int .i64 y] 23); obtain ⟨y0, y1, y2, y3, y4, y5, y6⟩ := HSc.out _ hk; have hka3 := hk3.alloc (.cells #[.int .i64 x, .int .i64 y] 23); have HV := Lib.hid (show ∀ w', Keeps (w3.alloc (.cells #[.int .i64 x, .int .i64 y] 23)) w' → w'.cell? ⟨w3.heap.size, 0, none⟩ = some (.int .i64 x) ∧ w'.cell? ⟨w3.heap.size, 1, none⟩ = some (.int .i64 y) from fun w' hq => ⟨(hq.cell (p := ⟨w3.heap.size, 0, none⟩) (by first | (simp; done) | (simp; omega))).trans (by simp [go_sem]), (hq.cell (p := ⟨w3.heap.size, 1, none⟩) (by first | (simp; done) | (simp; omega))).trans (by simp [go_sem])⟩); obtain ⟨v0, v1⟩ := HT.out _ (hka2.trans hka3); obtain ⟨v2, v3⟩ := HU.out _ hka3) | (go_at_call 16; (with_reducible refine (KG.out _).mono ?_); rintro e w4 ⟨rfl, hk4⟩; replace hk := Keeps.alloc (Keeps.trans (by first | exact hk | exact hk.drewN _) hk4) (.cells #[.int .i64 (-x), .int .i64 (-y)] 23); obtain ⟨y0, y1, y2, y3, y4, y5, y6⟩ := HSc.out _ hk; have hka4 := hk4.alloc (.cells #[.int .i64 (-x), .int .i64 (-y)] 23); have HX := Lib.hid (show ∀ w', Keeps (w4.alloc (.cells #[.int .i64 (-x), .int .i64 (-y)] 23)) w' → w'.cell? ⟨w4.heap.size, 0, none⟩ = some (.int .i64 (-x)) ∧ w'.cell? ⟨w4.heap.size, 1, none⟩ = some (.int .i64 (-y)) from fun w' hq => ⟨(hq.cell (p := ⟨w4.heap.size, 0, none⟩) (by first | (simp; done) | (simp; omega))).trans (by simp [go_sem]), (hq.cell (p := ⟨w4.heap.size, 1, none⟩) (by first | (simp; done) | (simp; omega))).trans (by simp [go_sem])⟩); obtain ⟨v0, v1⟩ := HT.out _ (hka2.trans (hka3.trans hka4))) | (go_at_call 22; (with_reducible refine (KAd.out _).mono ?_); rintro e w5 ⟨rfl, hk5⟩; replace hk := (hk.trans hk5).alloc (.cells #[.int .i64 a, .int .i64 b] 23); have hka5 := hk5.alloc (.cells #[.int .i64 a, .int .i64 b] 23); obtain ⟨v0, v1⟩ := HT.out _ (hka2.trans (hka3.trans (hka4.trans hka5)))) | (go_at_call 15; (with_reducible refine (keepk (K9.out _) hk).mono ?_); rintro e w9 ⟨rfl, hk⟩) | fail "ARM")
      go_ret
      exact ⟨rfl, HB.out.trans hk⟩

set_option maxRecDepth 100000 in
theorem lifted (os : Os) (started : os.Started) (H : Type) (enc : TypeId × Value → H) :
    ReturnsInHanded {} Try.checked os 7 .any (Rows.linejoinMiterTipSpec.pre6 enc Try.prog Try.f7 Rows.linejoinMiterTipRow.domain false) (Rows.linejoinMiterTipSpec.post enc Try.prog Try.f7 false true false false) := by
  refine returnsInHanded_of_change (C := Try.checked) Try.own started (by kernel_rfl) Try.func7
    (ChangeSpec.witness6 (enc := enc) (C := Try.checked) false ⟨#[], #[.agg #[.int .i64 0, .int .i64 0], .agg #[.int .i64 0, .int .i64 0], .agg #[.int .i64 0, .int .i64 0, .int .i64 0]], []⟩ 8 (by kernel_rfl) (by kernel_rfl) (by kernel_rfl) (by kernel_rfl)) ?_
  intro W base args ds gs before hval0 hW hcnd _
  have hval : ∀ (j : Nat) t v, Try.f7.params[j]? = some t → args[j]? = some v → Value.okWide Try.prog W .any base t v := hval0
  have hW' := hW
  obtain ⟨p, q, hA0, hV, rfl, hfz, hnd⟩ := hW
  have hA : DataW.TrodAll enc Try.prog W 0 (fun _ => true) true Try.f7.params.toList args.toList ds p := hA0
  have hAll := hA
  rw [Try.params7] at hA hval
  obtain ⟨v0, vs0, d0, ds0, p0, q0, hargs, rfl, rfl, h0, r0⟩ := trodAll_cons hA
  obtain ⟨v1, vs1, d1, ds1, p1, q1, rfl, rfl, rfl, h1, r1⟩ := trodAll_cons r0
  obtain ⟨v2, vs2, d2, ds2, p2, q2, rfl, rfl, rfl, h2, r2⟩ := trodAll_cons r1
  obtain ⟨rfl, rfl, rfl⟩ := trodAll_nil r2
  obtain rfl : args = #[v0, v1, v2] := by cases args; simp_all
  obtain ⟨rfl, rfl⟩ := trodVars_none hV
  obtain ⟨c0, rfl, L0_0⟩ := open_flat (ks := [some .i64, some .i64]) (by kernel_rfl) (by kernel_rfl) (hval 0 23 v0 rfl rfl) h0
  obtain ⟨_, c0_0, rfl, ⟨a0_0, rfl, w0_0⟩, L0_1⟩ := leafs_cons L0_0
  obtain ⟨l0_0, u0_0⟩ := bounds_i64 w0_0
  obtain ⟨_, c0_1, rfl, ⟨a0_1, rfl, w0_1⟩, L0_2⟩ := leafs_cons L0_1
  obtain ⟨l0_1, u0_1⟩ := bounds_i64 w0_1
  obtain rfl := leafs_nil L0_2
  obtain ⟨c1, rfl, L1_0⟩ := open_flat (ks := [some .i64, some .i64]) (by kernel_rfl) (by kernel_rfl) (hval 1 23 v1 rfl rfl) h1
  obtain ⟨_, c1_0, rfl, ⟨a1_0, rfl, w1_0⟩, L1_1⟩ := leafs_cons L1_0
  obtain ⟨l1_0, u1_0⟩ := bounds_i64 w1_0
  obtain ⟨_, c1_1, rfl, ⟨a1_1, rfl, w1_1⟩, L1_2⟩ := leafs_cons L1_1
  obtain ⟨l1_1, u1_1⟩ := bounds_i64 w1_1
  obtain rfl := leafs_nil L1_2
  obtain ⟨c2, rfl, L2_0⟩ := open_flat (ks := [some .i64, some .i64, some .i64]) (by kernel_rfl) (by kernel_rfl) (hval 2 41 v2 rfl rfl) h2
  obtain ⟨_, c2_0, rfl, ⟨a2_0, rfl, w2_0⟩, L2_1⟩ := leafs_cons L2_0
  obtain ⟨l2_0, u2_0⟩ := bounds_i64 w2_0
  obtain ⟨_, c2_1, rfl, ⟨a2_1, rfl, w2_1⟩, L2_2⟩ := leafs_cons L2_1
  obtain ⟨l2_1, u2_1⟩ := bounds_i64 w2_1
  obtain ⟨_, c2_2, rfl, ⟨a2_2, rfl, w2_2⟩, L2_3⟩ := leafs_cons L2_2
  obtain ⟨l2_2, u2_2⟩ := bounds_i64 w2_2
  obtain rfl := leafs_nil L2_3
  clear hA0 hval0
  refine (walk a0_0 a0_1 a1_0 a1_1 a2_0 a2_1 a2_2 W l0_0 u0_0 l0_1 u0_1 l1_0 u1_0 l1_1 u1_1 l2_0 u2_0 l2_1 u2_1 l2_2 u2_2).mono fun e W' ⟨he, bel⟩ => ?_
  subst he
  exact ⟨_, rfl, _, _, _, [], _, [], hW', trodAll_mk1 (shut_bool Try.underlying4 _), below_trodAll Try.laidOut bel (reads_of (by kernel_rfl)) hAll, rfl, bel.frame _, fun h => by cases h⟩

theorem over : Rows.linejoinMiterTipRow.holds Try.pinned (OpenSpec.ofChange Rows.linejoinMiterTipSpec) :=
  OpenClaim.holds_of_wide 7 Try.f7 rfl rfl rfl rfl rfl rfl rfl ⟨rfl, rfl, rfl, rfl, rfl⟩ rfl rfl rfl rfl rfl (by kernel_rfl) Try.func7 (by kernel_rfl)
    (of_decide_eq_true (by kernel_rfl)) (by unfold Func.isWrapper; first | (rw [if_pos (by decide +kernel)]; kernel_rfl) | (rw [if_neg (by decide +kernel)]; exact ⟨rfl, rfl⟩))
    (fun os started H enc _ => lifted os started H enc)

/-- The statement. -/
theorem proved : Rows.LinejoinMiterTipSaid := over
#print axioms proved
end Go.Proofs.Ytdodgnpjlicnoaa.linejoinMiterTip
