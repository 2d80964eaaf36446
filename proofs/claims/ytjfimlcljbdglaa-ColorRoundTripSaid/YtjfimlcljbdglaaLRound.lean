/- ColorRoundTrip of grisaillelaw27 returns true for all its arguments: every color, every two pixels, every byte; no condition. -/
import Derived.Test.YtjfimlcljbdglaaE27
import Derived.Test.YtjfimlcljbdglaaRt
import Derived.Test.YtjfimlcljbdglaaBx
import Derived.Test.YtjfimlcljbdglaaOp
import Derived.Test.YtjfimlcljbdglaaKk
namespace Go.Proofs.Ytjfimlcljbdglaa.colorRoundTrip
open Go.RowKit Go.ChangeShapes Go.WideShapes Go.ChangeAt
set_option linter.unusedVariables false
open Go.Proofs.Ytjfimlcljbdglaa
set_option linter.unusedSimpArgs false
set_option maxRecDepth 100000 in
set_option maxHeartbeats 4000000 in
theorem walkN (p q r t : Nat) (x0 x1 x2 x3 y0 y1 y2 y3 k : Int) (w : World) (hp : p < 256) (hq : q < 256) (hr : r < 256) (ht : t < 256) (lx0 : 0 ≤ x0) (ux0 : x0 ≤ 255) (lx1 : 0 ≤ x1) (ux1 : x1 ≤ 255) (lx2 : 0 ≤ x2) (ux2 : x2 ≤ 255) (lx3 : 0 ≤ x3) (ux3 : x3 ≤ 255) (ly0 : 0 ≤ y0) (uy0 : y0 ≤ 255) (ly1 : 0 ≤ y1) (uy1 : y1 ≤ 255) (ly2 : 0 ≤ y2) (uy2 : y2 ≤ 255) (ly3 : 0 ≤ y3) (uy3 : y3 ≤ 255) (lk : 0 ≤ k) (uk : k ≤ 255) :
    Calls Try.prog 10 #[.agg #[.int .u8 (p : Int), .int .u8 (q : Int), .int .u8 (r : Int), .int .u8 (t : Int)], .agg #[.int .u8 x0, .int .u8 x1, .int .u8 x2, .int .u8 x3, .int .u8 y0, .int .u8 y1, .int .u8 y2, .int .u8 y3], .int .u8 k] w fun e w' => e = .returned (.bool true) ∧ Below w.heap.size w w' := by
  have g1 := pxGuard
  have g2 := pxEql
  have g3 := coGuard
  have g4 := coEql
  have vk : u8b k := ⟨lk, uk⟩
  have v0 : u8b x0 := ⟨lx0, ux0⟩
  have v1 : u8b x1 := ⟨lx1, ux1⟩
  have v2 : u8b x2 := ⟨lx2, ux2⟩
  have v3 : u8b x3 := ⟨lx3, ux3⟩
  have z0 : u8b y0 := ⟨ly0, uy0⟩
  have z1 : u8b y1 := ⟨ly1, uy1⟩
  have z2 : u8b y2 := ⟨ly2, uy2⟩
  have z3 : u8b y3 := ⟨ly3, uy3⟩
  have cp : u8b (p : Int) := by unfold u8b; omega
  have cq : u8b (q : Int) := by unfold u8b; omega
  have cr : u8b (r : Int) := by unfold u8b; omega
  have ct : u8b (t : Int) := by unfold u8b; omega
  have C1 := Lib.hid (fun w => clampc_any x0 x1 x2 x3 w v0 v1 v2 v3)
  have C2 := Lib.hid (fun w => clampc_any y0 y1 y2 y3 w z0 z1 z2 z3)
  have f0 : u8b (min x0 x3) ∧ min x0 x3 ≤ x3 := by unfold u8b at *; omega
  have f1 : u8b (min x1 x3) ∧ min x1 x3 ≤ x3 := by unfold u8b at *; omega
  have f2 : u8b (min x2 x3) ∧ min x2 x3 ≤ x3 := by unfold u8b at *; omega
  have i0 : u8b (min y0 y3) ∧ min y0 y3 ≤ y3 := by unfold u8b at *; omega
  have i1 : u8b (min y1 y3) ∧ min y1 y3 ≤ y3 := by unfold u8b at *; omega
  have i2 : u8b (min y2 y3) ∧ min y2 y3 ≤ y3 := by unfold u8b at *; omega
  clear lx0 ux0 lx1 ux1 lx2 ux2 lx3 ux3 ly0 uy0 ly1 uy1 ly2 uy2 ly3 uy3 lk uk v0 v1 v2 z0 z1 z2
  generalize min x0 x3 = a0 at *
  generalize min x1 x3 = a1 at *
  generalize min x2 x3 = a2 at *
  generalize min y0 y3 = n0 at *
  generalize min y1 y3 = n1 at *
  generalize min y2 y3 = n2 at *
  have P1 := Lib.hid (fun w => prem_any (p : Int) (q : Int) (r : Int) (t : Int) w cp cq cr ct)
  have m0 := mn8_bd (p : Int) t cp.1 cp.2 ct.1 ct.2
  have m1 := mn8_bd (q : Int) t cq.1 cq.2 ct.1 ct.2
  have m2 := mn8_bd (r : Int) t cr.1 cr.2 ct.1 ct.2
  generalize mn8 (p : Int) t = e0 at *
  generalize mn8 (q : Int) t = e1 at *
  generalize mn8 (r : Int) t = e2 at *
  obtain ⟨s0, s1, s2, s3, B1, B2⟩ := back_any e0 e1 e2 t ⟨m0.1, by have := ct.2; omega⟩ ⟨m1.1, by have := ct.2; omega⟩ ⟨m2.1, by have := ct.2; omega⟩ ct m0.2.2 m1.2.2 m2.2.2
  obtain ⟨o0, o1, o2, o3, B3, B4⟩ := back_any a0 a1 a2 x3 f0.1 f1.1 f2.1 v3 f0.2 f1.2 f2.2
  have B5 := fun w => scale_any a0 a1 a2 x3 k w f0.1 f1.1 f2.1 v3 vk
  have B6 := fun w => scale_valid a0 a1 a2 x3 k w f0.1 f1.1 f2.1 v3 vk f0.2 f1.2 f2.2
  have B7 := fun w => clerp_any a0 a1 a2 x3 n0 n1 n2 y3 k w f0.1 f1.1 f2.1 v3 i0.1 i1.1 i2.1 z3 vk
  have B8 := fun w => lerp_valid a0 a1 a2 x3 n0 n1 n2 y3 k w f0.1 f1.1 f2.1 v3 i0.1 i1.1 i2.1 z3 vk f0.2 f1.2 f2.2 i0.2 i1.2 i2.2
  have q1 := eq4_refl e0 e1 e2 (t : Int)
  have q2 := eq4_refl (p : Int) q r t
  have q3 := eq4_refl a0 a1 a2 x3
  have F1 := Lib.hid (fun w => format_any p q r t w hp hq hr ht)
  have F2 := Lib.hid (fun w => parse_format p q r t w hp hq hr ht)
  generalize strB (fmtL p q r t) = S at *
  generalize mn8 a0 k = c0 at *
  generalize mn8 a1 k = c1 at *
  generalize mn8 a2 k = c2 at *
  generalize mn8 x3 k = c3 at *
  generalize lp8 a0 n0 k = d0 at *
  generalize lp8 a1 n1 k = d1 at *
  generalize lp8 a2 n2 k = d2 at *
  generalize lp8 x3 y3 k = d3 at *
  clear m0 m1 m2 f0 f1 f2 i0 i1 i2 vk v3 z3 cp cq cr ct hp hq hr ht
  have HS := Lib.hid (show ∀ w', Keeps ((w.alloc (.cells #[.int .u8 (p : Int), .int .u8 (q : Int), .int .u8 (r : Int), .int .u8 (t : Int)] 23)).alloc (.cells #[.int .u8 x0, .int .u8 x1, .int .u8 x2, .int .u8 x3, .int .u8 y0, .int .u8 y1, .int .u8 y2, .int .u8 y3] 47)) w' → w'.cell? ⟨w.heap.size, 0, none⟩ = some (.int .u8 (p : Int)) ∧ w'.frozen? ⟨w.heap.size, 0, none⟩ = false ∧ w'.cell? ⟨w.heap.size, 1, none⟩ = some (.int .u8 (q : Int)) ∧ w'.frozen? ⟨w.heap.size, 1, none⟩ = false ∧ w'.cell? ⟨w.heap.size, 2, none⟩ = some (.int .u8 (r : Int)) ∧ w'.frozen? ⟨w.heap.size, 2, none⟩ = false ∧ w'.cell? ⟨w.heap.size, 3, none⟩ = some (.int .u8 (t : Int)) ∧ w'.frozen? ⟨w.heap.size, 3, none⟩ = false ∧ w'.cell? ⟨w.heap.size + 1, 0, none⟩ = some (.int .u8 x0) ∧ w'.frozen? ⟨w.heap.size + 1, 0, none⟩ = false ∧ w'.cell? ⟨w.heap.size + 1, 1, none⟩ = some (.int .u8 x1) ∧ w'.frozen? ⟨w.heap.size + 1, 1, none⟩ = false ∧ w'.cell? ⟨w.heap.size + 1, 2, none⟩ = some (.int .u8 x2) ∧ w'.frozen? ⟨w.heap.size + 1, 2, none⟩ = false ∧ w'.cell? ⟨w.heap.size + 1, 3, none⟩ = some (.int .u8 x3) ∧ w'.frozen? ⟨w.heap.size + 1, 3, none⟩ = false ∧ w'.cell? ⟨w.heap.size + 1, 4, none⟩ = some (.int .u8 y0) ∧ w'.frozen? ⟨w.heap.size + 1, 4, none⟩ = false ∧ w'.cell? ⟨w.heap.size + 1, 5, none⟩ = some (.int .u8 y1) ∧ w'.frozen? ⟨w.heap.size + 1, 5, none⟩ = false ∧ w'.cell? ⟨w.heap.size + 1, 6, none⟩ = some (.int .u8 y2) ∧ w'.frozen? ⟨w.heap.size + 1, 6, none⟩ = false ∧ w'.cell? ⟨w.heap.size + 1, 7, none⟩ = some (.int .u8 y3) ∧ w'.frozen? ⟨w.heap.size + 1, 7, none⟩ = false from fun w' hk => ⟨(hk.cell (p := ⟨w.heap.size, 0, none⟩) (by first | (simp; done) | (simp; omega))).trans (by simp [go_sem]), (hk.frozen (p := ⟨w.heap.size, 0, none⟩) (by first | (simp; done) | (simp; omega))).trans (by simp [go_sem]), (hk.cell (p := ⟨w.heap.size, 1, none⟩) (by first | (simp; done) | (simp; omega))).trans (by simp [go_sem]), (hk.frozen (p := ⟨w.heap.size, 1, none⟩) (by first | (simp; done) | (simp; omega))).trans (by simp [go_sem]), (hk.cell (p := ⟨w.heap.size, 2, none⟩) (by first | (simp; done) | (simp; omega))).trans (by simp [go_sem]), (hk.frozen (p := ⟨w.heap.size, 2, none⟩) (by first | (simp; done) | (simp; omega))).trans (by simp [go_sem]), (hk.cell (p := ⟨w.heap.size, 3, none⟩) (by first | (simp; done) | (simp; omega))).trans (by simp [go_sem]), (hk.frozen (p := ⟨w.heap.size, 3, none⟩) (by first | (simp; done) | (simp; omega))).trans (by simp [go_sem]), (hk.cell (p := ⟨w.heap.size + 1, 0, none⟩) (by first | (simp; done) | (simp; omega))).trans (by simp [go_sem]), (hk.frozen (p := ⟨w.heap.size + 1, 0, none⟩) (by first | (simp; done) | (simp; omega))).trans (by simp [go_sem]), (hk.cell (p := ⟨w.heap.size + 1, 1, none⟩) (by first | (simp; done) | (simp; omega))).trans (by simp [go_sem]), (hk.frozen (p := ⟨w.heap.size + 1, 1, none⟩) (by first | (simp; done) | (simp; omega))).trans (by simp [go_sem]), (hk.cell (p := ⟨w.heap.size + 1, 2, none⟩) (by first | (simp; done) | (simp; omega))).trans (by simp [go_sem]), (hk.frozen (p := ⟨w.heap.size + 1, 2, none⟩) (by first | (simp; done) | (simp; omega))).trans (by simp [go_sem]), (hk.cell (p := ⟨w.heap.size + 1, 3, none⟩) (by first | (simp; done) | (simp; omega))).trans (by simp [go_sem]), (hk.frozen (p := ⟨w.heap.size + 1, 3, none⟩) (by first | (simp; done) | (simp; omega))).trans (by simp [go_sem]), (hk.cell (p := ⟨w.heap.size + 1, 4, none⟩) (by first | (simp; done) | (simp; omega))).trans (by simp [go_sem]), (hk.frozen (p := ⟨w.heap.size + 1, 4, none⟩) (by first | (simp; done) | (simp; omega))).trans (by simp [go_sem]), (hk.cell (p := ⟨w.heap.size + 1, 5, none⟩) (by first | (simp; done) | (simp; omega))).trans (by simp [go_sem]), (hk.frozen (p := ⟨w.heap.size + 1, 5, none⟩) (by first | (simp; done) | (simp; omega))).trans (by simp [go_sem]), (hk.cell (p := ⟨w.heap.size + 1, 6, none⟩) (by first | (simp; done) | (simp; omega))).trans (by simp [go_sem]), (hk.frozen (p := ⟨w.heap.size + 1, 6, none⟩) (by first | (simp; done) | (simp; omega))).trans (by simp [go_sem]), (hk.cell (p := ⟨w.heap.size + 1, 7, none⟩) (by first | (simp; done) | (simp; omega))).trans (by simp [go_sem]), (hk.frozen (p := ⟨w.heap.size + 1, 7, none⟩) (by first | (simp; done) | (simp; omega))).trans (by simp [go_sem])⟩)
  have HB := Lib.hid (show Keeps w ((w.alloc (.cells #[.int .u8 (p : Int), .int .u8 (q : Int), .int .u8 (r : Int), .int .u8 (t : Int)] 23)).alloc (.cells #[.int .u8 x0, .int .u8 x1, .int .u8 x2, .int .u8 x3, .int .u8 y0, .int .u8 y1, .int .u8 y2, .int .u8 y3] 47)) from (by (repeat (first | (with_reducible exact Keeps.refl _) | (with_reducible assumption) | (with_reducible refine Keeps.drewN ?_ _) | (with_reducible refine Keeps.drew ?_) | (with_reducible refine Keeps.alloc ?_ _) | (with_reducible refine Keeps.setNew ?_ ?_ _))) <;> (dsimp only; omega)))
  have hk0 := Keeps.refl ((w.alloc (.cells #[.int .u8 (p : Int), .int .u8 (q : Int), .int .u8 (r : Int), .int .u8 (t : Int)] 23)).alloc (.cells #[.int .u8 x0, .int .u8 x1, .int .u8 x2, .int .u8 x3, .int .u8 y0, .int .u8 y1, .int .u8 y2, .int .u8 y3] 47))
  go_enter Try.func10, Try.ntmps10
  go_wp2_with fail
  refine wp_region_steps (by kernel_rfl) (fun L a w' => ∃ (b0 b1 b2 b3 b4 b5 b6 b7 b8 b9 : Bool), L = #[b0, b1, b2, b3, b4, b5, b6, b7, b8, b9] ∧ ∃ (p0 p1 : Nat), a = { tmps := #[.agg #[.int .u8 (p : Int), .int .u8 (q : Int), .int .u8 (r : Int), .int .u8 (t : Int)], .agg #[.int .u8 x0, .int .u8 x1, .int .u8 x2, .int .u8 x3, .int .u8 y0, .int .u8 y1, .int .u8 y2, .int .u8 y3], .int .u8 k, .pointer (some ⟨w.heap.size, 0, none⟩), .pointer (some ⟨w.heap.size + 1, 0, none⟩), undef, .bool false, if b6 then .pointer (some ⟨p0, 0, none⟩) else undef, if b7 then .pointer (some ⟨p1, 0, none⟩) else undef, undef, undef, undef, if b0 then .pointer (some ⟨w.heap.size + 1, 0, none⟩) else undef, if b1 then .agg #[.int .u8 x0, .int .u8 x1, .int .u8 x2, .int .u8 x3] else undef, if b2 then .agg #[.int .u8 a0, .int .u8 a1, .int .u8 a2, .int .u8 x3] else undef, if b3 then .pointer (some ⟨w.heap.size + 1, 4, none⟩) else undef, if b4 then .agg #[.int .u8 y0, .int .u8 y1, .int .u8 y2, .int .u8 y3] else undef, if b5 then .agg #[.int .u8 n0, .int .u8 n1, .int .u8 n2, .int .u8 y3] else undef, undef, undef, undef, undef, undef, undef, undef, undef, undef, undef, undef, undef, undef, undef, undef, undef, undef, undef, undef, undef, undef, undef, undef, undef, undef, undef, undef, undef, undef, undef, undef, undef, undef, undef, undef, undef, undef, undef, undef, undef, undef, undef, undef, undef, undef], defers := [] } ∧ Keeps (((w.alloc (.cells #[.int .u8 (p : Int), .int .u8 (q : Int), .int .u8 (r : Int), .int .u8 (t : Int)] 23)).alloc (.cells #[.int .u8 x0, .int .u8 x1, .int .u8 x2, .int .u8 x3, .int .u8 y0, .int .u8 y1, .int .u8 y2, .int .u8 y3] 47))) w' ∧ Box4 b6 (w.heap.size + 1 + 1) (p0) (.int .u8 (if b8 then a0 else 0)) (.int .u8 (if b8 then a1 else 0)) (.int .u8 (if b8 then a2 else 0)) (.int .u8 (if b8 then x3 else 0)) w' ∧ Box4 b7 (w.heap.size + 1 + 1) (p1) (.int .u8 (if b9 then n0 else 0)) (.int .u8 (if b9 then n1 else 0)) (.int .u8 (if b9 then n2 else 0)) (.int .u8 (if b9 then y3 else 0)) w' ∧ (b6 = true → b7 = true → p0 ≠ p1) ∧ (b6 = false → b8 = false) ∧ (b7 = false → b9 = false)) 10 (by kernel_rfl) ?_ ?_ ?_
  · exact ⟨false, false, false, false, false, false, false, false, false, false, rfl, 0, 0, rfl, hk0.drew, Box4.none, Box4.none, (fun h => by cases h), (fun _ => rfl), (fun _ => rfl)⟩
  · refine (InvSteps.cons rfl ?_ (InvSteps.cons rfl ?_ (InvSteps.cons rfl ?_ (InvSteps.cons rfl ?_ (InvSteps.cons rfl ?_ (InvSteps.cons rfl ?_ (InvSteps.cons rfl ?_ (InvSteps.cons rfl ?_ (InvSteps.cons rfl ?_ (InvSteps.cons rfl ?_ InvSteps.nil))))))))))
    all_goals rintro L a w' ⟨b0, b1, b2, b3, b4, b5, b6, b7, b8, b9, rfl, p0, p1, rfl, hk, HA0, HA1, D0_1, Z0, Z1⟩ hl hd K hK
    all_goals (simp [Region.binds] at hl hd; simp only [List.getElem_toArray, List.getElem_cons_zero, List.getElem_cons_succ])
    · subst hl; (repeat (rcases hd with ⟨hq, hd⟩; first | subst hq | clear hq)); (first | subst hd | clear hd | skip)
      go_simp
      exact hK.out _ _ ⟨true, _, _, _, _, _, _, _, _, _, rfl, p0, p1, rfl, hk, HA0, HA1, D0_1, Z0, Z1⟩
    · subst hl; (repeat (rcases hd with ⟨hq, hd⟩; first | subst hq | clear hq)); (first | subst hd | clear hd | skip)
      obtain ⟨Y0, Y1, Y2, Y3, Y4, Y5, Y6, Y7, Y8, Y9, Y10, Y11, Y12, Y13, Y14, Y15, Y16, Y17, Y18, Y19, Y20, Y21, Y22, Y23⟩ := HS.out _ hk
      go_simp
      exact hK.out _ _ ⟨_, true, _, _, _, _, _, _, _, _, rfl, p0, p1, rfl, hk, HA0, HA1, D0_1, Z0, Z1⟩
    · subst hl; (repeat (rcases hd with ⟨hq, hd⟩; first | subst hq | clear hq)); (first | subst hd | clear hd | skip)
      go_simp
      go_at_call 22; (with_reducible refine (C1.out _).mono ?_); rintro e w1 ⟨rfl, hk1⟩
      exact hK.out _ _ ⟨_, _, true, _, _, _, _, _, _, _, rfl, p0, p1, rfl, hk.trans hk1, HA0.keeps hk1, HA1.keeps hk1, D0_1, Z0, Z1⟩
    · subst hl; (repeat (rcases hd with ⟨hq, hd⟩; first | subst hq | clear hq)); (first | subst hd | clear hd | skip)
      go_simp
      exact hK.out _ _ ⟨_, _, _, true, _, _, _, _, _, _, rfl, p0, p1, rfl, hk, HA0, HA1, D0_1, Z0, Z1⟩
    · subst hl; (repeat (rcases hd with ⟨hq, hd⟩; first | subst hq | clear hq)); (first | subst hd | clear hd | skip)
      obtain ⟨Y0, Y1, Y2, Y3, Y4, Y5, Y6, Y7, Y8, Y9, Y10, Y11, Y12, Y13, Y14, Y15, Y16, Y17, Y18, Y19, Y20, Y21, Y22, Y23⟩ := HS.out _ hk
      go_simp
      exact hK.out _ _ ⟨_, _, _, _, true, _, _, _, _, _, rfl, p0, p1, rfl, hk, HA0, HA1, D0_1, Z0, Z1⟩
    · subst hl; (repeat (rcases hd with ⟨hq, hd⟩; first | subst hq | clear hq)); (first | subst hd | clear hd | skip)
      go_simp
      go_at_call 22; (with_reducible refine (C2.out _).mono ?_); rintro e w1 ⟨rfl, hk1⟩
      exact hK.out _ _ ⟨_, _, _, _, _, true, _, _, _, _, rfl, p0, p1, rfl, hk.trans hk1, HA0.keeps hk1, HA1.keeps hk1, D0_1, Z0, Z1⟩
    · subst hl; obtain rfl := Z0 rfl
      have hs := hk.size; simp at hs
      go_simp
      exact hK.out _ _ ⟨_, _, _, _, _, _, true, _, _, _, rfl, w'.heap.size, p1, rfl, hk.alloc _, Box4.new (by omega), HA1.keeps ((Keeps.refl _).alloc _), (fun _ h => (HA1.ne h).symm), (fun h => by cases h), Z1⟩
    · subst hl; obtain rfl := Z1 rfl
      have hs := hk.size; simp at hs
      go_simp
      exact hK.out _ _ ⟨_, _, _, _, _, _, _, true, _, _, rfl, p0, w'.heap.size, rfl, hk.alloc _, HA0.keeps ((Keeps.refl _).alloc _), Box4.new (by omega), (fun h _ => HA0.ne h), Z0, (fun h => by cases h)⟩
    · subst hl; (repeat (rcases hd with ⟨hq, hd⟩; first | subst hq | clear hq)); (first | subst hd | clear hd | skip)
      obtain ⟨q1, q2, q3, q4, q5, q6, q7, q8, q9, q10⟩ := HA0 rfl
      have hs := hk.size; simp at hs
      go_simp
      exact hK.out _ _ ⟨_, _, _, _, _, _, _, _, true, _, rfl, p0, p1, rfl, hk.set4 (by simp; omega) _ _ _ _, HA0.at, HA1.far (fun h e => D0_1 rfl h e.symm), D0_1, (fun h => by cases h), Z1⟩
    · subst hl; (repeat (rcases hd with ⟨hq, hd⟩; first | subst hq | clear hq)); (first | subst hd | clear hd | skip)
      obtain ⟨q1, q2, q3, q4, q5, q6, q7, q8, q9, q10⟩ := HA1 rfl
      have hs := hk.size; simp at hs
      go_simp
      exact hK.out _ _ ⟨_, _, _, _, _, _, _, _, _, true, rfl, p0, p1, rfl, hk.set4 (by simp; omega) _ _ _ _, HA0.far (fun h => D0_1 h rfl), HA1.at, D0_1, Z0, (fun h => by cases h)⟩
  · rintro L a w' ⟨b0, b1, b2, b3, b4, b5, b6, b7, b8, b9, rfl, p0, p1, rfl, hk, HA0, HA1, D0_1, Z0, Z1⟩ hr
    have c := ready_nil hr 0 rfl (by simp [Region.binds]); simp at c; subst c
    have c := ready_nil hr 1 rfl (by simp [Region.binds]); simp at c; subst c
    have c := ready_nil hr 2 rfl (by simp [Region.binds]); simp at c; subst c
    have c := ready_nil hr 3 rfl (by simp [Region.binds]); simp at c; subst c
    have c := ready_nil hr 4 rfl (by simp [Region.binds]); simp at c; subst c
    have c := ready_nil hr 5 rfl (by simp [Region.binds]); simp at c; subst c
    have c := ready_nil hr 6 rfl (by simp [Region.binds]); simp at c; subst c
    have c := ready_nil hr 7 rfl (by simp [Region.binds]); simp at c; subst c
    have c := ready_nil hr 8 rfl (by simp [Region.binds]); simp at c; subst c
    have c := ready_nil hr 9 rfl (by simp [Region.binds]); simp at c; subst c
    clear hr Z0 Z1
    obtain ⟨q0_1, q0_2, q0_3, q0_4, q0_5, q0_6, q0_7, q0_8, q0_9, q0_10⟩ := HA0 rfl
    simp only [if_true] at q0_3 q0_4 q0_5 q0_6
    have HB0 := Lib.hid HA0; clear HA0; simp only [if_true] at HB0
    obtain ⟨q1_1, q1_2, q1_3, q1_4, q1_5, q1_6, q1_7, q1_8, q1_9, q1_10⟩ := HA1 rfl
    simp only [if_true] at q1_3 q1_4 q1_5 q1_6
    have HB1 := Lib.hid HA1; clear HA1; simp only [if_true] at HB1
    have D0_1 := D0_1 rfl rfl
    simp only [if_true]
    obtain ⟨Y0, Y1, Y2, Y3, Y4, Y5, Y6, Y7, Y8, Y9, Y10, Y11, Y12, Y13, Y14, Y15, Y16, Y17, Y18, Y19, Y20, Y21, Y22, Y23⟩ := HS.out _ hk
    have hj := Keeps.trans HB.out hk
    have Hk0 := Lib.hid hk
    go_wp2_with (first | (go_at_call 17; (with_reducible refine (P1.out _).mono ?_); rintro e w1 ⟨rfl, hk1⟩; obtain ⟨Y0, Y1, Y2, Y3, Y4, Y5, Y6, Y7, _⟩ := HS.out _ (Hk0.out.trans hk1); have hs1 : w.heap.size < w1.heap.size := (by have h := (Hk0.out.trans hk1).size; simp at h; omega); have HE1 := Lib.hid (box4 w1 (.int .u8 e0) (.int .u8 e1) (.int .u8 e2) (.int .u8 (t : Int)) 30 w1.heap.size rfl); have HK1 := Lib.hid (hk1.alloc (.cells #[.int .u8 e0, .int .u8 e1, .int .u8 e2, .int .u8 (t : Int)] 30))) | (go_at_call 15; (with_reducible refine (F1.out _).mono ?_); rintro e w2 ⟨rfl, hk2⟩) | (go_at_call 13; (with_reducible refine (F2.out _).mono ?_); rintro e w3 ⟨rfl, hk3⟩))
    have HEw := Lib.hid (((HK1.out.trans hk2).trans hk3).alloc (.cells #[.int .u8 (p : Int), .int .u8 (q : Int), .int .u8 (r : Int), .int .u8 (t : Int)] 23))
    have HE := Lib.hid (Hk0.out.trans HEw.out)
    have HF := Lib.hid (box4 w3 (.int .u8 (p : Int)) (.int .u8 (q : Int)) (.int .u8 (r : Int)) (.int .u8 (t : Int)) 23 w3.heap.size rfl)
    have HG := Lib.hid (fun w'' hk' => HE1.out w'' (((hk2.trans hk3).alloc (.cells #[.int .u8 (p : Int), .int .u8 (q : Int), .int .u8 (r : Int), .int .u8 (t : Int)] 23)).trans hk'))
    generalize w3.alloc (.cells #[.int .u8 (p : Int), .int .u8 (q : Int), .int .u8 (r : Int), .int .u8 (t : Int)] 23) = Wb at HEw HE HF HG ⊢
    have za0 := fun k : KW (Wb) => (HS.out _ (HE.out.trans k.keeps)).1
    have za1 := fun k : KW (Wb) => (HS.out _ (HE.out.trans k.keeps)).2.2.1
    have za2 := fun k : KW (Wb) => (HS.out _ (HE.out.trans k.keeps)).2.2.2.2.1
    have za3 := fun k : KW (Wb) => (HS.out _ (HE.out.trans k.keeps)).2.2.2.2.2.2.1
    have zb0 := fun k : KW (Wb) => (HG.out _ k.keeps).1
    have zb1 := fun k : KW (Wb) => (HG.out _ k.keeps).2.1
    have zb2 := fun k : KW (Wb) => (HG.out _ k.keeps).2.2.1
    have zb3 := fun k : KW (Wb) => (HG.out _ k.keeps).2.2.2
    have zc0 := fun k : KW (Wb) => (HF.out _ k.keeps).1
    have zc1 := fun k : KW (Wb) => (HF.out _ k.keeps).2.1
    have zc2 := fun k : KW (Wb) => (HF.out _ k.keeps).2.2.1
    have zc3 := fun k : KW (Wb) => (HF.out _ k.keeps).2.2.2
    have zd0 := fun k : KW Wb => ((HB0.out.keeps (HEw.out.trans k.keeps)) rfl).2.2.1
    have zd1 := fun k : KW Wb => ((HB0.out.keeps (HEw.out.trans k.keeps)) rfl).2.2.2.1
    have zd2 := fun k : KW Wb => ((HB0.out.keeps (HEw.out.trans k.keeps)) rfl).2.2.2.2.1
    have zd3 := fun k : KW Wb => ((HB0.out.keeps (HEw.out.trans k.keeps)) rfl).2.2.2.2.2.1
    have ze0 := fun k : KW Wb => ((HB1.out.keeps (HEw.out.trans k.keeps)) rfl).2.2.1
    have ze1 := fun k : KW Wb => ((HB1.out.keeps (HEw.out.trans k.keeps)) rfl).2.2.2.1
    have ze2 := fun k : KW Wb => ((HB1.out.keeps (HEw.out.trans k.keeps)) rfl).2.2.2.2.1
    have ze3 := fun k : KW Wb => ((HB1.out.keeps (HEw.out.trans k.keeps)) rfl).2.2.2.2.2.1
    have K1 := Lib.hid (fun k : KW Wb => keepq (B1 k.w))
    have K2 := Lib.hid (fun k : KW Wb => keepq (B2 k.w))
    have K3 := Lib.hid (fun k : KW Wb => keepq (B5 k.w))
    have K4 := Lib.hid (fun k : KW Wb => keepq (B6 k.w))
    have K5 := Lib.hid (fun k : KW Wb => keepq (B7 k.w))
    have K6 := Lib.hid (fun k : KW Wb => keepq (B8 k.w))
    have K7 := Lib.hid (fun k : KW Wb => keepq (B3 k.w))
    have K8 := Lib.hid (fun k : KW Wb => keepq (B4 k.w))
    have K9 := Lib.hid (fun k : KW Wb => keepq (example27_any k.w))
    have hkb := Keeps.refl Wb
    refine wp_region_kept (Wb) (by kernel_rfl) (by kernel_rfl) (hkb) ?_
    repeat (first | go_big_quiet_skip | (go_big_quiet_want; go_big_quiet_op; first | go_big_quiet_on | go_big_quiet_call ((first | (go_at_call 24; first | (with_reducible exact K1.out _) | (with_reducible exact K7.out _)) | (go_at_call 17; first | (with_reducible exact K2.out _) | (with_reducible exact K8.out _)) | (go_at_call 26; first | (with_reducible exact K3.out _)) | (go_at_call 19; first | (with_reducible exact K4.out _) | (with_reducible exact K6.out _)) | (go_at_call 28; first | (with_reducible exact K5.out _)) | (go_at_call 16; first | (with_reducible exact K9.out _))))))
    refine wpQuiet_nil ?_
    rintro w' ⟨k9, rfl⟩
    have hk := k9.keeps
    generalize k9.w = w9 at hk ⊢
    clear k9
    go_wp2_with fail
    go_ret
    exact ⟨rfl, (HB.out.trans HE.out).trans hk⟩

theorem walk (p q r t x0 x1 x2 x3 y0 y1 y2 y3 k : Int) (w : World) (lp : 0 ≤ p) (up : p ≤ 255) (lq : 0 ≤ q) (uq : q ≤ 255) (lr : 0 ≤ r) (ur : r ≤ 255) (lt : 0 ≤ t) (ut : t ≤ 255) (lx0 : 0 ≤ x0) (ux0 : x0 ≤ 255) (lx1 : 0 ≤ x1) (ux1 : x1 ≤ 255) (lx2 : 0 ≤ x2) (ux2 : x2 ≤ 255) (lx3 : 0 ≤ x3) (ux3 : x3 ≤ 255) (ly0 : 0 ≤ y0) (uy0 : y0 ≤ 255) (ly1 : 0 ≤ y1) (uy1 : y1 ≤ 255) (ly2 : 0 ≤ y2) (uy2 : y2 ≤ 255) (ly3 : 0 ≤ y3) (uy3 : y3 ≤ 255) (lk : 0 ≤ k) (uk : k ≤ 255) :
    Calls Try.prog 10 #[.agg #[.int .u8 p, .int .u8 q, .int .u8 r, .int .u8 t], .agg #[.int .u8 x0, .int .u8 x1, .int .u8 x2, .int .u8 x3, .int .u8 y0, .int .u8 y1, .int .u8 y2, .int .u8 y3], .int .u8 k] w fun e w' => e = .returned (.bool true) ∧ Below w.heap.size w w' := by
  obtain ⟨p, rfl⟩ := Int.eq_ofNat_of_zero_le lp
  obtain ⟨q, rfl⟩ := Int.eq_ofNat_of_zero_le lq
  obtain ⟨r, rfl⟩ := Int.eq_ofNat_of_zero_le lr
  obtain ⟨t, rfl⟩ := Int.eq_ofNat_of_zero_le lt
  exact walkN p q r t x0 x1 x2 x3 y0 y1 y2 y3 k w (by omega) (by omega) (by omega) (by omega) lx0 ux0 lx1 ux1 lx2 ux2 lx3 ux3 ly0 uy0 ly1 uy1 ly2 uy2 ly3 uy3 lk uk

set_option maxRecDepth 100000 in
theorem lifted (os : Os) (started : os.Started) (H : Type) (enc : TypeId × Value → H) :
    ReturnsInHanded {} Try.checked os 10 .any (Rows.colorRoundTripSpec.pre6 enc Try.prog Try.f10 Rows.colorRoundTripRow.domain false) (Rows.colorRoundTripSpec.post enc Try.prog Try.f10 false true false false) := by
  refine returnsInHanded_of_change (C := Try.checked) Try.own started (by kernel_rfl) Try.func10
    (ChangeSpec.witness6 (enc := enc) (C := Try.checked) false ⟨#[], #[.agg #[.int .u8 0, .int .u8 0, .int .u8 0, .int .u8 0], .agg #[.int .u8 0, .int .u8 0, .int .u8 0, .int .u8 0, .int .u8 0, .int .u8 0, .int .u8 0, .int .u8 0], .int .u8 0], []⟩ 8 (by kernel_rfl) (by kernel_rfl) (by kernel_rfl) (by kernel_rfl)) ?_
  intro W base args ds gs before hval0 hW hcnd _
  have hval : ∀ (j : Nat) t v, Try.f10.params[j]? = some t → args[j]? = some v → Value.okWide Try.prog W .any base t v := hval0
  have hW' := hW
  obtain ⟨p, q, hA0, hV, rfl, hfz, hnd⟩ := hW
  have hA : DataW.TrodAll enc Try.prog W 0 (fun _ => true) true Try.f10.params.toList args.toList ds p := hA0
  have hAll := hA
  rw [Try.params10] at hA hval
  obtain ⟨v0, vs0, d0, ds0, p0, q0, hargs, rfl, rfl, h0, r0⟩ := trodAll_cons hA
  obtain ⟨v1, vs1, d1, ds1, p1, q1, rfl, rfl, rfl, h1, r1⟩ := trodAll_cons r0
  obtain ⟨v2, vs2, d2, ds2, p2, q2, rfl, rfl, rfl, h2, r2⟩ := trodAll_cons r1
  obtain ⟨rfl, rfl, rfl⟩ := trodAll_nil r2
  obtain rfl : args = #[v0, v1, v2] := by cases args; simp_all
  obtain ⟨rfl, rfl⟩ := trodVars_none hV
  obtain ⟨c0, rfl, L0_0⟩ := open_flat (ks := [some .u8, some .u8, some .u8, some .u8]) (by kernel_rfl) (by kernel_rfl) (hval 0 23 v0 rfl rfl) h0
  obtain ⟨_, c0_0, rfl, ⟨a0_0, rfl, w0_0⟩, L0_1⟩ := leafs_cons L0_0
  obtain ⟨l0_0, u0_0⟩ := bounds_u8 w0_0
  obtain ⟨_, c0_1, rfl, ⟨a0_1, rfl, w0_1⟩, L0_2⟩ := leafs_cons L0_1
  obtain ⟨l0_1, u0_1⟩ := bounds_u8 w0_1
  obtain ⟨_, c0_2, rfl, ⟨a0_2, rfl, w0_2⟩, L0_3⟩ := leafs_cons L0_2
  obtain ⟨l0_2, u0_2⟩ := bounds_u8 w0_2
  obtain ⟨_, c0_3, rfl, ⟨a0_3, rfl, w0_3⟩, L0_4⟩ := leafs_cons L0_3
  obtain ⟨l0_3, u0_3⟩ := bounds_u8 w0_3
  obtain rfl := leafs_nil L0_4
  obtain ⟨c1, rfl, L1_0⟩ := open_flat (ks := [some .u8, some .u8, some .u8, some .u8, some .u8, some .u8, some .u8, some .u8]) (by kernel_rfl) (by kernel_rfl) (hval 1 47 v1 rfl rfl) h1
  obtain ⟨_, c1_0, rfl, ⟨a1_0, rfl, w1_0⟩, L1_1⟩ := leafs_cons L1_0
  obtain ⟨l1_0, u1_0⟩ := bounds_u8 w1_0
  obtain ⟨_, c1_1, rfl, ⟨a1_1, rfl, w1_1⟩, L1_2⟩ := leafs_cons L1_1
  obtain ⟨l1_1, u1_1⟩ := bounds_u8 w1_1
  obtain ⟨_, c1_2, rfl, ⟨a1_2, rfl, w1_2⟩, L1_3⟩ := leafs_cons L1_2
  obtain ⟨l1_2, u1_2⟩ := bounds_u8 w1_2
  obtain ⟨_, c1_3, rfl, ⟨a1_3, rfl, w1_3⟩, L1_4⟩ := leafs_cons L1_3
  obtain ⟨l1_3, u1_3⟩ := bounds_u8 w1_3
  obtain ⟨_, c1_4, rfl, ⟨a1_4, rfl, w1_4⟩, L1_5⟩ := leafs_cons L1_4
  obtain ⟨l1_4, u1_4⟩ := bounds_u8 w1_4
  obtain ⟨_, c1_5, rfl, ⟨a1_5, rfl, w1_5⟩, L1_6⟩ := leafs_cons L1_5
  obtain ⟨l1_5, u1_5⟩ := bounds_u8 w1_5
  obtain ⟨_, c1_6, rfl, ⟨a1_6, rfl, w1_6⟩, L1_7⟩ := leafs_cons L1_6
  obtain ⟨l1_6, u1_6⟩ := bounds_u8 w1_6
  obtain ⟨_, c1_7, rfl, ⟨a1_7, rfl, w1_7⟩, L1_8⟩ := leafs_cons L1_7
  obtain ⟨l1_7, u1_7⟩ := bounds_u8 w1_7
  obtain rfl := leafs_nil L1_8
  obtain ⟨a2, rfl, _, _, w2⟩ := open_int Try.underlying5 (hval 2 5 v2 rfl rfl) h2
  obtain ⟨l2, u2⟩ := bounds_u8 w2
  clear hA0 hval0
  refine (walk a0_0 a0_1 a0_2 a0_3 a1_0 a1_1 a1_2 a1_3 a1_4 a1_5 a1_6 a1_7 a2 W l0_0 u0_0 l0_1 u0_1 l0_2 u0_2 l0_3 u0_3 l1_0 u1_0 l1_1 u1_1 l1_2 u1_2 l1_3 u1_3 l1_4 u1_4 l1_5 u1_5 l1_6 u1_6 l1_7 u1_7 l2 u2).mono fun e W' ⟨he, bel⟩ => ?_
  subst he
  exact ⟨_, rfl, _, _, _, [], _, [], hW', trodAll_mk1 (shut_bool Try.underlying4 _), below_trodAll Try.laidOut bel (reads_of (by kernel_rfl)) hAll, rfl, bel.frame _, fun h => by cases h⟩

theorem over : Rows.colorRoundTripRow.holds Try.pinned (OpenSpec.ofChange Rows.colorRoundTripSpec) :=
  OpenClaim.holds_of_wide 10 Try.f10 rfl rfl rfl rfl rfl rfl rfl ⟨rfl, rfl, rfl, rfl, rfl⟩ rfl rfl rfl rfl rfl (by kernel_rfl) Try.func10 (by kernel_rfl)
    (of_decide_eq_true (by kernel_rfl)) (by unfold Func.isWrapper; first | (rw [if_pos (by decide +kernel)]; kernel_rfl) | (rw [if_neg (by decide +kernel)]; exact ⟨rfl, rfl⟩))
    (fun os started H enc _ => lifted os started H enc)

/-- The statement. -/
theorem proved : Rows.ColorRoundTripSaid := over
#print axioms proved
end Go.Proofs.Ytjfimlcljbdglaa.colorRoundTrip
