/- LinejoinPolygons of grisaillelaw23 returns true for all its arguments; no condition. -/
import Derived.Test.YtdodgnpjlicnoaaE23
import Derived.Test.YtdodgnpjlicnoaaJi
import Derived.Test.YtdodgnpjlicnoaaOt
import Derived.Test.YtdodgnpjlicnoaaOp
import Derived.Test.YtdodgnpjlicnoaaKk
namespace Go.Proofs.Ytdodgnpjlicnoaa.linejoinPolygons
open Go.RowKit Go.ChangeShapes Go.WideShapes Go.ChangeAt
set_option linter.unusedVariables false
open Go.Proofs.Ytdodgnpjlicnoaa
set_option linter.unusedSimpArgs false
set_option maxRecDepth 100000 in
set_option maxHeartbeats 4000000 in
theorem walk (ux uy vx vy bx b_y : Int) (wd jn cp ml ph : Int) (A : Option Addr) (n c : Nat) (D : List Int) (w : World) (l0 : -9223372036854775808 ≤ ux) (u0 : ux ≤ 9223372036854775807) (l1 : -9223372036854775808 ≤ uy) (u1 : uy ≤ 9223372036854775807) (l2 : -9223372036854775808 ≤ vx) (u2 : vx ≤ 9223372036854775807) (l3 : -9223372036854775808 ≤ vy) (u3 : vy ≤ 9223372036854775807) (l4 : -9223372036854775808 ≤ bx) (u4 : bx ≤ 9223372036854775807) (l5 : -9223372036854775808 ≤ b_y) (u5 : b_y ≤ 9223372036854775807) (h : Ins w A n c D) (hB : i64b wd ∧ i64b jn ∧ i64b cp ∧ i64b ml ∧ i64b ph) :
    Calls Try.prog 5 #[.agg #[.int .i64 ux, .int .i64 uy, .int .i64 vx, .int .i64 vy, .int .i64 bx, .int .i64 b_y], .agg #[.int .i64 wd, .int .i64 jn, .int .i64 cp, .int .i64 ml, .slice A n c, .int .i64 ph]] w fun e w' => e = .returned (.bool true) ∧ Below w.heap.size w w' := by
  have HS := Lib.hid (show ∀ w', Keeps ((w.alloc (.cells #[.int .i64 ux, .int .i64 uy, .int .i64 vx, .int .i64 vy, .int .i64 bx, .int .i64 b_y] 24)).alloc (.cells #[.int .i64 wd, .int .i64 jn, .int .i64 cp, .int .i64 ml, .slice A n c, .int .i64 ph] 35)) w' → w'.cell? ⟨w.heap.size, 0, none⟩ = some (.int .i64 ux) ∧ w'.frozen? ⟨w.heap.size, 0, none⟩ = false ∧ w'.cell? ⟨w.heap.size, 1, none⟩ = some (.int .i64 uy) ∧ w'.frozen? ⟨w.heap.size, 1, none⟩ = false ∧ w'.cell? ⟨w.heap.size, 2, none⟩ = some (.int .i64 vx) ∧ w'.frozen? ⟨w.heap.size, 2, none⟩ = false ∧ w'.cell? ⟨w.heap.size, 3, none⟩ = some (.int .i64 vy) ∧ w'.frozen? ⟨w.heap.size, 3, none⟩ = false ∧ w'.cell? ⟨w.heap.size, 4, none⟩ = some (.int .i64 bx) ∧ w'.frozen? ⟨w.heap.size, 4, none⟩ = false ∧ w'.cell? ⟨w.heap.size, 5, none⟩ = some (.int .i64 b_y) ∧ w'.frozen? ⟨w.heap.size, 5, none⟩ = false ∧ w'.cell? ⟨w.heap.size + 1, 0, none⟩ = some (.int .i64 wd) ∧ w'.frozen? ⟨w.heap.size + 1, 0, none⟩ = false ∧ w'.cell? ⟨w.heap.size + 1, 1, none⟩ = some (.int .i64 jn) ∧ w'.frozen? ⟨w.heap.size + 1, 1, none⟩ = false ∧ w'.cell? ⟨w.heap.size + 1, 2, none⟩ = some (.int .i64 cp) ∧ w'.frozen? ⟨w.heap.size + 1, 2, none⟩ = false ∧ w'.cell? ⟨w.heap.size + 1, 3, none⟩ = some (.int .i64 ml) ∧ w'.frozen? ⟨w.heap.size + 1, 3, none⟩ = false ∧ w'.cell? ⟨w.heap.size + 1, 4, none⟩ = some (.slice A n c) ∧ w'.frozen? ⟨w.heap.size + 1, 4, none⟩ = false ∧ w'.cell? ⟨w.heap.size + 1, 5, none⟩ = some (.int .i64 ph) ∧ w'.frozen? ⟨w.heap.size + 1, 5, none⟩ = false from fun w' hk => ⟨(hk.cell (p := ⟨w.heap.size, 0, none⟩) (by first | (simp; done) | (simp; omega))).trans (by simp [go_sem]), (hk.frozen (p := ⟨w.heap.size, 0, none⟩) (by first | (simp; done) | (simp; omega))).trans (by simp [go_sem]), (hk.cell (p := ⟨w.heap.size, 1, none⟩) (by first | (simp; done) | (simp; omega))).trans (by simp [go_sem]), (hk.frozen (p := ⟨w.heap.size, 1, none⟩) (by first | (simp; done) | (simp; omega))).trans (by simp [go_sem]), (hk.cell (p := ⟨w.heap.size, 2, none⟩) (by first | (simp; done) | (simp; omega))).trans (by simp [go_sem]), (hk.frozen (p := ⟨w.heap.size, 2, none⟩) (by first | (simp; done) | (simp; omega))).trans (by simp [go_sem]), (hk.cell (p := ⟨w.heap.size, 3, none⟩) (by first | (simp; done) | (simp; omega))).trans (by simp [go_sem]), (hk.frozen (p := ⟨w.heap.size, 3, none⟩) (by first | (simp; done) | (simp; omega))).trans (by simp [go_sem]), (hk.cell (p := ⟨w.heap.size, 4, none⟩) (by first | (simp; done) | (simp; omega))).trans (by simp [go_sem]), (hk.frozen (p := ⟨w.heap.size, 4, none⟩) (by first | (simp; done) | (simp; omega))).trans (by simp [go_sem]), (hk.cell (p := ⟨w.heap.size, 5, none⟩) (by first | (simp; done) | (simp; omega))).trans (by simp [go_sem]), (hk.frozen (p := ⟨w.heap.size, 5, none⟩) (by first | (simp; done) | (simp; omega))).trans (by simp [go_sem]), (hk.cell (p := ⟨w.heap.size + 1, 0, none⟩) (by first | (simp; done) | (simp; omega))).trans (by simp [go_sem]), (hk.frozen (p := ⟨w.heap.size + 1, 0, none⟩) (by first | (simp; done) | (simp; omega))).trans (by simp [go_sem]), (hk.cell (p := ⟨w.heap.size + 1, 1, none⟩) (by first | (simp; done) | (simp; omega))).trans (by simp [go_sem]), (hk.frozen (p := ⟨w.heap.size + 1, 1, none⟩) (by first | (simp; done) | (simp; omega))).trans (by simp [go_sem]), (hk.cell (p := ⟨w.heap.size + 1, 2, none⟩) (by first | (simp; done) | (simp; omega))).trans (by simp [go_sem]), (hk.frozen (p := ⟨w.heap.size + 1, 2, none⟩) (by first | (simp; done) | (simp; omega))).trans (by simp [go_sem]), (hk.cell (p := ⟨w.heap.size + 1, 3, none⟩) (by first | (simp; done) | (simp; omega))).trans (by simp [go_sem]), (hk.frozen (p := ⟨w.heap.size + 1, 3, none⟩) (by first | (simp; done) | (simp; omega))).trans (by simp [go_sem]), (hk.cell (p := ⟨w.heap.size + 1, 4, none⟩) (by first | (simp; done) | (simp; omega))).trans (by simp [go_sem]), (hk.frozen (p := ⟨w.heap.size + 1, 4, none⟩) (by first | (simp; done) | (simp; omega))).trans (by simp [go_sem]), (hk.cell (p := ⟨w.heap.size + 1, 5, none⟩) (by first | (simp; done) | (simp; omega))).trans (by simp [go_sem]), (hk.frozen (p := ⟨w.heap.size + 1, 5, none⟩) (by first | (simp; done) | (simp; omega))).trans (by simp [go_sem])⟩)
  have HB := Lib.hid (show Keeps w ((w.alloc (.cells #[.int .i64 ux, .int .i64 uy, .int .i64 vx, .int .i64 vy, .int .i64 bx, .int .i64 b_y] 24)).alloc (.cells #[.int .i64 wd, .int .i64 jn, .int .i64 cp, .int .i64 ml, .slice A n c, .int .i64 ph] 35)) from (by (repeat (first | (with_reducible exact Keeps.refl _) | (with_reducible assumption) | (with_reducible refine Keeps.drewN ?_ _) | (with_reducible refine Keeps.drew ?_) | (with_reducible refine Keeps.alloc ?_ _) | (with_reducible refine Keeps.setNew ?_ ?_ _))) <;> (dsimp only; omega)))
  have hk0 := Keeps.refl ((w.alloc (.cells #[.int .i64 ux, .int .i64 uy, .int .i64 vx, .int .i64 vy, .int .i64 bx, .int .i64 b_y] 24)).alloc (.cells #[.int .i64 wd, .int .i64 jn, .int .i64 cp, .int .i64 ml, .slice A n c, .int .i64 ph] 35))
  have K9 := Lib.hid (fun w => example23_any w)
  have hmx := h.max
  have K1 := Lib.hid (fun w' hk => ljoin_any (ux, uy) (vx, vy) (bx, b_y) wd jn cp ml ph A n c D w' (h.keep (HB.out.trans hk)))
  have K2 := Lib.hid (fun w' hk => rjoin_any (ux, uy) (vx, vy) (bx, b_y) wd jn cp ml ph A n c D w' (h.keep (HB.out.trans hk)))
  have HSc := Lib.hid (show ∀ w', Keeps ((w.alloc (.cells #[.int .i64 ux, .int .i64 uy, .int .i64 vx, .int .i64 vy, .int .i64 bx, .int .i64 b_y] 24)).alloc (.cells #[.int .i64 wd, .int .i64 jn, .int .i64 cp, .int .i64 ml, .slice A n c, .int .i64 ph] 35)) w' → w'.cell? ⟨w.heap.size, 0, none⟩ = some (.int .i64 ux) ∧ w'.cell? ⟨w.heap.size, 1, none⟩ = some (.int .i64 uy) ∧ w'.cell? ⟨w.heap.size, 2, none⟩ = some (.int .i64 vx) ∧ w'.cell? ⟨w.heap.size, 3, none⟩ = some (.int .i64 vy) ∧ w'.cell? ⟨w.heap.size, 4, none⟩ = some (.int .i64 bx) ∧ w'.cell? ⟨w.heap.size, 5, none⟩ = some (.int .i64 b_y) ∧ w'.cell? ⟨w.heap.size + 1, 0, none⟩ = some (.int .i64 wd) ∧ w'.cell? ⟨w.heap.size + 1, 1, none⟩ = some (.int .i64 jn) ∧ w'.cell? ⟨w.heap.size + 1, 2, none⟩ = some (.int .i64 cp) ∧ w'.cell? ⟨w.heap.size + 1, 3, none⟩ = some (.int .i64 ml) ∧ w'.cell? ⟨w.heap.size + 1, 4, none⟩ = some (.slice A n c) ∧ w'.cell? ⟨w.heap.size + 1, 5, none⟩ = some (.int .i64 ph) from fun w' hk => by
    obtain ⟨y0, -, y1, -, y2, -, y3, -, y4, -, y5, -, y6, -, y7, -, y8, -, y9, -, y10, -, y11, -⟩ := HS.out w' hk
    exact ⟨y0, y1, y2, y3, y4, y5, y6, y7, y8, y9, y10, y11⟩)
  generalize joinL (ux, uy) (vx, vy) (bx, b_y) wd jn cp ml ph D = LL at *
  unfold RetJ at K1 K2
  have hk := hk0
  clear h hB l0 u0 l1 u1 l2 u2 l3 u3 l4 u4 l5 u5
  by_cases h40 : n ≤ 40
  · have t1 : decide (40 < (n : Int)) = false := decide_eq_false (by omega)
    have t2 : ¬ (40 < (n : Int)) := by omega
    have t3 : decide (40 < n) = false := decide_eq_false (by omega)
    go_enter Try.func5, Try.ntmps5
    go_wp2_with fail
    go_region_held3 (fun w' => w'.cell? ⟨w.heap.size, 0, none⟩ = some (.int .i64 ux) ∧ w'.cell? ⟨w.heap.size, 1, none⟩ = some (.int .i64 uy) ∧ w'.cell? ⟨w.heap.size, 2, none⟩ = some (.int .i64 vx) ∧ w'.cell? ⟨w.heap.size, 3, none⟩ = some (.int .i64 vy) ∧ w'.cell? ⟨w.heap.size, 4, none⟩ = some (.int .i64 bx) ∧ w'.cell? ⟨w.heap.size, 5, none⟩ = some (.int .i64 b_y) ∧ w'.cell? ⟨w.heap.size + 1, 0, none⟩ = some (.int .i64 wd) ∧ w'.cell? ⟨w.heap.size + 1, 1, none⟩ = some (.int .i64 jn) ∧ w'.cell? ⟨w.heap.size + 1, 2, none⟩ = some (.int .i64 cp) ∧ w'.cell? ⟨w.heap.size + 1, 3, none⟩ = some (.int .i64 ml) ∧ w'.cell? ⟨w.heap.size + 1, 4, none⟩ = some (.slice A n c) ∧ w'.cell? ⟨w.heap.size + 1, 5, none⟩ = some (.int .i64 ph)) (first | exact HSc.out _ hk | exact HSc.out _ hk.drew | go_keep) (first | (go_at_call 19; (with_reducible refine (K1.out _ (by first | exact hk | exact hk.drew)).mono ?_); rintro e w1 ⟨A1, c1, rfl, hR1, hk1⟩; have hR1 := Lib.hid hR1; have hk := Keeps.trans (by first | exact hk | exact hk.drew) hk1)      | (go_at_call 20; (with_reducible refine (K2.out _ (by first | exact hk | exact hk.drew)).mono ?_); rintro e w2 ⟨A2, c2, rfl, hR2, hk2⟩; have KS := Lib.hid (same23_any A1 A2 _ c1 c2 LL w2 (hR1.out.keep hk2) hR2); have hk := hk.trans hk2)      | (go_at_call 18; (with_reducible refine KS.out.mono ?_); rintro e w3 ⟨rfl, hk3⟩; have hk := hk.trans hk3) | (go_at_call 15; (with_reducible refine (keepk (K9.out _) hk).mono ?_); rintro e w9 ⟨rfl, hk⟩) | fail "ARM")
    all_goals
      go_wp2_with fail
      go_ret
      exact ⟨rfl, HB.out.trans hk⟩
  · have t1 : decide (40 < (n : Int)) = true := decide_eq_true (by omega)
    have t2 : (40 < (n : Int)) := by omega
    have t3 : decide (40 < n) = true := decide_eq_true (by omega)
    go_enter Try.func5, Try.ntmps5
    go_wp2_with (first | (go_at_call 15; (with_reducible refine (keepk (K9.out _) hk).mono ?_); rintro e w9 ⟨rfl, hk⟩) | fail "ARM")
    go_ret
    exact ⟨rfl, HB.out.trans hk⟩

set_option maxRecDepth 100000 in
theorem lifted (os : Os) (started : os.Started) (H : Type) (enc : TypeId × Value → H) :
    ReturnsInHanded {} Try.checked os 5 .any (Rows.linejoinPolygonsSpec.pre6 enc Try.prog Try.f5 Rows.linejoinPolygonsRow.domain false) (Rows.linejoinPolygonsSpec.post enc Try.prog Try.f5 false true false false) := by
  refine returnsInHanded_of_change (C := Try.checked) Try.own started (by kernel_rfl) Try.func5
    (ChangeSpec.witness6 (enc := enc) (C := Try.checked) false ⟨#[], #[.agg #[.int .i64 0, .int .i64 0, .int .i64 0, .int .i64 0, .int .i64 0, .int .i64 0], .agg #[.int .i64 0, .int .i64 0, .int .i64 0, .int .i64 0, .slice none 0 0, .int .i64 0]], []⟩ 8 (by kernel_rfl) (by kernel_rfl) (by kernel_rfl) (by kernel_rfl)) ?_
  intro W base args ds gs before hval0 hW hcnd _
  have hval : ∀ (j : Nat) t v, Try.f5.params[j]? = some t → args[j]? = some v → Value.okWide Try.prog W .any base t v := hval0
  have hW' := hW
  obtain ⟨p, q, hA0, hV, rfl, hfz, hnd⟩ := hW
  have hA : DataW.TrodAll enc Try.prog W 0 (fun _ => true) true Try.f5.params.toList args.toList ds p := hA0
  have hAll := hA
  rw [Try.params5] at hA hval
  obtain ⟨v0, vs0, d0, ds0, p0, q0, hargs, rfl, rfl, h0, r0⟩ := trodAll_cons hA
  obtain ⟨v1, vs1, d1, ds1, p1, q1, rfl, rfl, rfl, h1, r1⟩ := trodAll_cons r0
  obtain ⟨rfl, rfl, rfl⟩ := trodAll_nil r1
  obtain rfl : args = #[v0, v1] := by cases args; simp_all
  obtain ⟨rfl, rfl⟩ := trodVars_none hV
  obtain ⟨c0, rfl, L0_0⟩ := open_flat (ks := [some .i64, some .i64, some .i64, some .i64, some .i64, some .i64]) (by kernel_rfl) (by kernel_rfl) (hval 0 24 v0 rfl rfl) h0
  obtain ⟨_, c0_0, rfl, ⟨a0_0, rfl, w0_0⟩, L0_1⟩ := leafs_cons L0_0
  obtain ⟨l0_0, u0_0⟩ := bounds_i64 w0_0
  obtain ⟨_, c0_1, rfl, ⟨a0_1, rfl, w0_1⟩, L0_2⟩ := leafs_cons L0_1
  obtain ⟨l0_1, u0_1⟩ := bounds_i64 w0_1
  obtain ⟨_, c0_2, rfl, ⟨a0_2, rfl, w0_2⟩, L0_3⟩ := leafs_cons L0_2
  obtain ⟨l0_2, u0_2⟩ := bounds_i64 w0_2
  obtain ⟨_, c0_3, rfl, ⟨a0_3, rfl, w0_3⟩, L0_4⟩ := leafs_cons L0_3
  obtain ⟨l0_3, u0_3⟩ := bounds_i64 w0_3
  obtain ⟨_, c0_4, rfl, ⟨a0_4, rfl, w0_4⟩, L0_5⟩ := leafs_cons L0_4
  obtain ⟨l0_4, u0_4⟩ := bounds_i64 w0_4
  obtain ⟨_, c0_5, rfl, ⟨a0_5, rfl, w0_5⟩, L0_6⟩ := leafs_cons L0_5
  obtain ⟨l0_5, u0_5⟩ := bounds_i64 w0_5
  obtain rfl := leafs_nil L0_6
  obtain ⟨wd1, jn1, cp1, ml1, ph1, A1, n1, c1, D1, rfl, I1, B1⟩ := open_style (hval 1 35 v1 rfl rfl) h1
  clear hA0 hval0
  refine (walk a0_0 a0_1 a0_2 a0_3 a0_4 a0_5 wd1 jn1 cp1 ml1 ph1 A1 n1 c1 D1 W l0_0 u0_0 l0_1 u0_1 l0_2 u0_2 l0_3 u0_3 l0_4 u0_4 l0_5 u0_5 I1 B1).mono fun e W' ⟨he, bel⟩ => ?_
  subst he
  exact ⟨_, rfl, _, _, _, [], _, [], hW', trodAll_mk1 (shut_bool Try.underlying4 _), below_trodAll Try.laidOut bel (reads_of (by kernel_rfl)) hAll, rfl, bel.frame _, fun h => by cases h⟩

theorem over : Rows.linejoinPolygonsRow.holds Try.pinned (OpenSpec.ofChange Rows.linejoinPolygonsSpec) :=
  OpenClaim.holds_of_wide 5 Try.f5 rfl rfl rfl rfl rfl rfl rfl ⟨rfl, rfl, rfl, rfl, rfl⟩ rfl rfl rfl rfl rfl (by kernel_rfl) Try.func5 (by kernel_rfl)
    (of_decide_eq_true (by kernel_rfl)) (by unfold Func.isWrapper; first | (rw [if_pos (by decide +kernel)]; kernel_rfl) | (rw [if_neg (by decide +kernel)]; exact ⟨rfl, rfl⟩))
    (fun os started H enc _ => lifted os started H enc)

/-- The statement. -/
theorem proved : Rows.LinejoinPolygonsSaid := over
#print axioms proved
end Go.Proofs.Ytdodgnpjlicnoaa.linejoinPolygons
