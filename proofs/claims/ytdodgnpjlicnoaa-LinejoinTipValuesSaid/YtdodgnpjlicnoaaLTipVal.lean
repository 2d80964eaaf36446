/- LinejoinTipValues of grisaillelaw23 returns true for all its arguments; no condition. -/
import Derived.Test.YtdodgnpjlicnoaaE23
import Derived.Test.YtdodgnpjlicnoaaJd
import Derived.Test.YtdodgnpjlicnoaaOp
import Derived.Test.YtdodgnpjlicnoaaKk
namespace Go.Proofs.Ytdodgnpjlicnoaa.linejoinTipValues
open Go.RowKit Go.ChangeShapes Go.WideShapes Go.ChangeAt
set_option linter.unusedVariables false
open Go.Proofs.Ytdodgnpjlicnoaa
set_option linter.unusedSimpArgs false
set_option maxRecDepth 100000 in
set_option maxHeartbeats 4000000 in
theorem walk (nx ny mx my ka kb : Int) (w : World) (l0 : -9223372036854775808 ≤ nx) (u0 : nx ≤ 9223372036854775807) (l1 : -9223372036854775808 ≤ ny) (u1 : ny ≤ 9223372036854775807) (l2 : -9223372036854775808 ≤ mx) (u2 : mx ≤ 9223372036854775807) (l3 : -9223372036854775808 ≤ my) (u3 : my ≤ 9223372036854775807) (l4 : -9223372036854775808 ≤ ka) (u4 : ka ≤ 9223372036854775807) (l5 : -9223372036854775808 ≤ kb) (u5 : kb ≤ 9223372036854775807) :
    Calls Try.prog 4 #[.agg #[.int .i64 nx, .int .i64 ny], .agg #[.int .i64 mx, .int .i64 my], .agg #[.int .i64 ka, .int .i64 kb]] w fun e w' => e = .returned (.bool true) ∧ Below w.heap.size w w' := by
  have g3 := ptGuard
  have g4 := ptEql
  have HS := Lib.hid (show ∀ w', Keeps (((w.alloc (.cells #[.int .i64 nx, .int .i64 ny] 23)).alloc (.cells #[.int .i64 mx, .int .i64 my] 23)).alloc (.cells #[.int .i64 ka, .int .i64 kb] 29)) w' → w'.cell? ⟨w.heap.size, 0, none⟩ = some (.int .i64 nx) ∧ w'.frozen? ⟨w.heap.size, 0, none⟩ = false ∧ w'.cell? ⟨w.heap.size, 1, none⟩ = some (.int .i64 ny) ∧ w'.frozen? ⟨w.heap.size, 1, none⟩ = false ∧ w'.cell? ⟨w.heap.size + 1, 0, none⟩ = some (.int .i64 mx) ∧ w'.frozen? ⟨w.heap.size + 1, 0, none⟩ = false ∧ w'.cell? ⟨w.heap.size + 1, 1, none⟩ = some (.int .i64 my) ∧ w'.frozen? ⟨w.heap.size + 1, 1, none⟩ = false ∧ w'.cell? ⟨w.heap.size + 1 + 1, 0, none⟩ = some (.int .i64 ka) ∧ w'.frozen? ⟨w.heap.size + 1 + 1, 0, none⟩ = false ∧ w'.cell? ⟨w.heap.size + 1 + 1, 1, none⟩ = some (.int .i64 kb) ∧ w'.frozen? ⟨w.heap.size + 1 + 1, 1, none⟩ = false from fun w' hk => ⟨(hk.cell (p := ⟨w.heap.size, 0, none⟩) (by first | (simp; done) | (simp; omega))).trans (by simp [go_sem]), (hk.frozen (p := ⟨w.heap.size, 0, none⟩) (by first | (simp; done) | (simp; omega))).trans (by simp [go_sem]), (hk.cell (p := ⟨w.heap.size, 1, none⟩) (by first | (simp; done) | (simp; omega))).trans (by simp [go_sem]), (hk.frozen (p := ⟨w.heap.size, 1, none⟩) (by first | (simp; done) | (simp; omega))).trans (by simp [go_sem]), (hk.cell (p := ⟨w.heap.size + 1, 0, none⟩) (by first | (simp; done) | (simp; omega))).trans (by simp [go_sem]), (hk.frozen (p := ⟨w.heap.size + 1, 0, none⟩) (by first | (simp; done) | (simp; omega))).trans (by simp [go_sem]), (hk.cell (p := ⟨w.heap.size + 1, 1, none⟩) (by first | (simp; done) | (simp; omega))).trans (by simp [go_sem]), (hk.frozen (p := ⟨w.heap.size + 1, 1, none⟩) (by first | (simp; done) | (simp; omega))).trans (by simp [go_sem]), (hk.cell (p := ⟨w.heap.size + 1 + 1, 0, none⟩) (by first | (simp; done) | (simp; omega))).trans (by simp [go_sem]), (hk.frozen (p := ⟨w.heap.size + 1 + 1, 0, none⟩) (by first | (simp; done) | (simp; omega))).trans (by simp [go_sem]), (hk.cell (p := ⟨w.heap.size + 1 + 1, 1, none⟩) (by first | (simp; done) | (simp; omega))).trans (by simp [go_sem]), (hk.frozen (p := ⟨w.heap.size + 1 + 1, 1, none⟩) (by first | (simp; done) | (simp; omega))).trans (by simp [go_sem])⟩)
  have HB := Lib.hid (show Keeps w (((w.alloc (.cells #[.int .i64 nx, .int .i64 ny] 23)).alloc (.cells #[.int .i64 mx, .int .i64 my] 23)).alloc (.cells #[.int .i64 ka, .int .i64 kb] 29)) from (by (repeat (first | (with_reducible exact Keeps.refl _) | (with_reducible assumption) | (with_reducible refine Keeps.drewN ?_ _) | (with_reducible refine Keeps.drew ?_) | (with_reducible refine Keeps.alloc ?_ _) | (with_reducible refine Keeps.setNew ?_ ?_ _))) <;> (dsimp only; omega)))
  have hk0 := Keeps.refl (((w.alloc (.cells #[.int .i64 nx, .int .i64 ny] 23)).alloc (.cells #[.int .i64 mx, .int .i64 my] 23)).alloc (.cells #[.int .i64 ka, .int .i64 kb] 29))
  have K9 := Lib.hid (fun w => example23_any w)
  have K1 := Lib.hid (fun w => ltip_any (nx, ny) (mx, my) ka kb w)
  have K2 := Lib.hid (fun w => rtip_any (nx, ny) (mx, my) ka kb w)
  generalize tipP (nx, ny) (mx, my) ka kb = T at *
  generalize tipB (nx, ny) (mx, my) ka kb = B at *
  have q1 : (T.1 == T.1) = true := beq_self_eq_true _
  have q2 : (T.2 == T.2) = true := beq_self_eq_true _
  have q3 : (B == B) = true := beq_self_eq_true _
  have hk := hk0
  clear l0 u0 l1 u1 l2 u2 l3 u3 l4 u4 l5 u5
  go_enter Try.func4, Try.ntmps4
  go_wp2_with (first | (go_at_call 16; (with_reducible refine (K1.out _).mono ?_); rintro e w1 ⟨rfl, hk1⟩; replace hk := (hk.trans hk1).alloc (.cells #[.int .i64 T.1, .int .i64 T.2] 23); obtain ⟨y0, y1, y2, y3, y4, y5, y6, y7, y8, y9, y10, y11⟩ := HS.out _ hk; have H7 := Lib.hid (show ∀ w', Keeps (w1.alloc (.cells #[.int .i64 T.1, .int .i64 T.2] 23)) w' → w'.cell? ⟨w1.heap.size, 0, none⟩ = some (.int .i64 T.1) ∧ w'.cell? ⟨w1.heap.size, 1, none⟩ = some (.int .i64 T.2) from fun w' hq => ⟨(hq.cell (p := ⟨w1.heap.size, 0, none⟩) (by first | (simp; done) | (simp; omega))).trans (by simp [go_sem]), (hq.cell (p := ⟨w1.heap.size, 1, none⟩) (by first | (simp; done) | (simp; omega))).trans (by simp [go_sem])⟩))      | (go_at_call 17; (with_reducible refine (K2.out _).mono ?_); rintro e w2 ⟨rfl, hk2⟩; replace hk := (hk.trans hk2).alloc (.cells #[.int .i64 T.1, .int .i64 T.2] 23); obtain ⟨z0, z1⟩ := H7.out _ (hk2.alloc (.cells #[.int .i64 T.1, .int .i64 T.2] 23))) | (go_at_call 15; (with_reducible refine (keepk (K9.out _) hk).mono ?_); rintro e w9 ⟨rfl, hk⟩) | fail "ARM")
  go_ret
  exact ⟨rfl, HB.out.trans hk⟩

set_option maxRecDepth 100000 in
theorem lifted (os : Os) (started : os.Started) (H : Type) (enc : TypeId × Value → H) :
    ReturnsInHanded {} Try.checked os 4 .any (Rows.linejoinTipValuesSpec.pre6 enc Try.prog Try.f4 Rows.linejoinTipValuesRow.domain false) (Rows.linejoinTipValuesSpec.post enc Try.prog Try.f4 false true false false) := by
  refine returnsInHanded_of_change (C := Try.checked) Try.own started (by kernel_rfl) Try.func4
    (ChangeSpec.witness6 (enc := enc) (C := Try.checked) false ⟨#[], #[.agg #[.int .i64 0, .int .i64 0], .agg #[.int .i64 0, .int .i64 0], .agg #[.int .i64 0, .int .i64 0]], []⟩ 8 (by kernel_rfl) (by kernel_rfl) (by kernel_rfl) (by kernel_rfl)) ?_
  intro W base args ds gs before hval0 hW hcnd _
  have hval : ∀ (j : Nat) t v, Try.f4.params[j]? = some t → args[j]? = some v → Value.okWide Try.prog W .any base t v := hval0
  have hW' := hW
  obtain ⟨p, q, hA0, hV, rfl, hfz, hnd⟩ := hW
  have hA : DataW.TrodAll enc Try.prog W 0 (fun _ => true) true Try.f4.params.toList args.toList ds p := hA0
  have hAll := hA
  rw [Try.params4] at hA hval
  obtain ⟨v0, vs0, d0, ds0, p0, q0, hargs, rfl, rfl, h0, r0⟩ := trodAll_cons hA
  obtain ⟨v1, vs1, d1, ds1, p1, q1, rfl, rfl, rfl, h1, r1⟩ := trodAll_cons r0
  obtain ⟨v2, vs2, d2, ds2, p2, q2, rfl, rfl, rfl, h2, r2⟩ := trodAll_cons r1
  obtain ⟨rfl, rfl, rfl⟩ := trodAll_nil r2
  obtain rfl : args = #[v0, v1, v2] := by cases args; simp_all
  obtain ⟨rfl, rfl⟩ := trodVars_none hV
  obtain ⟨c0, rfl, L0_0⟩ := open_flat (ks := [some .i64, some .i64]) (by kernel_rfl) (by kernel_rfl) (hval 0 23 v0 rfl rfl) h0
  obtain ⟨_, c0_0, rfl, ⟨a0_0, rfl, w0_0⟩, L0_1⟩ := leafs_cons L0_0
  obtain ⟨l0_0, u0_0⟩ := bounds_i64 w0_0
  obtain ⟨_, c0_1, rfl, ⟨a0_1, rfl, w0_1⟩, L0_2⟩ := leafs_cons L0_1
  obtain ⟨l0_1, u0_1⟩ := bounds_i64 w0_1
  obtain rfl := leafs_nil L0_2
  obtain ⟨c1, rfl, L1_0⟩ := open_flat (ks := [some .i64, some .i64]) (by kernel_rfl) (by kernel_rfl) (hval 1 23 v1 rfl rfl) h1
  obtain ⟨_, c1_0, rfl, ⟨a1_0, rfl, w1_0⟩, L1_1⟩ := leafs_cons L1_0
  obtain ⟨l1_0, u1_0⟩ := bounds_i64 w1_0
  obtain ⟨_, c1_1, rfl, ⟨a1_1, rfl, w1_1⟩, L1_2⟩ := leafs_cons L1_1
  obtain ⟨l1_1, u1_1⟩ := bounds_i64 w1_1
  obtain rfl := leafs_nil L1_2
  obtain ⟨c2, rfl, L2_0⟩ := open_flat (ks := [some .i64, some .i64]) (by kernel_rfl) (by kernel_rfl) (hval 2 29 v2 rfl rfl) h2
  obtain ⟨_, c2_0, rfl, ⟨a2_0, rfl, w2_0⟩, L2_1⟩ := leafs_cons L2_0
  obtain ⟨l2_0, u2_0⟩ := bounds_i64 w2_0
  obtain ⟨_, c2_1, rfl, ⟨a2_1, rfl, w2_1⟩, L2_2⟩ := leafs_cons L2_1
  obtain ⟨l2_1, u2_1⟩ := bounds_i64 w2_1
  obtain rfl := leafs_nil L2_2
  clear hA0 hval0
  refine (walk a0_0 a0_1 a1_0 a1_1 a2_0 a2_1 W l0_0 u0_0 l0_1 u0_1 l1_0 u1_0 l1_1 u1_1 l2_0 u2_0 l2_1 u2_1).mono fun e W' ⟨he, bel⟩ => ?_
  subst he
  exact ⟨_, rfl, _, _, _, [], _, [], hW', trodAll_mk1 (shut_bool Try.underlying4 _), below_trodAll Try.laidOut bel (reads_of (by kernel_rfl)) hAll, rfl, bel.frame _, fun h => by cases h⟩

theorem over : Rows.linejoinTipValuesRow.holds Try.pinned (OpenSpec.ofChange Rows.linejoinTipValuesSpec) :=
  OpenClaim.holds_of_wide 4 Try.f4 rfl rfl rfl rfl rfl rfl rfl ⟨rfl, rfl, rfl, rfl, rfl⟩ rfl rfl rfl rfl rfl (by kernel_rfl) Try.func4 (by kernel_rfl)
    (of_decide_eq_true (by kernel_rfl)) (by unfold Func.isWrapper; first | (rw [if_pos (by decide +kernel)]; kernel_rfl) | (rw [if_neg (by decide +kernel)]; exact ⟨rfl, rfl⟩))
    (fun os started H enc _ => lifted os started H enc)

/-- The statement. -/
theorem proved : Rows.LinejoinTipValuesSaid := over
#print axioms proved
end Go.Proofs.Ytdodgnpjlicnoaa.linejoinTipValues
