/- StrokegeomOffsetVector of grisaillelaw22 returns true for all its arguments: every point and every int; no condition. -/
import Derived.Test.YtgkdcipebefmhaaE22
import Derived.Test.YtgkdcipebefmhaaOp
import Derived.Test.YtgkdcipebefmhaaKk
namespace Go.Proofs.Ytgkdcipebefmhaa.strokegeomOffsetVector
open Go.RowKit Go.ChangeShapes Go.WideShapes Go.ChangeAt
set_option linter.unusedVariables false
open Go.Proofs.Ytgkdcipebefmhaa
set_option linter.unusedSimpArgs false
set_option maxRecDepth 100000 in
set_option maxHeartbeats 1000000 in
theorem walk (x y v : Int) (w : World) (lx : -9223372036854775808 ≤ x) (ux : x ≤ 9223372036854775807) (ly : -9223372036854775808 ≤ y) (uy : y ≤ 9223372036854775807) (lv : -9223372036854775808 ≤ v) (uv : v ≤ 9223372036854775807) :
    Calls Try.prog 4 #[.agg #[.int .i64 x, .int .i64 y], .int .i64 v] w fun e w' => e = .returned (.bool true) ∧ Below w.heap.size w w' := by
  have g3 := ptGuard
  have g4 := ptEql
  have HS := Lib.hid (show ∀ w', Keeps (w.alloc (.cells #[.int .i64 x, .int .i64 y] 28)) w' → w'.cell? ⟨w.heap.size, 0, none⟩ = some (.int .i64 x) ∧ w'.frozen? ⟨w.heap.size, 0, none⟩ = false ∧ w'.cell? ⟨w.heap.size, 1, none⟩ = some (.int .i64 y) ∧ w'.frozen? ⟨w.heap.size, 1, none⟩ = false from fun w' hk => ⟨(hk.cell (p := ⟨w.heap.size, 0, none⟩) (by first | (simp; done) | (simp; omega))).trans (by simp [go_sem]), (hk.frozen (p := ⟨w.heap.size, 0, none⟩) (by first | (simp; done) | (simp; omega))).trans (by simp [go_sem]), (hk.cell (p := ⟨w.heap.size, 1, none⟩) (by first | (simp; done) | (simp; omega))).trans (by simp [go_sem]), (hk.frozen (p := ⟨w.heap.size, 1, none⟩) (by first | (simp; done) | (simp; omega))).trans (by simp [go_sem])⟩)
  have HB := Lib.hid (show Keeps w (w.alloc (.cells #[.int .i64 x, .int .i64 y] 28)) from (by (repeat (first | (with_reducible exact Keeps.refl _) | (with_reducible assumption) | (with_reducible refine Keeps.drewN ?_ _) | (with_reducible refine Keeps.drew ?_) | (with_reducible refine Keeps.alloc ?_ _) | (with_reducible refine Keeps.setNew ?_ ?_ _))) <;> (dsimp only; omega)))
  have hk0 := Keeps.refl (w.alloc (.cells #[.int .i64 x, .int .i64 y] 28))
  have z0 : ∀ k : KW (w.alloc (.cells #[.int .i64 x, .int .i64 y] 28)), k.w.cell? ⟨w.heap.size, 0, none⟩ = some (.int .i64 x) := fun k => (HS.out _ k.keeps).1
  have z1 : ∀ k : KW (w.alloc (.cells #[.int .i64 x, .int .i64 y] 28)), k.w.cell? ⟨w.heap.size, 1, none⟩ = some (.int .i64 y) := fun k => (HS.out _ k.keeps).2.2.1
  have K1 := Lib.hid (fun k : KW (w.alloc (.cells #[.int .i64 x, .int .i64 y] 28)) => keepq (ofs_any x y v k.w))
  have K2 := Lib.hid (fun k : KW (w.alloc (.cells #[.int .i64 x, .int .i64 y] 28)) => keepq (rofs_any x y v k.w))
  have K9 := Lib.hid (fun k : KW (w.alloc (.cells #[.int .i64 x, .int .i64 y] 28)) => keepq (example22_any k.w))
  generalize ofs (x, y) v = p at *
  have q1 : (p.1 == p.1) = true := beq_self_eq_true _
  have q2 : (p.2 == p.2) = true := beq_self_eq_true _
  clear lx ux ly uy lv uv HS
  go_enter Try.func4, Try.ntmps4
  go_wp2_with fail
  refine wp_region_kept ((w.alloc (.cells #[.int .i64 x, .int .i64 y] 28))) (by kernel_rfl) (by kernel_rfl) (hk0) ?_
  repeat (first | go_big_quiet_skip | (go_big_quiet_want; go_big_quiet_op; first | go_big_quiet_on | go_big_quiet_call ((first | (go_at_call 13; first | (with_reducible exact K1.out _)) | (go_at_call 14; first | (with_reducible exact K2.out _)) | (go_at_call 10; first | (with_reducible exact K9.out _))))))
  refine wpQuiet_nil ?_
  rintro w' ⟨k9, rfl⟩
  have hk := k9.keeps
  generalize k9.w = w9 at hk ⊢
  clear k9
  go_wp2_with fail
  go_ret
  exact ⟨rfl, HB.out.trans hk⟩

set_option maxRecDepth 100000 in
theorem lifted (os : Os) (started : os.Started) (H : Type) (enc : TypeId × Value → H) :
    ReturnsInHanded {} Try.checked os 4 .any (Rows.strokegeomOffsetVectorSpec.pre6 enc Try.prog Try.f4 Rows.strokegeomOffsetVectorRow.domain false) (Rows.strokegeomOffsetVectorSpec.post enc Try.prog Try.f4 false true false false) := by
  refine returnsInHanded_of_change (C := Try.checked) Try.own started (by kernel_rfl) Try.func4
    (ChangeSpec.witness6 (enc := enc) (C := Try.checked) false ⟨#[], #[.agg #[.int .i64 0, .int .i64 0], .int .i64 0], []⟩ 8 (by kernel_rfl) (by kernel_rfl) (by kernel_rfl) (by kernel_rfl)) ?_
  intro W base args ds gs before hval0 hW hcnd _
  have hval : ∀ (j : Nat) t v, Try.f4.params[j]? = some t → args[j]? = some v → Value.okWide Try.prog W .any base t v := hval0
  have hW' := hW
  obtain ⟨p, q, hA0, hV, rfl, hfz, hnd⟩ := hW
  have hA : DataW.TrodAll enc Try.prog W 0 (fun _ => true) true Try.f4.params.toList args.toList ds p := hA0
  have hAll := hA
  rw [Try.params4] at hA hval
  obtain ⟨v0, vs0, d0, ds0, p0, q0, hargs, rfl, rfl, h0, r0⟩ := trodAll_cons hA
  obtain ⟨v1, vs1, d1, ds1, p1, q1, rfl, rfl, rfl, h1, r1⟩ := trodAll_cons r0
  obtain ⟨rfl, rfl, rfl⟩ := trodAll_nil r1
  obtain rfl : args = #[v0, v1] := by cases args; simp_all
  obtain ⟨rfl, rfl⟩ := trodVars_none hV
  obtain ⟨c0, rfl, L0_0⟩ := open_flat (ks := [some .i64, some .i64]) (by kernel_rfl) (by kernel_rfl) (hval 0 28 v0 rfl rfl) h0
  obtain ⟨_, c0_0, rfl, ⟨a0_0, rfl, w0_0⟩, L0_1⟩ := leafs_cons L0_0
  obtain ⟨l0_0, u0_0⟩ := bounds_i64 w0_0
  obtain ⟨_, c0_1, rfl, ⟨a0_1, rfl, w0_1⟩, L0_2⟩ := leafs_cons L0_1
  obtain ⟨l0_1, u0_1⟩ := bounds_i64 w0_1
  obtain rfl := leafs_nil L0_2
  obtain ⟨a1, rfl, _, _, w1⟩ := open_int Try.underlying3 (hval 1 3 v1 rfl rfl) h1
  obtain ⟨l1, u1⟩ := bounds_i64 w1
  clear hA0 hval0
  refine (walk a0_0 a0_1 a1 W l0_0 u0_0 l0_1 u0_1 l1 u1).mono fun e W' ⟨he, bel⟩ => ?_
  subst he
  exact ⟨_, rfl, _, _, _, [], _, [], hW', trodAll_mk1 (shut_bool Try.underlying4 _), below_trodAll Try.laidOut bel (reads_of (by kernel_rfl)) hAll, rfl, bel.frame _, fun h => by cases h⟩

theorem over : Rows.strokegeomOffsetVectorRow.holds Try.pinned (OpenSpec.ofChange Rows.strokegeomOffsetVectorSpec) :=
  OpenClaim.holds_of_wide 4 Try.f4 rfl rfl rfl rfl rfl rfl rfl ⟨rfl, rfl, rfl, rfl, rfl⟩ rfl rfl rfl rfl rfl (by kernel_rfl) Try.func4 (by kernel_rfl)
    (of_decide_eq_true (by kernel_rfl)) (by unfold Func.isWrapper; first | (rw [if_pos (by decide +kernel)]; kernel_rfl) | (rw [if_neg (by decide +kernel)]; exact ⟨rfl, rfl⟩))
    (fun os started H enc _ => lifted os started H enc)

/-- The statement. -/
theorem proved : Rows.StrokegeomOffsetVectorSaid := over
#print axioms proved
end Go.Proofs.Ytgkdcipebefmhaa.strokegeomOffsetVector
