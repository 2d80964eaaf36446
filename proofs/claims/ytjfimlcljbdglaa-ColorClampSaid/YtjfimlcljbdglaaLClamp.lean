/- ColorClamp of grisaillelaw27 returns true for all its arguments: every pixel; no condition. -/
import Derived.Test.YtjfimlcljbdglaaE27
import Derived.Test.YtjfimlcljbdglaaRe
import Derived.Test.YtjfimlcljbdglaaOp
import Derived.Test.YtjfimlcljbdglaaKk
namespace Go.Proofs.Ytjfimlcljbdglaa.colorClamp
open Go.RowKit Go.ChangeShapes Go.WideShapes Go.ChangeAt
set_option linter.unusedVariables false
open Go.Proofs.Ytjfimlcljbdglaa
theorem unprem_all (p q r t : Int) (b0 : u8b p) (b1 : u8b q) (b2 : u8b r) (b3 : u8b t) : ∃ r0 r1 r2 r3 : Int,      (∀ w : World, Calls Try.prog 24 #[.agg #[.int .u8 p, .int .u8 q, .int .u8 r, .int .u8 t]] w fun e w' => e = .returned (.agg #[.int .u8 r0, .int .u8 r1, .int .u8 r2, .int .u8 r3]) ∧ Keeps w w') ∧      (∀ w : World, Calls Try.prog 25 #[.agg #[.int .u8 p, .int .u8 q, .int .u8 r, .int .u8 t]] w fun e w' => e = .returned (.agg #[.int .u8 r0, .int .u8 r1, .int .u8 r2, .int .u8 r3]) ∧ Keeps w w') := by
  by_cases h : t = 0
  · subst h
    exact ⟨0, 0, 0, 0, fun w => unprem_zero p q r w, fun w => runprem_zero p q r w⟩
  · exact ⟨_, _, _, _, fun w => unprem_any p q r t w b0 b1 b2 b3 h, fun w => runprem_any p q r t w b0 b1 b2 b3 h⟩
set_option maxRecDepth 100000 in
set_option maxHeartbeats 2000000 in
theorem walk (p q r t : Int) (w : World) (l0 : 0 ≤ p) (u0 : p ≤ 255) (l1 : 0 ≤ q) (u1 : q ≤ 255) (l2 : 0 ≤ r) (u2 : r ≤ 255) (l3 : 0 ≤ t) (u3 : t ≤ 255) :
    Calls Try.prog 5 #[.agg #[.int .u8 p, .int .u8 q, .int .u8 r, .int .u8 t]] w fun e w' => e = .returned (.bool true) ∧ Below w.heap.size w w' := by
  have b0 : u8b p := ⟨l0, u0⟩
  have b1 : u8b q := ⟨l1, u1⟩
  have b2 : u8b r := ⟨l2, u2⟩
  have b3 : u8b t := ⟨l3, u3⟩
  have G1 := fun w => validc_any p q r t w b0 b1 b2 b3
  have G2 := fun w => rvalid27_any p q r t w
  have G3 := fun w => clampc_any p q r t w b0 b1 b2 b3
  have G4 := fun w => rclamp27_any p q r t w b0 b1 b2 b3
  obtain ⟨s0, s1, s2, s3, G5, G6⟩ := unprem_all p q r t b0 b1 b2 b3
  have G7 := fun w => validc_any (min p t) (min q t) (min r t) t w (by unfold u8b at *; omega) (by unfold u8b at *; omega) (by unfold u8b at *; omega) b3
  rw [validP_all (Int.min_le_right p t) (Int.min_le_right q t) (Int.min_le_right r t)] at G7
  have q1 := eq4_refl (min p t) (min q t) (min r t) t
  have q2 := eq4_refl s0 s1 s2 s3
  generalize validP p q r t = B at *
  generalize min p t = r0 at *
  generalize min q t = r1 at *
  generalize min r t = r2 at *
  have q3 : (B == B) = true := beq_self_eq_true B
  have g1 := pxGuard
  have g2 := pxEql
  have g3 := coGuard
  have g4 := coEql
  have HS := Lib.hid (show ∀ w', Keeps (w.alloc (.cells #[.int .u8 p, .int .u8 q, .int .u8 r, .int .u8 t] 30)) w' → w'.cell? ⟨w.heap.size, 0, none⟩ = some (.int .u8 p) ∧ w'.frozen? ⟨w.heap.size, 0, none⟩ = false ∧ w'.cell? ⟨w.heap.size, 1, none⟩ = some (.int .u8 q) ∧ w'.frozen? ⟨w.heap.size, 1, none⟩ = false ∧ w'.cell? ⟨w.heap.size, 2, none⟩ = some (.int .u8 r) ∧ w'.frozen? ⟨w.heap.size, 2, none⟩ = false ∧ w'.cell? ⟨w.heap.size, 3, none⟩ = some (.int .u8 t) ∧ w'.frozen? ⟨w.heap.size, 3, none⟩ = false from fun w' hk => ⟨(hk.cell (p := ⟨w.heap.size, 0, none⟩) (by first | (simp; done) | (simp; omega))).trans (by simp [go_sem]), (hk.frozen (p := ⟨w.heap.size, 0, none⟩) (by first | (simp; done) | (simp; omega))).trans (by simp [go_sem]), (hk.cell (p := ⟨w.heap.size, 1, none⟩) (by first | (simp; done) | (simp; omega))).trans (by simp [go_sem]), (hk.frozen (p := ⟨w.heap.size, 1, none⟩) (by first | (simp; done) | (simp; omega))).trans (by simp [go_sem]), (hk.cell (p := ⟨w.heap.size, 2, none⟩) (by first | (simp; done) | (simp; omega))).trans (by simp [go_sem]), (hk.frozen (p := ⟨w.heap.size, 2, none⟩) (by first | (simp; done) | (simp; omega))).trans (by simp [go_sem]), (hk.cell (p := ⟨w.heap.size, 3, none⟩) (by first | (simp; done) | (simp; omega))).trans (by simp [go_sem]), (hk.frozen (p := ⟨w.heap.size, 3, none⟩) (by first | (simp; done) | (simp; omega))).trans (by simp [go_sem])⟩)
  have HB := Lib.hid (show Keeps w (w.alloc (.cells #[.int .u8 p, .int .u8 q, .int .u8 r, .int .u8 t] 30)) from (by (repeat (first | (with_reducible exact Keeps.refl _) | (with_reducible assumption) | (with_reducible refine Keeps.drewN ?_ _) | (with_reducible refine Keeps.drew ?_) | (with_reducible refine Keeps.alloc ?_ _) | (with_reducible refine Keeps.setNew ?_ ?_ _))) <;> (dsimp only; omega)))
  have hk0 := Keeps.refl (w.alloc (.cells #[.int .u8 p, .int .u8 q, .int .u8 r, .int .u8 t] 30))
  have K1 := Lib.hid (fun k : KW (w.alloc (.cells #[.int .u8 p, .int .u8 q, .int .u8 r, .int .u8 t] 30)) => keepq (G1 k.w))
  have K2 := Lib.hid (fun k : KW (w.alloc (.cells #[.int .u8 p, .int .u8 q, .int .u8 r, .int .u8 t] 30)) => keepq (G2 k.w))
  have K3 := Lib.hid (fun k : KW (w.alloc (.cells #[.int .u8 p, .int .u8 q, .int .u8 r, .int .u8 t] 30)) => keepq (G3 k.w))
  have K4 := Lib.hid (fun k : KW (w.alloc (.cells #[.int .u8 p, .int .u8 q, .int .u8 r, .int .u8 t] 30)) => keepq (G4 k.w))
  have K5 := Lib.hid (fun k : KW (w.alloc (.cells #[.int .u8 p, .int .u8 q, .int .u8 r, .int .u8 t] 30)) => keepq (G5 k.w))
  have K6 := Lib.hid (fun k : KW (w.alloc (.cells #[.int .u8 p, .int .u8 q, .int .u8 r, .int .u8 t] 30)) => keepq (G6 k.w))
  have K7 := Lib.hid (fun k : KW (w.alloc (.cells #[.int .u8 p, .int .u8 q, .int .u8 r, .int .u8 t] 30)) => keepq (G7 k.w))
  have K9 := Lib.hid (fun k : KW (w.alloc (.cells #[.int .u8 p, .int .u8 q, .int .u8 r, .int .u8 t] 30)) => keepq (example27_any k.w))
  have z0 : ∀ k : KW (w.alloc (.cells #[.int .u8 p, .int .u8 q, .int .u8 r, .int .u8 t] 30)), k.w.cell? ⟨w.heap.size, 0, none⟩ = some (.int .u8 p) := fun k => (HS.out _ k.keeps).1
  have z1 : ∀ k : KW (w.alloc (.cells #[.int .u8 p, .int .u8 q, .int .u8 r, .int .u8 t] 30)), k.w.cell? ⟨w.heap.size, 1, none⟩ = some (.int .u8 q) := fun k => (HS.out _ k.keeps).2.2.1
  have z2 : ∀ k : KW (w.alloc (.cells #[.int .u8 p, .int .u8 q, .int .u8 r, .int .u8 t] 30)), k.w.cell? ⟨w.heap.size, 2, none⟩ = some (.int .u8 r) := fun k => (HS.out _ k.keeps).2.2.2.2.1
  have z3 : ∀ k : KW (w.alloc (.cells #[.int .u8 p, .int .u8 q, .int .u8 r, .int .u8 t] 30)), k.w.cell? ⟨w.heap.size, 3, none⟩ = some (.int .u8 t) := fun k => (HS.out _ k.keeps).2.2.2.2.2.2.1
  clear G1 G2 G3 G4 G5 G6 G7 b0 b1 b2 b3
  clear l0 u0 l1 u1 l2 u2 l3 u3
  go_enter Try.func5, Try.ntmps5
  go_wp2_with fail
  refine wp_region_kept ((w.alloc (.cells #[.int .u8 p, .int .u8 q, .int .u8 r, .int .u8 t] 30))) (by kernel_rfl) (by kernel_rfl) (hk0) ?_
  repeat (first | go_big_quiet_skip | (go_big_quiet_want; go_big_quiet_op; first | go_big_quiet_on | go_big_quiet_call ((first | (go_at_call 19; first | (with_reducible exact K1.out _) | (with_reducible exact K7.out _)) | (go_at_call 21; first | (with_reducible exact K2.out _)) | (go_at_call 22; first | (with_reducible exact K3.out _)) | (go_at_call 23; first | (with_reducible exact K4.out _)) | (go_at_call 24; first | (with_reducible exact K5.out _)) | (go_at_call 25; first | (with_reducible exact K6.out _)) | (go_at_call 16; first | (with_reducible exact K9.out _))))))
  refine wpQuiet_nil ?_
  rintro w' ⟨k9, rfl⟩
  have hk := k9.keeps
  generalize k9.w = w9 at hk ⊢
  clear k9
  go_wp2_with fail
  go_ret
  exact ⟨rfl, HB.out.trans hk⟩

set_option maxRecDepth 100000 in
theorem lifted (os : Os) (started : os.Started) (H : Type) (enc : TypeId × Value → H) :
    ReturnsInHanded {} Try.checked os 5 .any (Rows.colorClampSpec.pre6 enc Try.prog Try.f5 Rows.colorClampRow.domain false) (Rows.colorClampSpec.post enc Try.prog Try.f5 false true false false) := by
  refine returnsInHanded_of_change (C := Try.checked) Try.own started (by kernel_rfl) Try.func5
    (ChangeSpec.witness6 (enc := enc) (C := Try.checked) false ⟨#[], #[.agg #[.int .u8 0, .int .u8 0, .int .u8 0, .int .u8 0]], []⟩ 8 (by kernel_rfl) (by kernel_rfl) (by kernel_rfl) (by kernel_rfl)) ?_
  intro W base args ds gs before hval0 hW hcnd _
  have hval : ∀ (j : Nat) t v, Try.f5.params[j]? = some t → args[j]? = some v → Value.okWide Try.prog W .any base t v := hval0
  have hW' := hW
  obtain ⟨p, q, hA0, hV, rfl, hfz, hnd⟩ := hW
  have hA : DataW.TrodAll enc Try.prog W 0 (fun _ => true) true Try.f5.params.toList args.toList ds p := hA0
  have hAll := hA
  rw [Try.params5] at hA hval
  obtain ⟨v0, vs0, d0, ds0, p0, q0, hargs, rfl, rfl, h0, r0⟩ := trodAll_cons hA
  obtain ⟨rfl, rfl, rfl⟩ := trodAll_nil r0
  obtain rfl : args = #[v0] := by cases args; simp_all
  obtain ⟨rfl, rfl⟩ := trodVars_none hV
  obtain ⟨c0, rfl, L0_0⟩ := open_flat (ks := [some .u8, some .u8, some .u8, some .u8]) (by kernel_rfl) (by kernel_rfl) (hval 0 30 v0 rfl rfl) h0
  obtain ⟨_, c0_0, rfl, ⟨a0_0, rfl, w0_0⟩, L0_1⟩ := leafs_cons L0_0
  obtain ⟨l0_0, u0_0⟩ := bounds_u8 w0_0
  obtain ⟨_, c0_1, rfl, ⟨a0_1, rfl, w0_1⟩, L0_2⟩ := leafs_cons L0_1
  obtain ⟨l0_1, u0_1⟩ := bounds_u8 w0_1
  obtain ⟨_, c0_2, rfl, ⟨a0_2, rfl, w0_2⟩, L0_3⟩ := leafs_cons L0_2
  obtain ⟨l0_2, u0_2⟩ := bounds_u8 w0_2
  obtain ⟨_, c0_3, rfl, ⟨a0_3, rfl, w0_3⟩, L0_4⟩ := leafs_cons L0_3
  obtain ⟨l0_3, u0_3⟩ := bounds_u8 w0_3
  obtain rfl := leafs_nil L0_4
  clear hA0 hval0
  refine (walk a0_0 a0_1 a0_2 a0_3 W l0_0 u0_0 l0_1 u0_1 l0_2 u0_2 l0_3 u0_3).mono fun e W' ⟨he, bel⟩ => ?_
  subst he
  exact ⟨_, rfl, _, _, _, [], _, [], hW', trodAll_mk1 (shut_bool Try.underlying4 _), below_trodAll Try.laidOut bel (reads_of (by kernel_rfl)) hAll, rfl, bel.frame _, fun h => by cases h⟩

theorem over : Rows.colorClampRow.holds Try.pinned (OpenSpec.ofChange Rows.colorClampSpec) :=
  OpenClaim.holds_of_wide 5 Try.f5 rfl rfl rfl rfl rfl rfl rfl ⟨rfl, rfl, rfl, rfl, rfl⟩ rfl rfl rfl rfl rfl (by kernel_rfl) Try.func5 (by kernel_rfl)
    (of_decide_eq_true (by kernel_rfl)) (by unfold Func.isWrapper; first | (rw [if_pos (by decide +kernel)]; kernel_rfl) | (rw [if_neg (by decide +kernel)]; exact ⟨rfl, rfl⟩))
    (fun os started H enc _ => lifted os started H enc)

/-- The statement. -/
theorem proved : Rows.ColorClampSaid := over
#print axioms proved
end Go.Proofs.Ytjfimlcljbdglaa.colorClamp
