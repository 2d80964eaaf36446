import Derived.Test.YtpmhmaiagjdpeaaOp
import Derived.Test.YtpmhmaiagjdpeaaRx
namespace Go.Proofs.Ytpmhmaiagjdpeaa.vecValues
open Go.RowKit Go.ChangeShapes Go.WideShapes Go.ChangeAt
set_option linter.unusedVariables false
open Go.Proofs.Ytpmhmaiagjdpeaa
set_option maxRecDepth 100000 in
set_option maxHeartbeats 4000000 in
theorem walk (x y z t : Int) (w : World) (lx : -9223372036854775808 ≤ x) (ux : x ≤ 9223372036854775807) (ly : -9223372036854775808 ≤ y) (uy : y ≤ 9223372036854775807) (lz : -9223372036854775808 ≤ z) (uz : z ≤ 9223372036854775807) (lt : -9223372036854775808 ≤ t) (ut : t ≤ 9223372036854775807) :
    Calls Try.prog 7 #[.agg #[.int .i64 x, .int .i64 y], .agg #[.int .i64 z, .int .i64 t]] w fun e w' => e = .returned (.bool true) ∧ Below w.heap.size w w' := by
  have V0 := Lib.hid (fun w => valid_any x y w)
  have R0 := Lib.hid (fun w => rvalid_any x y w)
  have V1 := Lib.hid (fun w => add_any x y z t w)
  have R1 := Lib.hid (fun w => radd_any x y z t w)
  have V2 := Lib.hid (fun w => subc_any x y z t w)
  have R2 := Lib.hid (fun w => rsub_any x y z t w)
  have V3 := Lib.hid (fun w => perp_any x y w)
  have R3 := Lib.hid (fun w => rperp_any x y w)
  have V4 := Lib.hid (fun w => vdotx_any x y z t w)
  have R4 := Lib.hid (fun w => rdot_any x y z t w)
  have V5 := Lib.hid (fun w => vcrossx_any x y z t w)
  have R5 := Lib.hid (fun w => rcross_any x y z t w)
  have V6 := Lib.hid (fun w => length_any x y w)
  have R6 := Lib.hid (fun w => rlength_any x y w)
  have V7 := Lib.hid (fun w => less_any x y z t w)
  have R7 := Lib.hid (fun w => rless_any x y z t w)
  generalize validB x y = r0 at *
  generalize hc x + hc z = r1 at *
  generalize hc y + hc t = r2 at *
  generalize subc x z = r3 at *
  generalize subc y t = r4 at *
  generalize dotI (hc x) (hc y) (hc z) (hc t) = r5 at *
  generalize crossI (hc x) (hc y) (hc z) (hc t) = r6 at *
  generalize ((lenI x y : Nat) : Int) = r7 at *
  generalize lessB x y z t = r8 at *
  generalize -hc y = r9 at *
  generalize hc x = r10 at *
  have tr0 : (r0 == r0) = true := beq_self_eq_true r0
  have tr1 : (r1 == r1) = true := beq_self_eq_true r1
  have tr2 : (r2 == r2) = true := beq_self_eq_true r2
  have tr3 : (r3 == r3) = true := beq_self_eq_true r3
  have tr4 : (r4 == r4) = true := beq_self_eq_true r4
  have tr5 : (r5 == r5) = true := beq_self_eq_true r5
  have tr6 : (r6 == r6) = true := beq_self_eq_true r6
  have tr7 : (r7 == r7) = true := beq_self_eq_true r7
  have tr8 : (r8 == r8) = true := beq_self_eq_true r8
  have tr9 : (r9 == r9) = true := beq_self_eq_true r9
  have tr10 : (r10 == r10) = true := beq_self_eq_true r10
  have g1 := ptGuard
  have g2 := ptEql
  have HS := Lib.hid (show ∀ w', Keeps ((w.alloc (.cells #[.int .i64 x, .int .i64 y] 23)).alloc (.cells #[.int .i64 z, .int .i64 t] 23)) w' → w'.cell? ⟨w.heap.size, 0, none⟩ = some (.int .i64 x) ∧ w'.frozen? ⟨w.heap.size, 0, none⟩ = false ∧ w'.cell? ⟨w.heap.size, 1, none⟩ = some (.int .i64 y) ∧ w'.frozen? ⟨w.heap.size, 1, none⟩ = false ∧ w'.cell? ⟨w.heap.size + 1, 0, none⟩ = some (.int .i64 z) ∧ w'.frozen? ⟨w.heap.size + 1, 0, none⟩ = false ∧ w'.cell? ⟨w.heap.size + 1, 1, none⟩ = some (.int .i64 t) ∧ w'.frozen? ⟨w.heap.size + 1, 1, none⟩ = false from fun w' hk => ⟨(hk.cell (p := ⟨w.heap.size, 0, none⟩) (by first | (simp; done) | (simp; omega))).trans (by simp [go_sem]), (hk.frozen (p := ⟨w.heap.size, 0, none⟩) (by first | (simp; done) | (simp; omega))).trans (by simp [go_sem]), (hk.cell (p := ⟨w.heap.size, 1, none⟩) (by first | (simp; done) | (simp; omega))).trans (by simp [go_sem]), (hk.frozen (p := ⟨w.heap.size, 1, none⟩) (by first | (simp; done) | (simp; omega))).trans (by simp [go_sem]), (hk.cell (p := ⟨w.heap.size + 1, 0, none⟩) (by first | (simp; done) | (simp; omega))).trans (by simp [go_sem]), (hk.frozen (p := ⟨w.heap.size + 1, 0, none⟩) (by first | (simp; done) | (simp; omega))).trans (by simp [go_sem]), (hk.cell (p := ⟨w.heap.size + 1, 1, none⟩) (by first | (simp; done) | (simp; omega))).trans (by simp [go_sem]), (hk.frozen (p := ⟨w.heap.size + 1, 1, none⟩) (by first | (simp; done) | (simp; omega))).trans (by simp [go_sem])⟩)
  have HB := Lib.hid (show Keeps w ((w.alloc (.cells #[.int .i64 x, .int .i64 y] 23)).alloc (.cells #[.int .i64 z, .int .i64 t] 23)) from (by (repeat (first | (with_reducible exact Keeps.refl _) | (with_reducible assumption) | (with_reducible refine Keeps.drewN ?_ _) | (with_reducible refine Keeps.drew ?_) | (with_reducible refine Keeps.alloc ?_ _) | (with_reducible refine Keeps.setNew ?_ ?_ _))) <;> (dsimp only; omega)))
  have hk0 := Keeps.refl ((w.alloc (.cells #[.int .i64 x, .int .i64 y] 23)).alloc (.cells #[.int .i64 z, .int .i64 t] 23))
  go_enter Try.func7, Try.ntmps7
  go_wp2_with fail
  simp only [List.append]
  go_region_held3 (fun w' => w'.cell? ⟨w.heap.size, 0, none⟩ = some (.int .i64 x) ∧ w'.frozen? ⟨w.heap.size, 0, none⟩ = false ∧ w'.cell? ⟨w.heap.size, 1, none⟩ = some (.int .i64 y) ∧ w'.frozen? ⟨w.heap.size, 1, none⟩ = false ∧ w'.cell? ⟨w.heap.size + 1, 0, none⟩ = some (.int .i64 z) ∧ w'.frozen? ⟨w.heap.size + 1, 0, none⟩ = false ∧ w'.cell? ⟨w.heap.size + 1, 1, none⟩ = some (.int .i64 t) ∧ w'.frozen? ⟨w.heap.size + 1, 1, none⟩ = false) (first | exact HS.out _ (by assumption) | exact HS.out _ (Keeps.drew (by assumption)) | exact HS.out _ (Keeps.drewN (by assumption) _) | go_keep)
    (first | (go_at_call 16; refine (keep (V0.out _) (by first | assumption | exact Keeps.drew (by assumption) | exact Keeps.drewN (by assumption) _)).mono ?_; rintro e w1 ⟨rfl, hk⟩)
           | (go_at_call 21; refine (keep (R0.out _) (by first | assumption | exact Keeps.drew (by assumption) | exact Keeps.drewN (by assumption) _)).mono ?_; rintro e w1 ⟨rfl, hk⟩)
           | (go_at_call 19; refine (keep (V1.out _) (by first | assumption | exact Keeps.drew (by assumption) | exact Keeps.drewN (by assumption) _)).mono ?_; rintro e w1 ⟨rfl, hk⟩)
           | (go_at_call 22; refine (keep (R1.out _) (by first | assumption | exact Keeps.drew (by assumption) | exact Keeps.drewN (by assumption) _)).mono ?_; rintro e w1 ⟨rfl, hk⟩)
           | (go_at_call 17; refine (keep (V2.out _) (by first | assumption | exact Keeps.drew (by assumption) | exact Keeps.drewN (by assumption) _)).mono ?_; rintro e w1 ⟨rfl, hk⟩)
           | (go_at_call 23; refine (keep (R2.out _) (by first | assumption | exact Keeps.drew (by assumption) | exact Keeps.drewN (by assumption) _)).mono ?_; rintro e w1 ⟨rfl, hk⟩)
           | (go_at_call 20; refine (keep (V3.out _) (by first | assumption | exact Keeps.drew (by assumption) | exact Keeps.drewN (by assumption) _)).mono ?_; rintro e w1 ⟨rfl, hk⟩)
           | (go_at_call 24; refine (keep (R3.out _) (by first | assumption | exact Keeps.drew (by assumption) | exact Keeps.drewN (by assumption) _)).mono ?_; rintro e w1 ⟨rfl, hk⟩)
           | (go_at_call 25; refine (keep (V4.out _) (by first | assumption | exact Keeps.drew (by assumption) | exact Keeps.drewN (by assumption) _)).mono ?_; rintro e w1 ⟨rfl, hk⟩)
           | (go_at_call 26; refine (keep (R4.out _) (by first | assumption | exact Keeps.drew (by assumption) | exact Keeps.drewN (by assumption) _)).mono ?_; rintro e w1 ⟨rfl, hk⟩)
           | (go_at_call 27; refine (keep (V5.out _) (by first | assumption | exact Keeps.drew (by assumption) | exact Keeps.drewN (by assumption) _)).mono ?_; rintro e w1 ⟨rfl, hk⟩)
           | (go_at_call 28; refine (keep (R5.out _) (by first | assumption | exact Keeps.drew (by assumption) | exact Keeps.drewN (by assumption) _)).mono ?_; rintro e w1 ⟨rfl, hk⟩)
           | (go_at_call 29; refine (keep (V6.out _) (by first | assumption | exact Keeps.drew (by assumption) | exact Keeps.drewN (by assumption) _)).mono ?_; rintro e w1 ⟨rfl, hk⟩)
           | (go_at_call 30; refine (keep (R6.out _) (by first | assumption | exact Keeps.drew (by assumption) | exact Keeps.drewN (by assumption) _)).mono ?_; rintro e w1 ⟨rfl, hk⟩)
           | (go_at_call 31; refine (keep (V7.out _) (by first | assumption | exact Keeps.drew (by assumption) | exact Keeps.drewN (by assumption) _)).mono ?_; rintro e w1 ⟨rfl, hk⟩)
           | (go_at_call 32; refine (keep (R7.out _) (by first | assumption | exact Keeps.drew (by assumption) | exact Keeps.drewN (by assumption) _)).mono ?_; rintro e w1 ⟨rfl, hk⟩)
           | (go_at_call 13; refine (example11 _ _ (by first | assumption | exact Keeps.drew (by assumption) | exact Keeps.drewN (by assumption) _)).mono ?_; rintro e w1 ⟨rfl, hk⟩))
  all_goals go_wp2_with fail
  go_ret
  exact ⟨rfl, Keeps.trans HB.out (by (repeat (first | (with_reducible exact Keeps.refl _) | (with_reducible assumption) | (with_reducible refine Keeps.drewN ?_ _) | (with_reducible refine Keeps.drew ?_) | (with_reducible refine Keeps.alloc ?_ _) | (with_reducible refine Keeps.setNew ?_ ?_ _))) <;> (dsimp only; omega))⟩

set_option maxRecDepth 100000 in
theorem lifted (os : Os) (started : os.Started) (H : Type) (enc : TypeId × Value → H) :
    ReturnsInHanded {} Try.checked os 7 .any (Rows.vecValuesSpec.pre6 enc Try.prog Try.f7 Rows.vecValuesRow.domain false) (Rows.vecValuesSpec.post enc Try.prog Try.f7 false true false false) := by
  refine returnsInHanded_of_change (C := Try.checked) Try.own started (by kernel_rfl) Try.func7
    (ChangeSpec.witness6 (enc := enc) (C := Try.checked) false ⟨#[], #[.agg #[.int .i64 0, .int .i64 0], .agg #[.int .i64 0, .int .i64 0]], []⟩ 8 (by kernel_rfl) (by kernel_rfl) (by kernel_rfl) (by kernel_rfl)) ?_
  intro W base args ds gs before hval0 hW hcnd _
  have hval : ∀ (j : Nat) t v, Try.f7.params[j]? = some t → args[j]? = some v → Value.okWide Try.prog W .any base t v := hval0
  have hW' := hW
  obtain ⟨p, q, hA0, hV, rfl, hfz, hnd⟩ := hW
  have hA : DataW.TrodAll enc Try.prog W 0 (fun _ => true) true Try.f7.params.toList args.toList ds p := hA0
  have hAll := hA
  rw [Try.params7] at hA hval
  obtain ⟨v0, vs0, d0, ds0, p0, q0, hargs, rfl, rfl, h0, r0⟩ := trodAll_cons hA
  obtain ⟨v1, vs1, d1, ds1, p1, q1, rfl, rfl, rfl, h1, r1⟩ := trodAll_cons r0
  obtain ⟨rfl, rfl, rfl⟩ := trodAll_nil r1
  obtain rfl : args = #[v0, v1] := by cases args; simp_all
  obtain ⟨rfl, rfl⟩ := trodVars_none hV
  obtain ⟨c0, rfl, L0_0⟩ := open_flat (ks := [some .i64, some .i64]) (by kernel_rfl) (by kernel_rfl) (hval 0 23 v0 rfl rfl) h0
  obtain ⟨_, c0_0, rfl, ⟨a0_0, rfl, w0_0⟩, L0_1⟩ := leafs_cons L0_0
  obtain ⟨l0_0, u0_0⟩ := bounds_i64 w0_0
  obtain ⟨_, c0_1, rfl, ⟨a0_1, rfl, w0_1⟩, L0_2⟩ := leafs_cons L0_1
  obtain ⟨l0_1, u0_1⟩ := bounds_i64 w0_1
  obtain rfl := leafs_nil L0_2
  obtain ⟨c1, rfl, L1_0⟩ := open_flat (ks := [some .i64, some .i64]) (by kernel_rfl) (by kernel_rfl) (hval 1 23 v1 rfl rfl) h1
  obtain ⟨_, c1_0, rfl, ⟨a1_0, rfl, w1_0⟩, L1_1⟩ := leafs_cons L1_0
  obtain ⟨l1_0, u1_0⟩ := bounds_i64 w1_0
  obtain ⟨_, c1_1, rfl, ⟨a1_1, rfl, w1_1⟩, L1_2⟩ := leafs_cons L1_1
  obtain ⟨l1_1, u1_1⟩ := bounds_i64 w1_1
  obtain rfl := leafs_nil L1_2
  clear hA0 hval0
  refine (walk a0_0 a0_1 a1_0 a1_1 W l0_0 u0_0 l0_1 u0_1 l1_0 u1_0 l1_1 u1_1).mono fun e W' ⟨he, bel⟩ => ?_
  subst he
  exact ⟨_, rfl, _, _, _, [], _, [], hW', trodAll_mk1 (shut_bool Try.underlying4 _), below_trodAll Try.laidOut bel (reads_of (by kernel_rfl)) hAll, rfl, bel.frame _, fun h => by cases h⟩

theorem over : Rows.vecValuesRow.holds Try.pinned (OpenSpec.ofChange Rows.vecValuesSpec) :=
  OpenClaim.holds_of_wide 7 Try.f7 rfl rfl rfl rfl rfl rfl rfl ⟨rfl, rfl, rfl, rfl, rfl⟩ rfl rfl rfl rfl rfl (by kernel_rfl) Try.func7 (by kernel_rfl)
    (of_decide_eq_true (by kernel_rfl)) (by unfold Func.isWrapper; first | (rw [if_pos (by decide +kernel)]; kernel_rfl) | (rw [if_neg (by decide +kernel)]; exact ⟨rfl, rfl⟩))
    (fun os started H enc _ => lifted os started H enc)

/-- The statement. -/
theorem proved : Rows.VecValuesSaid := over
#print axioms proved
end Go.Proofs.Ytpmhmaiagjdpeaa.vecValues
