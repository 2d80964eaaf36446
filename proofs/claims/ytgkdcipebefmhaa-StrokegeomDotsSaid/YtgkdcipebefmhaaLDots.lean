/- StrokegeomDots of grisaillelaw22 returns true for all its arguments: every point and every int; no condition. -/
import Derived.Test.YtgkdcipebefmhaaE22
import Derived.Test.YtgkdcipebefmhaaWe
import Derived.Test.YtgkdcipebefmhaaOp
import Derived.Test.YtgkdcipebefmhaaKk
namespace Go.Proofs.Ytgkdcipebefmhaa.strokegeomDots
open Go.RowKit Go.ChangeShapes Go.WideShapes Go.ChangeAt
set_option linter.unusedVariables false
open Go.Proofs.Ytgkdcipebefmhaa
set_option linter.unusedSimpArgs false
set_option maxRecDepth 100000 in
set_option maxHeartbeats 4000000 in
theorem walk (x y v : Int) (w : World) (l0 : -9223372036854775808 ≤ x) (u0 : x ≤ 9223372036854775807) (l1 : -9223372036854775808 ≤ y) (u1 : y ≤ 9223372036854775807) (lv : -9223372036854775808 ≤ v) (uv : v ≤ 9223372036854775807) :
    Calls Try.prog 8 #[.agg #[.int .i64 x, .int .i64 y], .int .i64 v] w fun e w' => e = .returned (.bool true) ∧ Below w.heap.size w w' := by
  have HS := Lib.hid (show ∀ w', Keeps (w.alloc (.cells #[.int .i64 x, .int .i64 y] 28)) w' → w'.cell? ⟨w.heap.size, 0, none⟩ = some (.int .i64 x) ∧ w'.frozen? ⟨w.heap.size, 0, none⟩ = false ∧ w'.cell? ⟨w.heap.size, 1, none⟩ = some (.int .i64 y) ∧ w'.frozen? ⟨w.heap.size, 1, none⟩ = false from fun w' hk => ⟨(hk.cell (p := ⟨w.heap.size, 0, none⟩) (by first | (simp; done) | (simp; omega))).trans (by simp [go_sem]), (hk.frozen (p := ⟨w.heap.size, 0, none⟩) (by first | (simp; done) | (simp; omega))).trans (by simp [go_sem]), (hk.cell (p := ⟨w.heap.size, 1, none⟩) (by first | (simp; done) | (simp; omega))).trans (by simp [go_sem]), (hk.frozen (p := ⟨w.heap.size, 1, none⟩) (by first | (simp; done) | (simp; omega))).trans (by simp [go_sem])⟩)
  have HB := Lib.hid (show Keeps w (w.alloc (.cells #[.int .i64 x, .int .i64 y] 28)) from (by (repeat (first | (with_reducible exact Keeps.refl _) | (with_reducible assumption) | (with_reducible refine Keeps.drewN ?_ _) | (with_reducible refine Keeps.drew ?_) | (with_reducible refine Keeps.alloc ?_ _) | (with_reducible refine Keeps.setNew ?_ ?_ _))) <;> (dsimp only; omega)))
  have hk0 := Keeps.refl (w.alloc (.cells #[.int .i64 x, .int .i64 y] 28))
  have hL1 := Lib.hid (discL_ok (x, y) v)
  have hL2 := Lib.hid (dotL_ok (x, y) v)
  have K1 := Lib.hid (fun w => (disc_any (x, y) v w).mono fun _ _ h => OwnP.ret rfl hL1.out h)
  have K2 := Lib.hid (fun w => (rdisc_any (x, y) v w).mono fun _ _ h => OwnP.ret rfl hL1.out h)
  have K3 := Lib.hid (fun w => (dot_any (x, y) v w).mono fun _ _ h => OwnP.ret rfl hL2.out h)
  have K4 := Lib.hid (fun w => (rdot22_any (x, y) v w).mono fun _ _ h => OwnP.ret rfl hL2.out h)
  have K9 := Lib.hid (fun w => example22_any w)
  generalize discL (x, y) v = P at *
  generalize dotL (x, y) v = Q at *
  generalize hn1 : P.length = n1 at *
  generalize hn2 : Q.length = n2 at *
  clear l0 u0 l1 u1 lv uv hn1 hn2 hL1 hL2
  have hk := hk0
  go_enter Try.func8, Try.ntmps8
  go_wp2_with fail
  go_region_held3 (fun w' => w'.cell? ⟨w.heap.size, 0, none⟩ = some (.int .i64 x) ∧ w'.cell? ⟨w.heap.size, 1, none⟩ = some (.int .i64 y)) (first | go_keep | (have := HS.out _ hk; exact ⟨this.1, this.2.2.1⟩))
    (first | (go_at_call 22; (with_reducible refine (K1.out _).mono ?_); rintro e _ ⟨_, _, rfl, hPn, hks⟩; have HP1 := Lib.hid (fun w' (hq : Keeps _ w') => Pts.keep hPn hq); (try have HP2 := Lib.hid (fun w' (hq : Keeps _ w') => HP2.out w' (Keeps.trans hks hq))); replace hk := Keeps.trans (by first | assumption | exact Keeps.drew (by assumption) | exact Keeps.drewN (by assumption) _) hks; clear hPn hks) | (go_at_call 23; (with_reducible refine (K2.out _).mono ?_); rintro e _ ⟨_, _, rfl, hPn, hks⟩; have HP2 := Lib.hid (fun w' (hq : Keeps _ w') => Pts.keep hPn hq); (try have HP1 := Lib.hid (fun w' (hq : Keeps _ w') => HP1.out w' (Keeps.trans hks hq))); replace hk := Keeps.trans (by first | assumption | exact Keeps.drew (by assumption) | exact Keeps.drewN (by assumption) _) hks; clear hPn hks) | (go_at_call 24; (with_reducible refine (K3.out _).mono ?_); rintro e _ ⟨_, _, rfl, hPn, hks⟩; have HP3 := Lib.hid (fun w' (hq : Keeps _ w') => Pts.keep hPn hq); (try have HP4 := Lib.hid (fun w' (hq : Keeps _ w') => HP4.out w' (Keeps.trans hks hq))); replace hk := Keeps.trans (by first | assumption | exact Keeps.drew (by assumption) | exact Keeps.drewN (by assumption) _) hks; clear hPn hks) | (go_at_call 25; (with_reducible refine (K4.out _).mono ?_); rintro e _ ⟨_, _, rfl, hPn, hks⟩; have HP4 := Lib.hid (fun w' (hq : Keeps _ w') => Pts.keep hPn hq); (try have HP3 := Lib.hid (fun w' (hq : Keeps _ w') => HP3.out w' (Keeps.trans hks hq))); replace hk := Keeps.trans (by first | assumption | exact Keeps.drew (by assumption) | exact Keeps.drewN (by assumption) _) hks; clear hPn hks)        | (go_at_call 18; (first | (with_reducible refine (keepk (ring_any _ _ n1 _ _ P _ (HP1.out _ (by first | (with_reducible assumption) | (with_reducible exact Keeps.refl _) | (with_reducible exact Keeps.drew (by assumption)) | (with_reducible exact Keeps.drewN (by assumption) _) | (with_reducible exact (Keeps.refl _).drew) | (with_reducible exact (Keeps.refl _).drewN _))) (HP2.out _ (by first | (with_reducible assumption) | (with_reducible exact Keeps.refl _) | (with_reducible exact Keeps.drew (by assumption)) | (with_reducible exact Keeps.drewN (by assumption) _) | (with_reducible exact (Keeps.refl _).drew) | (with_reducible exact (Keeps.refl _).drewN _)))) (by first | assumption | exact Keeps.drew (by assumption) | exact Keeps.drewN (by assumption) _)).mono ?_) | (with_reducible refine (keepk (ring_any _ _ n2 _ _ Q _ (HP3.out _ (by first | (with_reducible assumption) | (with_reducible exact Keeps.refl _) | (with_reducible exact Keeps.drew (by assumption)) | (with_reducible exact Keeps.drewN (by assumption) _) | (with_reducible exact (Keeps.refl _).drew) | (with_reducible exact (Keeps.refl _).drewN _))) (HP4.out _ (by first | (with_reducible assumption) | (with_reducible exact Keeps.refl _) | (with_reducible exact Keeps.drew (by assumption)) | (with_reducible exact Keeps.drewN (by assumption) _) | (with_reducible exact (Keeps.refl _).drew) | (with_reducible exact (Keeps.refl _).drewN _)))) (by first | assumption | exact Keeps.drew (by assumption) | exact Keeps.drewN (by assumption) _)).mono ?_)); rintro e _ ⟨rfl, hk⟩)        | (go_at_call 10; (with_reducible refine (keepk (K9.out _) (by first | assumption | exact Keeps.drew (by assumption) | exact Keeps.drewN (by assumption) _)).mono ?_); rintro e _ ⟨rfl, hk⟩))
  all_goals
    go_wp2_with fail
    go_ret
    exact ⟨rfl, HB.out.trans hk⟩

set_option maxRecDepth 100000 in
theorem lifted (os : Os) (started : os.Started) (H : Type) (enc : TypeId × Value → H) :
    ReturnsInHanded {} Try.checked os 8 .any (Rows.strokegeomDotsSpec.pre6 enc Try.prog Try.f8 Rows.strokegeomDotsRow.domain false) (Rows.strokegeomDotsSpec.post enc Try.prog Try.f8 false true false false) := by
  refine returnsInHanded_of_change (C := Try.checked) Try.own started (by kernel_rfl) Try.func8
    (ChangeSpec.witness6 (enc := enc) (C := Try.checked) false ⟨#[], #[.agg #[.int .i64 0, .int .i64 0], .int .i64 0], []⟩ 8 (by kernel_rfl) (by kernel_rfl) (by kernel_rfl) (by kernel_rfl)) ?_
  intro W base args ds gs before hval0 hW hcnd _
  have hval : ∀ (j : Nat) t v, Try.f8.params[j]? = some t → args[j]? = some v → Value.okWide Try.prog W .any base t v := hval0
  have hW' := hW
  obtain ⟨p, q, hA0, hV, rfl, hfz, hnd⟩ := hW
  have hA : DataW.TrodAll enc Try.prog W 0 (fun _ => true) true Try.f8.params.toList args.toList ds p := hA0
  have hAll := hA
  rw [Try.params8] at hA hval
  obtain ⟨v0, vs0, d0, ds0, p0, q0, hargs, rfl, rfl, h0, r0⟩ := trodAll_cons hA
  obtain ⟨v1, vs1, d1, ds1, p1, q1, rfl, rfl, rfl, h1, r1⟩ := trodAll_cons r0
  obtain ⟨rfl, rfl, rfl⟩ := trodAll_nil r1
  obtain rfl : args = #[v0, v1] := by cases args; simp_all
  obtain ⟨rfl, rfl⟩ := trodVars_none hV
  obtain ⟨c0, rfl, L0_0⟩ := open_flat (ks := [some .i64, some .i64]) (by kernel_rfl) (by kernel_rfl) (hval 0 28 v0 rfl rfl) h0
  obtain ⟨_, c0_0, rfl, ⟨a0_0, rfl, w0_0⟩, L0_1⟩ := leafs_cons L0_0
  obtain ⟨l0_0, u0_0⟩ := bounds_i64 w0_0
  obtain ⟨_, c0_1, rfl, ⟨a0_1, rfl, w0_1⟩, L0_2⟩ := leafs_cons L0_1
  obtain ⟨l0_1, u0_1⟩ := bounds_i64 w0_1
  obtain rfl := leafs_nil L0_2
  obtain ⟨a1, rfl, _, _, w1⟩ := open_int Try.underlying3 (hval 1 3 v1 rfl rfl) h1
  obtain ⟨l1, u1⟩ := bounds_i64 w1
  clear hA0 hval0
  refine (walk a0_0 a0_1 a1 W l0_0 u0_0 l0_1 u0_1 l1 u1).mono fun e W' ⟨he, bel⟩ => ?_
  subst he
  exact ⟨_, rfl, _, _, _, [], _, [], hW', trodAll_mk1 (shut_bool Try.underlying4 _), below_trodAll Try.laidOut bel (reads_of (by kernel_rfl)) hAll, rfl, bel.frame _, fun h => by cases h⟩

theorem over : Rows.strokegeomDotsRow.holds Try.pinned (OpenSpec.ofChange Rows.strokegeomDotsSpec) :=
  OpenClaim.holds_of_wide 8 Try.f8 rfl rfl rfl rfl rfl rfl rfl ⟨rfl, rfl, rfl, rfl, rfl⟩ rfl rfl rfl rfl rfl (by kernel_rfl) Try.func8 (by kernel_rfl)
    (of_decide_eq_true (by kernel_rfl)) (by unfold Func.isWrapper; first | (rw [if_pos (by decide +kernel)]; kernel_rfl) | (rw [if_neg (by decide +kernel)]; exact ⟨rfl, rfl⟩))
    (fun os started H enc _ => lifted os started H enc)

/-- The statement. -/
theorem proved : Rows.StrokegeomDotsSaid := over
#print axioms proved
end Go.Proofs.Ytgkdcipebefmhaa.strokegeomDots
