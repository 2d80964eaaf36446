/- StrokegeomSymmetry of grisaillelaw22 returns true for all its arguments: every two points and every int; no condition. -/
import Derived.Test.YtgkdcipebefmhaaE22
import Derived.Test.YtgkdcipebefmhaaQs
import Derived.Test.YtgkdcipebefmhaaQi
import Derived.Test.YtgkdcipebefmhaaOp
import Derived.Test.YtgkdcipebefmhaaKk
namespace Go.Proofs.Ytgkdcipebefmhaa.strokegeomSymmetry
open Go.RowKit Go.ChangeShapes Go.WideShapes Go.ChangeAt
set_option linter.unusedVariables false
open Go.Proofs.Ytgkdcipebefmhaa
set_option linter.unusedSimpArgs false
set_option maxRecDepth 100000 in
set_option maxHeartbeats 8000000 in
theorem walk (ax ay bx b_y v : Int) (w : World) (l0 : -9223372036854775808 ≤ ax) (u0 : ax ≤ 9223372036854775807) (l1 : -9223372036854775808 ≤ ay) (u1 : ay ≤ 9223372036854775807) (l2 : -9223372036854775808 ≤ bx) (u2 : bx ≤ 9223372036854775807) (l3 : -9223372036854775808 ≤ b_y) (u3 : b_y ≤ 9223372036854775807) (lv : -9223372036854775808 ≤ v) (uv : v ≤ 9223372036854775807) :
    Calls Try.prog 5 #[.agg #[.int .i64 ax, .int .i64 ay], .agg #[.int .i64 bx, .int .i64 b_y], .int .i64 v] w fun e w' => e = .returned (.bool true) ∧ Below w.heap.size w w' := by
  have g3 := ptGuard
  have g4 := ptEql
  have HS := Lib.hid (show ∀ w', Keeps ((w.alloc (.cells #[.int .i64 ax, .int .i64 ay] 28)).alloc (.cells #[.int .i64 bx, .int .i64 b_y] 28)) w' → w'.cell? ⟨w.heap.size, 0, none⟩ = some (.int .i64 ax) ∧ w'.frozen? ⟨w.heap.size, 0, none⟩ = false ∧ w'.cell? ⟨w.heap.size, 1, none⟩ = some (.int .i64 ay) ∧ w'.frozen? ⟨w.heap.size, 1, none⟩ = false ∧ w'.cell? ⟨w.heap.size + 1, 0, none⟩ = some (.int .i64 bx) ∧ w'.frozen? ⟨w.heap.size + 1, 0, none⟩ = false ∧ w'.cell? ⟨w.heap.size + 1, 1, none⟩ = some (.int .i64 b_y) ∧ w'.frozen? ⟨w.heap.size + 1, 1, none⟩ = false from fun w' hk => ⟨(hk.cell (p := ⟨w.heap.size, 0, none⟩) (by first | (simp; done) | (simp; omega))).trans (by simp [go_sem]), (hk.frozen (p := ⟨w.heap.size, 0, none⟩) (by first | (simp; done) | (simp; omega))).trans (by simp [go_sem]), (hk.cell (p := ⟨w.heap.size, 1, none⟩) (by first | (simp; done) | (simp; omega))).trans (by simp [go_sem]), (hk.frozen (p := ⟨w.heap.size, 1, none⟩) (by first | (simp; done) | (simp; omega))).trans (by simp [go_sem]), (hk.cell (p := ⟨w.heap.size + 1, 0, none⟩) (by first | (simp; done) | (simp; omega))).trans (by simp [go_sem]), (hk.frozen (p := ⟨w.heap.size + 1, 0, none⟩) (by first | (simp; done) | (simp; omega))).trans (by simp [go_sem]), (hk.cell (p := ⟨w.heap.size + 1, 1, none⟩) (by first | (simp; done) | (simp; omega))).trans (by simp [go_sem]), (hk.frozen (p := ⟨w.heap.size + 1, 1, none⟩) (by first | (simp; done) | (simp; omega))).trans (by simp [go_sem])⟩)
  have HB := Lib.hid (show Keeps w ((w.alloc (.cells #[.int .i64 ax, .int .i64 ay] 28)).alloc (.cells #[.int .i64 bx, .int .i64 b_y] 28)) from (by (repeat (first | (with_reducible exact Keeps.refl _) | (with_reducible assumption) | (with_reducible refine Keeps.drewN ?_ _) | (with_reducible refine Keeps.drew ?_) | (with_reducible refine Keeps.alloc ?_ _) | (with_reducible refine Keeps.setNew ?_ ?_ _))) <;> (dsimp only; omega)))
  have hk0 := Keeps.refl ((w.alloc (.cells #[.int .i64 ax, .int .i64 ay] 28)).alloc (.cells #[.int .i64 bx, .int .i64 b_y] 28))
  have KA := Lib.hid (fun w => within22_any (ax, ay) w)
  have KB := Lib.hid (fun w => within22_any (bx, b_y) w)
  have hL1 := Lib.hid (bodyL_ok (ax, ay) (bx, b_y) v)
  have hL2 := Lib.hid (bodyL_ok (bx, b_y) (ax, ay) v)
  have K1 := Lib.hid (fun w => (body_any (ax, ay) (bx, b_y) v w).mono fun _ _ h => OwnP.ret rfl hL1.out h)
  have K2 := Lib.hid (fun w => (body_any (bx, b_y) (ax, ay) v w).mono fun _ _ h => OwnP.ret rfl hL2.out h)
  have K9 := Lib.hid (fun w => example22_any w)
  have hn1b := bodyL_len (ax, ay) (bx, b_y) v
  have hn2b := bodyL_len (bx, b_y) (ax, ay) v
  have hSw := Lib.hid (bodyL_swap (ax, ay) (bx, b_y) v)
  have hk := hk0
  cases hm : (vP (ax, ay) && vP (bx, b_y)) with
  | false =>
    have hz : bodyL (ax, ay) (bx, b_y) v = [] := by unfold bodyL mayB; rw [Bool.and_assoc, hm, Bool.and_false, if_neg (by decide)]
    rw [hz] at K1
    rw [show (([] : List Pt)).length = 0 from rfl] at K1
    clear hSw K2 hz hL1 hL2 hn1b hn2b l0 u0 l1 u1 l2 u2 l3 u3 lv uv
    have h3 : vP (ax, ay) = false ∨ vP (ax, ay) = true ∧ vP (bx, b_y) = false := by revert hm; cases vP (ax, ay) <;> cases vP (bx, b_y) <;> simp
    clear hm
    rcases h3 with h3 | ⟨h3, h4⟩
    · rw [h3] at KA
      clear h3
      go_enter Try.func5, Try.ntmps5
      go_wp2_with (first | (go_at_call 16; (with_reducible refine (K1.out _).mono ?_); rintro e _ ⟨_, _, rfl, hPn, hks⟩; have HP1 := Lib.hid (fun w' (hq : Keeps _ w') => Pts.keep hPn hq); replace hk := Keeps.trans (by first | assumption | exact Keeps.drew (by assumption) | exact Keeps.drewN (by assumption) _) hks; clear hPn hks) | (go_at_call 15; (with_reducible refine (keepk (KA.out _) (by first | assumption | exact Keeps.drew (by assumption) | exact Keeps.drewN (by assumption) _)).mono ?_); rintro e _ ⟨rfl, hk⟩; have hj := Keeps.trans HB.out hk; have hk := hk; obtain ⟨y0, y1, y2, y3, y4, y5, y6, y7⟩ := HS.out _ hk) | (go_at_call 10; (with_reducible refine (keepk (K9.out _) (by first | assumption | exact Keeps.drew (by assumption) | exact Keeps.drewN (by assumption) _)).mono ?_); rintro e _ ⟨rfl, hk⟩))
      go_ret
      exact ⟨rfl, HB.out.trans hk⟩
    · rw [h3] at KA
      rw [h4] at KB
      clear h3 h4
      go_enter Try.func5, Try.ntmps5
      go_wp2_with (first | (go_at_call 16; (with_reducible refine (K1.out _).mono ?_); rintro e _ ⟨_, _, rfl, hPn, hks⟩; have HP1 := Lib.hid (fun w' (hq : Keeps _ w') => Pts.keep hPn hq); replace hk := Keeps.trans (by first | assumption | exact Keeps.drew (by assumption) | exact Keeps.drewN (by assumption) _) hks; clear hPn hks) | (go_at_call 15; (first | (with_reducible refine (keepk (KA.out _) (by first | assumption | exact Keeps.drew (by assumption) | exact Keeps.drewN (by assumption) _)).mono ?_) | (with_reducible refine (keepk (KB.out _) (by first | assumption | exact Keeps.drew (by assumption) | exact Keeps.drewN (by assumption) _)).mono ?_)); rintro e _ ⟨rfl, hk⟩; have hj := Keeps.trans HB.out hk; have hk := hk; obtain ⟨y0, y1, y2, y3, y4, y5, y6, y7⟩ := HS.out _ hk) | (go_at_call 10; (with_reducible refine (keepk (K9.out _) (by first | assumption | exact Keeps.drew (by assumption) | exact Keeps.drewN (by assumption) _)).mono ?_); rintro e _ ⟨rfl, hk⟩))
      go_ret
      exact ⟨rfl, HB.out.trans hk⟩
  | true =>
    rw [Bool.and_eq_true] at hm
    rw [hm.1] at KA
    rw [hm.2] at KB
    obtain ⟨_, _, a0, a1, a2, a3⟩ := vP_bd hm.1
    obtain ⟨_, _, b0, b1, b2, b3⟩ := vP_bd hm.2
    dsimp only at a0 a1 a2 a3 b0 b1 b2 b3
    clear hm
    have KO1 := Lib.hid (fun w => ofs_any (bx - ax) (b_y - ay) v w)
    have KO2 := Lib.hid (fun w => ofs_any (ax - bx) (ay - b_y) v w)
    have e : ofs (ax - bx, ay - b_y) v = (-(ofs (bx - ax, b_y - ay) v).1, -(ofs (bx - ax, b_y - ay) v).2) := by
      rw [← ofs_neg]; congr 2 <;> omega
    rw [e] at KO2
    obtain ⟨⟨m0, m1⟩, m2, m3⟩ := ofs_bd' (bx - ax, b_y - ay) v
    clear e l0 u0 l1 u1 l2 u2 l3 u3 lv uv
    generalize ofs (bx - ax, b_y - ay) v = n at *
    generalize bodyL (ax, ay) (bx, b_y) v = P at *
    generalize bodyL (bx, b_y) (ax, ay) v = Q at *
    have KR1 := Lib.hid (fun A n c w h (hn : n ≤ 4) => rdarea_any A n c P w h (by omega))
    have KR2 := Lib.hid (fun A n c w h (hn : n ≤ 4) => rdarea_any A n c Q w h (by omega))
    rw [hSw.out] at KR2
    generalize area P = ar at *
    generalize hn1 : P.length = n1 at *
    generalize hn2 : Q.length = n2 at *
    clear hn1 hn2 hL1 hL2 hSw
    have q1 : (-n.1 == -n.1) = true := beq_self_eq_true _
    have q2 : (-n.2 == -n.2) = true := beq_self_eq_true _
    have q3 : (ar == ar) = true := beq_self_eq_true _
    go_enter Try.func5, Try.ntmps5
    go_wp2_with (first | (go_at_call 15; (first | (with_reducible refine (keepk (KA.out _) (by first | assumption | exact Keeps.drew (by assumption) | exact Keeps.drewN (by assumption) _)).mono ?_) | (with_reducible refine (keepk (KB.out _) (by first | assumption | exact Keeps.drew (by assumption) | exact Keeps.drewN (by assumption) _)).mono ?_)); rintro e _ ⟨rfl, hk⟩; have hj := Keeps.trans HB.out hk; have hk := hk; obtain ⟨y0, y1, y2, y3, y4, y5, y6, y7⟩ := HS.out _ hk) | (go_at_call 13; (with_reducible refine (keepk (KO1.out _) (by first | assumption | exact Keeps.drew (by assumption) | exact Keeps.drewN (by assumption) _)).mono ?_); rintro e wo ⟨rfl, hk⟩; have hj := Keeps.trans HB.out hk; have hk := hk; obtain ⟨y0, y1, y2, y3, y4, y5, y6, y7⟩ := HS.out _ hk; have hz := fun o => HS.out _ (Keeps.alloc hk o)) | (go_at_call 13; (with_reducible refine (KO2.out _).mono ?_); rintro e wp ⟨rfl, hks⟩; have c0 : wp.cell? ⟨wo.heap.size, 0, none⟩ = some (.int .i64 n.1) := (hks.cell (by simp)).trans (by simp [go_sem]); have c1 : wp.cell? ⟨wo.heap.size, 1, none⟩ = some (.int .i64 n.2) := (hks.cell (by simp)).trans (by simp [go_sem]); have hk := (hk.alloc _).trans hks; clear hks hz))
    refine name_world (fun W hW => ?_)
    have hkW0 := hk.alloc (.cells #[.int .i64 (-n.1), .int .i64 (-n.2)] 28)
    rw [← hW] at hkW0
    obtain ⟨f0, -, f1, -, f2, -, f3, -⟩ := HS.out W hkW0
    have F : W.cell? ⟨wo.heap.size, 0, none⟩ = some (.int .i64 n.1) ∧ W.cell? ⟨wo.heap.size, 1, none⟩ = some (.int .i64 n.2) ∧ W.cell? ⟨wp.heap.size, 0, none⟩ = some (.int .i64 (-n.1)) ∧ W.cell? ⟨wp.heap.size, 1, none⟩ = some (.int .i64 (-n.2)) := by
      rw [hW]
      refine ⟨(World.cell?_alloc_lt _ _ _ (World.block_lt_of_cell? wp _ c0)).trans c0, (World.cell?_alloc_lt _ _ _ (World.block_lt_of_cell? wp _ c1)).trans c1, ?_, ?_⟩ <;> go_simp
    obtain ⟨f4, f5, f6, f7⟩ := F
    have HT := Lib.hid (show ∀ w', Keeps W w' → (w'.cell? ⟨w.heap.size, 0, none⟩ = some (.int .i64 ax) ∧ w'.cell? ⟨w.heap.size, 1, none⟩ = some (.int .i64 ay) ∧ w'.cell? ⟨w.heap.size + 1, 0, none⟩ = some (.int .i64 bx) ∧ w'.cell? ⟨w.heap.size + 1, 1, none⟩ = some (.int .i64 b_y) ∧ w'.cell? ⟨wo.heap.size, 0, none⟩ = some (.int .i64 n.1) ∧ w'.cell? ⟨wo.heap.size, 1, none⟩ = some (.int .i64 n.2) ∧ w'.cell? ⟨wp.heap.size, 0, none⟩ = some (.int .i64 (-n.1)) ∧ w'.cell? ⟨wp.heap.size, 1, none⟩ = some (.int .i64 (-n.2))) from fun w' hq => ⟨(hq.cell (World.block_lt_of_cell? W _ f0)).trans f0, (hq.cell (World.block_lt_of_cell? W _ f1)).trans f1, (hq.cell (World.block_lt_of_cell? W _ f2)).trans f2, (hq.cell (World.block_lt_of_cell? W _ f3)).trans f3, (hq.cell (World.block_lt_of_cell? W _ f4)).trans f4, (hq.cell (World.block_lt_of_cell? W _ f5)).trans f5, (hq.cell (World.block_lt_of_cell? W _ f6)).trans f6, (hq.cell (World.block_lt_of_cell? W _ f7)).trans f7⟩)
    have KW0 := Lib.hid (HB.out.trans hkW0)
    clear hW hkW0 hk c0 c1 hj
    have hk := Keeps.refl W
    have r1 : IntKind.i64.wrap (-n.1) = -n.1 := IntWalk.i64_in _ (by omega)
    have r2 : IntKind.i64.wrap (-n.2) = -n.2 := IntWalk.i64_in _ (by omega)
    go_region_held3 (fun w' => (w'.cell? ⟨w.heap.size, 0, none⟩ = some (.int .i64 ax) ∧ w'.cell? ⟨w.heap.size, 1, none⟩ = some (.int .i64 ay) ∧ w'.cell? ⟨w.heap.size + 1, 0, none⟩ = some (.int .i64 bx) ∧ w'.cell? ⟨w.heap.size + 1, 1, none⟩ = some (.int .i64 b_y) ∧ w'.cell? ⟨wo.heap.size, 0, none⟩ = some (.int .i64 n.1) ∧ w'.cell? ⟨wo.heap.size, 1, none⟩ = some (.int .i64 n.2) ∧ w'.cell? ⟨wp.heap.size, 0, none⟩ = some (.int .i64 (-n.1)) ∧ w'.cell? ⟨wp.heap.size, 1, none⟩ = some (.int .i64 (-n.2)))) (first | go_keep | exact HT.out _ hk)
      (first | (go_at_call 16; (with_reducible refine (K1.out _).mono ?_); rintro e _ ⟨_, _, rfl, hPn, hks⟩; have HP1 := Lib.hid (fun w' (hq : Keeps _ w') => Pts.keep hPn hq); (try have HP2 := Lib.hid (fun w' (hq : Keeps _ w') => HP2.out w' (Keeps.trans hks hq))); replace hk := Keeps.trans (by first | assumption | exact Keeps.drew (by assumption) | exact Keeps.drewN (by assumption) _) hks; clear hPn hks) | (go_at_call 16; (with_reducible refine (K2.out _).mono ?_); rintro e _ ⟨_, _, rfl, hPn, hks⟩; have HP2 := Lib.hid (fun w' (hq : Keeps _ w') => Pts.keep hPn hq); (try have HP1 := Lib.hid (fun w' (hq : Keeps _ w') => HP1.out w' (Keeps.trans hks hq))); replace hk := Keeps.trans (by first | assumption | exact Keeps.drew (by assumption) | exact Keeps.drewN (by assumption) _) hks; clear hPn hks)          | (go_at_call 17; (first | (with_reducible refine (KR1.out _ n1 _ _ (HP1.out _ (by first | (with_reducible assumption) | (with_reducible exact Keeps.refl _) | (with_reducible exact Keeps.drew (by assumption)) | (with_reducible exact Keeps.drewN (by assumption) _) | (with_reducible exact (Keeps.refl _).drew) | (with_reducible exact (Keeps.refl _).drewN _))) hn1b).mono ?_) | (with_reducible refine (KR2.out _ n2 _ _ (HP2.out _ (by first | (with_reducible assumption) | (with_reducible exact Keeps.refl _) | (with_reducible exact Keeps.drew (by assumption)) | (with_reducible exact Keeps.drewN (by assumption) _) | (with_reducible exact (Keeps.refl _).drew) | (with_reducible exact (Keeps.refl _).drewN _))) hn2b).mono ?_)); rintro e _ ⟨rfl, hks⟩; (try have HP1 := Lib.hid (fun w' (hq : Keeps _ w') => HP1.out w' (Keeps.trans hks hq))); (try have HP2 := Lib.hid (fun w' (hq : Keeps _ w') => HP2.out w' (Keeps.trans hks hq))); replace hk := Keeps.trans (by first | assumption | exact Keeps.drew (by assumption) | exact Keeps.drewN (by assumption) _) hks; clear hks)          | (go_at_call 10; (with_reducible refine (keepk (K9.out _) (by first | assumption | exact Keeps.drew (by assumption) | exact Keeps.drewN (by assumption) _)).mono ?_); rintro e _ ⟨rfl, hk⟩))
    all_goals
      go_wp2_with fail
      go_ret
      exact ⟨rfl, KW0.out.trans hk⟩

set_option maxRecDepth 100000 in
theorem lifted (os : Os) (started : os.Started) (H : Type) (enc : TypeId × Value → H) :
    ReturnsInHanded {} Try.checked os 5 .any (Rows.strokegeomSymmetrySpec.pre6 enc Try.prog Try.f5 Rows.strokegeomSymmetryRow.domain false) (Rows.strokegeomSymmetrySpec.post enc Try.prog Try.f5 false true false false) := by
  refine returnsInHanded_of_change (C := Try.checked) Try.own started (by kernel_rfl) Try.func5
    (ChangeSpec.witness6 (enc := enc) (C := Try.checked) false ⟨#[], #[.agg #[.int .i64 0, .int .i64 0], .agg #[.int .i64 0, .int .i64 0], .int .i64 0], []⟩ 8 (by kernel_rfl) (by kernel_rfl) (by kernel_rfl) (by kernel_rfl)) ?_
  intro W base args ds gs before hval0 hW hcnd _
  have hval : ∀ (j : Nat) t v, Try.f5.params[j]? = some t → args[j]? = some v → Value.okWide Try.prog W .any base t v := hval0
  have hW' := hW
  obtain ⟨p, q, hA0, hV, rfl, hfz, hnd⟩ := hW
  have hA : DataW.TrodAll enc Try.prog W 0 (fun _ => true) true Try.f5.params.toList args.toList ds p := hA0
  have hAll := hA
  rw [Try.params5] at hA hval
  obtain ⟨v0, vs0, d0, ds0, p0, q0, hargs, rfl, rfl, h0, r0⟩ := trodAll_cons hA
  obtain ⟨v1, vs1, d1, ds1, p1, q1, rfl, rfl, rfl, h1, r1⟩ := trodAll_cons r0
  obtain ⟨v2, vs2, d2, ds2, p2, q2, rfl, rfl, rfl, h2, r2⟩ := trodAll_cons r1
  obtain ⟨rfl, rfl, rfl⟩ := trodAll_nil r2
  obtain rfl : args = #[v0, v1, v2] := by cases args; simp_all
  obtain ⟨rfl, rfl⟩ := trodVars_none hV
  obtain ⟨c0, rfl, L0_0⟩ := open_flat (ks := [some .i64, some .i64]) (by kernel_rfl) (by kernel_rfl) (hval 0 28 v0 rfl rfl) h0
  obtain ⟨_, c0_0, rfl, ⟨a0_0, rfl, w0_0⟩, L0_1⟩ := leafs_cons L0_0
  obtain ⟨l0_0, u0_0⟩ := bounds_i64 w0_0
  obtain ⟨_, c0_1, rfl, ⟨a0_1, rfl, w0_1⟩, L0_2⟩ := leafs_cons L0_1
  obtain ⟨l0_1, u0_1⟩ := bounds_i64 w0_1
  obtain rfl := leafs_nil L0_2
  obtain ⟨c1, rfl, L1_0⟩ := open_flat (ks := [some .i64, some .i64]) (by kernel_rfl) (by kernel_rfl) (hval 1 28 v1 rfl rfl) h1
  obtain ⟨_, c1_0, rfl, ⟨a1_0, rfl, w1_0⟩, L1_1⟩ := leafs_cons L1_0
  obtain ⟨l1_0, u1_0⟩ := bounds_i64 w1_0
  obtain ⟨_, c1_1, rfl, ⟨a1_1, rfl, w1_1⟩, L1_2⟩ := leafs_cons L1_1
  obtain ⟨l1_1, u1_1⟩ := bounds_i64 w1_1
  obtain rfl := leafs_nil L1_2
  obtain ⟨a2, rfl, _, _, w2⟩ := open_int Try.underlying3 (hval 2 3 v2 rfl rfl) h2
  obtain ⟨l2, u2⟩ := bounds_i64 w2
  clear hA0 hval0
  refine (walk a0_0 a0_1 a1_0 a1_1 a2 W l0_0 u0_0 l0_1 u0_1 l1_0 u1_0 l1_1 u1_1 l2 u2).mono fun e W' ⟨he, bel⟩ => ?_
  subst he
  exact ⟨_, rfl, _, _, _, [], _, [], hW', trodAll_mk1 (shut_bool Try.underlying4 _), below_trodAll Try.laidOut bel (reads_of (by kernel_rfl)) hAll, rfl, bel.frame _, fun h => by cases h⟩

theorem over : Rows.strokegeomSymmetryRow.holds Try.pinned (OpenSpec.ofChange Rows.strokegeomSymmetrySpec) :=
  OpenClaim.holds_of_wide 5 Try.f5 rfl rfl rfl rfl rfl rfl rfl ⟨rfl, rfl, rfl, rfl, rfl⟩ rfl rfl rfl rfl rfl (by kernel_rfl) Try.func5 (by kernel_rfl)
    (of_decide_eq_true (by kernel_rfl)) (by unfold Func.isWrapper; first | (rw [if_pos (by decide +kernel)]; kernel_rfl) | (rw [if_neg (by decide +kernel)]; exact ⟨rfl, rfl⟩))
    (fun os started H enc _ => lifted os started H enc)

/-- The statement. -/
theorem proved : Rows.StrokegeomSymmetrySaid := over
#print axioms proved
end Go.Proofs.Ytgkdcipebefmhaa.strokegeomSymmetry
