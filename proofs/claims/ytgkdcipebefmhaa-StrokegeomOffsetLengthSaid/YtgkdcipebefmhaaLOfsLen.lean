/- StrokegeomOffsetLength of grisaillelaw22 returns true for all its arguments: every point and every int; no condition. -/
import Derived.Test.YtgkdcipebefmhaaE22
import Derived.Test.YtgkdcipebefmhaaQi
import Derived.Test.YtgkdcipebefmhaaQl
import Derived.Test.YtgkdcipebefmhaaOp
import Derived.Test.YtgkdcipebefmhaaKk
namespace Go.Proofs.Ytgkdcipebefmhaa.strokegeomOffsetLength
open Go.RowKit Go.ChangeShapes Go.WideShapes Go.ChangeAt
set_option linter.unusedVariables false
open Go.Proofs.Ytgkdcipebefmhaa
set_option linter.unusedSimpArgs false
theorem half_sq (e L : Int) (h0 : 0 ≤ L) (h1 : -L ≤ 2 * e) (h2 : 2 * e ≤ L) : 4 * (e * e) ≤ L * L := by
  have h := Nat.mul_le_mul (show (2 * e).natAbs ≤ L.natAbs by omega) (show (2 * e).natAbs ≤ L.natAbs by omega)
  rw [← Int.natAbs_mul, ← Int.natAbs_mul] at h
  have e1 : 2 * e * (2 * e) = 4 * (e * e) := by grind
  have e2 := sqn (2 * e)
  have e3 := sqn L
  rw [e1] at h e2
  omega
/-- What the statement says of the vector. -/
theorem ofl (x y v : Int) (hx : -1048576 ≤ x ∧ x ≤ 1048576) (hy : -1048576 ≤ y ∧ y ≤ 1048576) (hz : ¬ (x = 0 ∧ y = 0)) (h2 : 2 ≤ v) (h3 : v ≤ 16384) :
    (-16384 ≤ (ofs (x, y) v).1 ∧ (ofs (x, y) v).1 ≤ 16384) ∧ (-16384 ≤ (ofs (x, y) v).2 ∧ (ofs (x, y) v).2 ≤ 16384) ∧
    (v - 2) * (v - 2) ≤ 4 * ((ofs (x, y) v).1 * (ofs (x, y) v).1 + (ofs (x, y) v).2 * (ofs (x, y) v).2) ∧ 4 * ((ofs (x, y) v).1 * (ofs (x, y) v).1 + (ofs (x, y) v).2 * (ofs (x, y) v).2) ≤ (v + v / 255 + 3) * (v + v / 255 + 3) ∧
    2 * max (x * (ofs (x, y) v).1 + y * (ofs (x, y) v).2) (-(x * (ofs (x, y) v).1 + y * (ofs (x, y) v).2)) ≤ max x (-x) + max y (-y) := by
  have hok : ofsOk (x, y) v = true := by
    unfold ofsOk wideB
    simp only [Bool.and_eq_true, inB_iff]
    omega
  obtain ⟨a, b, u, u2, t, t2, m, s, ea, eb, a0, b0, a1, b1, eu, eu2, et, et2, u0, u1, t0, t1, em, es, s1, hO, _⟩ := ofs_ar x y v hok
  rw [hO.out]
  have hm64 : m < 18446744073709551616 := by omega
  obtain ⟨p1, p2⟩ := isq_spec m hm64
  rw [es] at p1 p2
  have hab : 1 ≤ a + b := by
    have ha : x ≠ 0 → 1 ≤ a := fun h => by
      have : a ≠ 0 := fun e => by rw [e] at ea; have := Int.mul_eq_zero.1 ea; omega
      omega
    have hb : y ≠ 0 → 1 ≤ b := fun h => by
      have : b ≠ 0 := fun e => by rw [e] at eb; have := Int.mul_eq_zero.1 eb; omega
      omega
    by_cases h : x = 0
    · have := hb (fun e => hz ⟨h, e⟩); omega
    · have := ha h; omega
  have hs : 256 ≤ s := by
    rcases Nat.lt_or_ge s 256 with h | h
    · have := Nat.mul_le_mul (show s + 1 ≤ 256 by omega) (show s + 1 ≤ 256 by omega)
      omega
    · exact h
  obtain ⟨L, hL⟩ : ∃ L : Int, L = s := ⟨_, rfl⟩
  have hLL : L * L ≤ 65536 * (a + b) := by rw [hL, em]; exact_mod_cast p1
  have hLh : 65536 * (a + b) ≤ L * L + 2 * L := by
    have q : ((m : Nat) : Int) < ((s : Int) + 1) * ((s : Int) + 1) := by exact_mod_cast p2
    have q2 : ((s : Int) + 1) * ((s : Int) + 1) = (s : Int) * s + 2 * s + 1 := by grind
    rw [hL, em]; omega
  have d1 := dvr_off2 u2 (s : Int) (by omega) (by omega)
  have d2 := dvr_off2 t2 (s : Int) (by omega) (by omega)
  rw [← hL] at d1 d2 ⊢
  generalize hnx : dvr u2 L = nx at *
  generalize hny : dvr t2 L = ny at *
  have f1 : L * nx + 128 * v * y = nx * L - u2 := by rw [← eu2, ← eu]; grind
  have f2 : L * ny - 128 * v * x = ny * L - t2 := by rw [← et2, ← et]; grind
  have s1' := half_sq (nx * L - u2) L (by omega) (by omega) (by omega)
  have s2' := half_sq (ny * L - t2) L (by omega) (by omega) (by omega)
  have lo := off_low x y v L nx ny h2 (by omega) (by rw [ea, eb]; exact hLL) (by rw [f1]; exact s1') (by rw [f2]; exact s2')
  have hi := off_high x y v L nx ny (by omega) (by omega) (by rw [ea, eb]; exact hLh) (by rw [f1]; exact s1') (by rw [f2]; exact s2') (v + v / 255 + 3) (by omega)
  have pe := off_perp x y v L nx ny (by omega) (by rw [f1]; omega) (by rw [f1]; omega) (by rw [f2]; omega) (by rw [f2]; omega)
  have bnd : ∀ z : Int, z * z ≤ 268435456 → -16384 ≤ z ∧ z ≤ 16384 := by
    intro z h
    apply Classical.byContradiction
    intro hc
    have := Nat.mul_le_mul (show 16385 ≤ z.natAbs by omega) (show 16385 ≤ z.natAbs by omega)
    rw [← Int.natAbs_mul] at this
    have := sqn z
    omega
  have hT : (v + v / 255 + 3) * (v + v / 255 + 3) ≤ 16451 * 16451 := Int.mul_le_mul (by omega) (by omega) (by omega) (by omega)
  have n1 := sqn nx
  have n2 := sqn ny
  refine ⟨bnd nx (by omega), bnd ny (by omega), lo, hi, ?_⟩
  generalize x * nx + y * ny = o at *
  omega
set_option maxRecDepth 100000 in
set_option maxHeartbeats 8000000 in
theorem walk (x y v : Int) (w : World) (l0 : -9223372036854775808 ≤ x) (u0 : x ≤ 9223372036854775807) (l1 : -9223372036854775808 ≤ y) (u1 : y ≤ 9223372036854775807) (lv : -9223372036854775808 ≤ v) (uv : v ≤ 9223372036854775807) :
    Calls Try.prog 6 #[.agg #[.int .i64 x, .int .i64 y], .int .i64 v] w fun e w' => e = .returned (.bool true) ∧ Below w.heap.size w w' := by
  have g3 := ptGuard
  have g4 := ptEql
  have HS := Lib.hid (show ∀ w', Keeps (w.alloc (.cells #[.int .i64 x, .int .i64 y] 28)) w' → w'.cell? ⟨w.heap.size, 0, none⟩ = some (.int .i64 x) ∧ w'.frozen? ⟨w.heap.size, 0, none⟩ = false ∧ w'.cell? ⟨w.heap.size, 1, none⟩ = some (.int .i64 y) ∧ w'.frozen? ⟨w.heap.size, 1, none⟩ = false from fun w' hk => ⟨(hk.cell (p := ⟨w.heap.size, 0, none⟩) (by first | (simp; done) | (simp; omega))).trans (by simp [go_sem]), (hk.frozen (p := ⟨w.heap.size, 0, none⟩) (by first | (simp; done) | (simp; omega))).trans (by simp [go_sem]), (hk.cell (p := ⟨w.heap.size, 1, none⟩) (by first | (simp; done) | (simp; omega))).trans (by simp [go_sem]), (hk.frozen (p := ⟨w.heap.size, 1, none⟩) (by first | (simp; done) | (simp; omega))).trans (by simp [go_sem])⟩)
  have HB := Lib.hid (show Keeps w (w.alloc (.cells #[.int .i64 x, .int .i64 y] 28)) from (by (repeat (first | (with_reducible exact Keeps.refl _) | (with_reducible assumption) | (with_reducible refine Keeps.drewN ?_ _) | (with_reducible refine Keeps.drew ?_) | (with_reducible refine Keeps.alloc ?_ _) | (with_reducible refine Keeps.setNew ?_ ?_ _))) <;> (dsimp only; omega)))
  have hk0 := Keeps.refl (w.alloc (.cells #[.int .i64 x, .int .i64 y] 28))
  have KA := Lib.hid (fun w => within22_any (x, y) w)
  have KO := Lib.hid (fun w => ofs_any x y v w)
  have K9 := Lib.hid (fun w => example22_any w)
  have hk := hk0
  by_cases hall : vP (x, y) = true ∧ ¬ (x = 0 ∧ y = 0) ∧ 2 ≤ v ∧ v ≤ 16384
  · obtain ⟨hv, hz, h2, h3⟩ := hall
    obtain ⟨_, _, x0, x1, y0, y1⟩ := vP_bd hv
    dsimp only at x0 x1 y0 y1
    obtain ⟨⟨n0, n1⟩, ⟨n2, n3⟩, o1, o2, o3⟩ := ofl x y v ⟨x0, x1⟩ ⟨y0, y1⟩ hz h2 h3
    rw [hv] at KA
    generalize ofs (x, y) v = n at *
    obtain ⟨A, eA, A0, A1⟩ := sq_bd n.1 (by omega) (by omega)
    obtain ⟨B, eB, B0, B1⟩ := sq_bd n.2 (by omega) (by omega)
    obtain ⟨C, eC, C0, C1⟩ := mul_bd x n.1 (by omega) (by omega) (by omega) (by omega)
    obtain ⟨D, eD, D0, D1⟩ := mul_bd y n.2 (by omega) (by omega) (by omega) (by omega)
    obtain ⟨E, eE, E0, E1⟩ := mul_bd (v - 2) (v - 2) (by omega) (by omega) (by omega) (by omega)
    obtain ⟨G, eG, G0, G1⟩ := mul_bd (v + v / 255 + 3) (v + v / 255 + 3) (by omega) (by omega) (by omega) (by omega)
    rw [eA, eB, eE] at o1
    rw [eA, eB, eG] at o2
    rw [eC, eD] at o3
    have t1 : ((x == 0) && (y == 0)) = false := by
      rw [Bool.eq_false_iff]; intro h; simp at h; exact hz h
    have t2 : decide (v < 2) = false := decide_eq_false (by omega)
    have t3 : decide (16384 < v) = false := decide_eq_false (by omega)
    clear hz hv l0 u0 l1 u1 lv uv
    go_enter Try.func6, Try.ntmps6
    go_wp2_with (first | (go_at_call 13; (with_reducible refine (keepk (KO.out _) (by first | assumption | exact Keeps.drew (by assumption) | exact Keeps.drewN (by assumption) _)).mono ?_); rintro e wo ⟨rfl, hk⟩; have hk := hk.alloc (.cells #[.int .i64 n.1, .int .i64 n.2] 28); have hj := Keeps.trans HB.out hk; have hk := hk; obtain ⟨y0, y1, y2, y3⟩ := HS.out _ hk; have c0 : (wo.alloc (.cells #[.int .i64 n.1, .int .i64 n.2] 28)).cell? ⟨wo.heap.size, 0, none⟩ = some (.int .i64 n.1) := (by simp [go_sem]); have c1 : (wo.alloc (.cells #[.int .i64 n.1, .int .i64 n.2] 28)).cell? ⟨wo.heap.size, 1, none⟩ = some (.int .i64 n.2) := (by simp [go_sem]); have hlt : wo.heap.size < (wo.alloc (.cells #[.int .i64 n.1, .int .i64 n.2] 28)).heap.size := (by simp))        | (go_at_call 15; (with_reducible refine (KA.out _).mono ?_); rintro e wi ⟨rfl, hks⟩; have c0 := (hks.cell (p := ⟨wo.heap.size, 0, none⟩) hlt).trans c0; have c1 := (hks.cell (p := ⟨wo.heap.size, 1, none⟩) hlt).trans c1; have hk := hk.trans hks; have hj := Keeps.trans HB.out hk; have hk := hk; obtain ⟨y0, y1, y2, y3⟩ := HS.out _ hk)        | (go_at_call 10; (with_reducible refine (keepk (K9.out _) (by first | assumption | exact Keeps.drew (by assumption) | exact Keeps.drewN (by assumption) _)).mono ?_); rintro e _ ⟨rfl, hk⟩))
    go_ret
    exact ⟨rfl, HB.out.trans hk⟩
  · have h4 : vP (x, y) = false ∨ vP (x, y) = true ∧ ((x == 0) && (y == 0)) = true ∨ vP (x, y) = true ∧ ((x == 0) && (y == 0)) = false ∧ v < 2 ∨ vP (x, y) = true ∧ ((x == 0) && (y == 0)) = false ∧ ¬ v < 2 ∧ 16384 < v := by
      cases hv : vP (x, y) with
      | false => exact Or.inl rfl
      | true =>
        cases hz : ((x == 0) && (y == 0)) with
        | true => exact Or.inr (Or.inl ⟨rfl, rfl⟩)
        | false =>
          have hz2 : ¬ (x = 0 ∧ y = 0) := fun h => by rw [h.1, h.2] at hz; simp at hz
          by_cases h2 : v < 2
          · exact Or.inr (Or.inr (Or.inl ⟨rfl, rfl, h2⟩))
          · exact Or.inr (Or.inr (Or.inr ⟨rfl, rfl, h2, Int.not_le.1 (fun h => hall ⟨hv, hz2, by omega, h⟩)⟩))
    clear hall l0 u0 l1 u1 lv uv
    generalize ofs (x, y) v = n at *
    rcases h4 with h4 | ⟨h4, h5⟩ | ⟨h4, h5, h6⟩ | ⟨h4, h5, h6, h7⟩
    all_goals
      rw [h4] at KA
      clear h4
      go_enter Try.func6, Try.ntmps6
      go_wp2_with (first | (go_at_call 13; (with_reducible refine (keepk (KO.out _) (by first | assumption | exact Keeps.drew (by assumption) | exact Keeps.drewN (by assumption) _)).mono ?_); rintro e wo ⟨rfl, hk⟩; have hk := hk.alloc (.cells #[.int .i64 n.1, .int .i64 n.2] 28); have hj := Keeps.trans HB.out hk; have hk := hk; obtain ⟨y0, y1, y2, y3⟩ := HS.out _ hk; have c0 : (wo.alloc (.cells #[.int .i64 n.1, .int .i64 n.2] 28)).cell? ⟨wo.heap.size, 0, none⟩ = some (.int .i64 n.1) := (by simp [go_sem]); have c1 : (wo.alloc (.cells #[.int .i64 n.1, .int .i64 n.2] 28)).cell? ⟨wo.heap.size, 1, none⟩ = some (.int .i64 n.2) := (by simp [go_sem]); have hlt : wo.heap.size < (wo.alloc (.cells #[.int .i64 n.1, .int .i64 n.2] 28)).heap.size := (by simp))        | (go_at_call 15; (with_reducible refine (KA.out _).mono ?_); rintro e wi ⟨rfl, hks⟩; have c0 := (hks.cell (p := ⟨wo.heap.size, 0, none⟩) hlt).trans c0; have c1 := (hks.cell (p := ⟨wo.heap.size, 1, none⟩) hlt).trans c1; have hk := hk.trans hks; have hj := Keeps.trans HB.out hk; have hk := hk; obtain ⟨y0, y1, y2, y3⟩ := HS.out _ hk)        | (go_at_call 10; (with_reducible refine (keepk (K9.out _) (by first | assumption | exact Keeps.drew (by assumption) | exact Keeps.drewN (by assumption) _)).mono ?_); rintro e _ ⟨rfl, hk⟩))
      go_ret
      exact ⟨rfl, HB.out.trans hk⟩

set_option maxRecDepth 100000 in
theorem lifted (os : Os) (started : os.Started) (H : Type) (enc : TypeId × Value → H) :
    ReturnsInHanded {} Try.checked os 6 .any (Rows.strokegeomOffsetLengthSpec.pre6 enc Try.prog Try.f6 Rows.strokegeomOffsetLengthRow.domain false) (Rows.strokegeomOffsetLengthSpec.post enc Try.prog Try.f6 false true false false) := by
  refine returnsInHanded_of_change (C := Try.checked) Try.own started (by kernel_rfl) Try.func6
    (ChangeSpec.witness6 (enc := enc) (C := Try.checked) false ⟨#[], #[.agg #[.int .i64 0, .int .i64 0], .int .i64 0], []⟩ 8 (by kernel_rfl) (by kernel_rfl) (by kernel_rfl) (by kernel_rfl)) ?_
  intro W base args ds gs before hval0 hW hcnd _
  have hval : ∀ (j : Nat) t v, Try.f6.params[j]? = some t → args[j]? = some v → Value.okWide Try.prog W .any base t v := hval0
  have hW' := hW
  obtain ⟨p, q, hA0, hV, rfl, hfz, hnd⟩ := hW
  have hA : DataW.TrodAll enc Try.prog W 0 (fun _ => true) true Try.f6.params.toList args.toList ds p := hA0
  have hAll := hA
  rw [Try.params6] at hA hval
  obtain ⟨v0, vs0, d0, ds0, p0, q0, hargs, rfl, rfl, h0, r0⟩ := trodAll_cons hA
  obtain ⟨v1, vs1, d1, ds1, p1, q1, rfl, rfl, rfl, h1, r1⟩ := trodAll_cons r0
  obtain ⟨rfl, rfl, rfl⟩ := trodAll_nil r1
  obtain rfl : args = #[v0, v1] := by cases args; simp_all
  obtain ⟨rfl, rfl⟩ := trodVars_none hV
  obtain ⟨c0, rfl, L0_0⟩ := open_flat (ks := [some .i64, some .i64]) (by kernel_rfl) (by kernel_rfl) (hval 0 28 v0 rfl rfl) h0
  obtain ⟨_, c0_0, rfl, ⟨a0_0, rfl, w0_0⟩, L0_1⟩ := leafs_cons L0_0
  obtain ⟨l0_0, u0_0⟩ := bounds_i64 w0_0
  obtain ⟨_, c0_1, rfl, ⟨a0_1, rfl, w0_1⟩, L0_2⟩ := leafs_cons L0_1
  obtain ⟨l0_1, u0_1⟩ := bounds_i64 w0_1
  obtain rfl := leafs_nil L0_2
  obtain ⟨a1, rfl, _, _, w1⟩ := open_int Try.underlying3 (hval 1 3 v1 rfl rfl) h1
  obtain ⟨l1, u1⟩ := bounds_i64 w1
  clear hA0 hval0
  refine (walk a0_0 a0_1 a1 W l0_0 u0_0 l0_1 u0_1 l1 u1).mono fun e W' ⟨he, bel⟩ => ?_
  subst he
  exact ⟨_, rfl, _, _, _, [], _, [], hW', trodAll_mk1 (shut_bool Try.underlying4 _), below_trodAll Try.laidOut bel (reads_of (by kernel_rfl)) hAll, rfl, bel.frame _, fun h => by cases h⟩

theorem over : Rows.strokegeomOffsetLengthRow.holds Try.pinned (OpenSpec.ofChange Rows.strokegeomOffsetLengthSpec) :=
  OpenClaim.holds_of_wide 6 Try.f6 rfl rfl rfl rfl rfl rfl rfl ⟨rfl, rfl, rfl, rfl, rfl⟩ rfl rfl rfl rfl rfl (by kernel_rfl) Try.func6 (by kernel_rfl)
    (of_decide_eq_true (by kernel_rfl)) (by unfold Func.isWrapper; first | (rw [if_pos (by decide +kernel)]; kernel_rfl) | (rw [if_neg (by decide +kernel)]; exact ⟨rfl, rfl⟩))
    (fun os started H enc _ => lifted os started H enc)

/-- The statement. -/
theorem proved : Rows.StrokegeomOffsetLengthSaid := over
#print axioms proved
end Go.Proofs.Ytgkdcipebefmhaa.strokegeomOffsetLength
