/- ColorPremultiply of grisaillelaw27 returns true for all its arguments: every color; no condition. -/
import Derived.Test.YtjfimlcljbdglaaE27
import Derived.Test.YtjfimlcljbdglaaRc
import Derived.Test.YtjfimlcljbdglaaOp
import Derived.Test.YtjfimlcljbdglaaKk
namespace Go.Proofs.Ytjfimlcljbdglaa.colorPremultiply
open Go.RowKit Go.ChangeShapes Go.WideShapes Go.ChangeAt
set_option linter.unusedVariables false
open Go.Proofs.Ytjfimlcljbdglaa
set_option maxRecDepth 100000 in
set_option maxHeartbeats 1000000 in
theorem walk (a0 a1 a2 a3 : Int) (w : World) (l0 : 0 ≤ a0) (u0 : a0 ≤ 255) (l1 : 0 ≤ a1) (u1 : a1 ≤ 255) (l2 : 0 ≤ a2) (u2 : a2 ≤ 255) (l3 : 0 ≤ a3) (u3 : a3 ≤ 255) :
    Calls Try.prog 4 #[.agg #[.int .u8 a0, .int .u8 a1, .int .u8 a2, .int .u8 a3]] w fun e w' => e = .returned (.bool true) ∧ Below w.heap.size w w' := by
  obtain ⟨p, rfl⟩ := Int.eq_ofNat_of_zero_le l0
  obtain ⟨q, rfl⟩ := Int.eq_ofNat_of_zero_le l1
  obtain ⟨r, rfl⟩ := Int.eq_ofNat_of_zero_le l2
  obtain ⟨t, rfl⟩ := Int.eq_ofNat_of_zero_le l3
  have b0 := mn8_bd p t l0 u0 l3 u3
  have b1 := mn8_bd q t l1 u1 l3 u3
  have b2 := mn8_bd r t l2 u2 l3 u3
  have G1 := fun w => prem_any p q r t w ⟨l0, u0⟩ ⟨l1, u1⟩ ⟨l2, u2⟩ ⟨l3, u3⟩
  have G2 := fun w => rprem_any p q r t w ⟨l0, u0⟩ ⟨l1, u1⟩ ⟨l2, u2⟩ ⟨l3, u3⟩
  have G3 := fun w => validc_any (mn8 p t) (mn8 q t) (mn8 r t) t w ⟨b0.1, by omega⟩ ⟨b1.1, by omega⟩ ⟨b2.1, by omega⟩ ⟨l3, u3⟩
  rw [validP_all b0.2.2 b1.2.2 b2.2.2] at G3
  have G4 := fun w => format_any p q r t w (by omega) (by omega) (by omega) (by omega)
  have G5 := fun w => format27_any p q r t w (by omega) (by omega) (by omega) (by omega)
  generalize mn8 p t = r0 at *
  generalize mn8 q t = r1 at *
  generalize mn8 r t = r2 at *
  generalize strB (fmtL p q r t) = S at *
  have q1 := eq4_refl r0 r1 r2 t
  have q2 : (S.toList == S.toList) = true := beq_self_eq_true _
  have g1 := pxGuard
  have g2 := pxEql
  have HS := Lib.hid (show ∀ w', Keeps (w.alloc (.cells #[.int .u8 (p : Int), .int .u8 (q : Int), .int .u8 (r : Int), .int .u8 (t : Int)] 23)) w' → w'.cell? ⟨w.heap.size, 0, none⟩ = some (.int .u8 (p : Int)) ∧ w'.frozen? ⟨w.heap.size, 0, none⟩ = false ∧ w'.cell? ⟨w.heap.size, 1, none⟩ = some (.int .u8 (q : Int)) ∧ w'.frozen? ⟨w.heap.size, 1, none⟩ = false ∧ w'.cell? ⟨w.heap.size, 2, none⟩ = some (.int .u8 (r : Int)) ∧ w'.frozen? ⟨w.heap.size, 2, none⟩ = false ∧ w'.cell? ⟨w.heap.size, 3, none⟩ = some (.int .u8 (t : Int)) ∧ w'.frozen? ⟨w.heap.size, 3, none⟩ = false from fun w' hk => ⟨(hk.cell (p := ⟨w.heap.size, 0, none⟩) (by first | (simp; done) | (simp; omega))).trans (by simp [go_sem]), (hk.frozen (p := ⟨w.heap.size, 0, none⟩) (by first | (simp; done) | (simp; omega))).trans (by simp [go_sem]), (hk.cell (p := ⟨w.heap.size, 1, none⟩) (by first | (simp; done) | (simp; omega))).trans (by simp [go_sem]), (hk.frozen (p := ⟨w.heap.size, 1, none⟩) (by first | (simp; done) | (simp; omega))).trans (by simp [go_sem]), (hk.cell (p := ⟨w.heap.size, 2, none⟩) (by first | (simp; done) | (simp; omega))).trans (by simp [go_sem]), (hk.frozen (p := ⟨w.heap.size, 2, none⟩) (by first | (simp; done) | (simp; omega))).trans (by simp [go_sem]), (hk.cell (p := ⟨w.heap.size, 3, none⟩) (by first | (simp; done) | (simp; omega))).trans (by simp [go_sem]), (hk.frozen (p := ⟨w.heap.size, 3, none⟩) (by first | (simp; done) | (simp; omega))).trans (by simp [go_sem])⟩)
  have HB := Lib.hid (show Keeps w (w.alloc (.cells #[.int .u8 (p : Int), .int .u8 (q : Int), .int .u8 (r : Int), .int .u8 (t : Int)] 23)) from (by (repeat (first | (with_reducible exact Keeps.refl _) | (with_reducible assumption) | (with_reducible refine Keeps.drewN ?_ _) | (with_reducible refine Keeps.drew ?_) | (with_reducible refine Keeps.alloc ?_ _) | (with_reducible refine Keeps.setNew ?_ ?_ _))) <;> (dsimp only; omega)))
  have hk0 := Keeps.refl (w.alloc (.cells #[.int .u8 (p : Int), .int .u8 (q : Int), .int .u8 (r : Int), .int .u8 (t : Int)] 23))
  have K1 := Lib.hid (fun k : KW (w.alloc (.cells #[.int .u8 (p : Int), .int .u8 (q : Int), .int .u8 (r : Int), .int .u8 (t : Int)] 23)) => keepq (G1 k.w))
  have K2 := Lib.hid (fun k : KW (w.alloc (.cells #[.int .u8 (p : Int), .int .u8 (q : Int), .int .u8 (r : Int), .int .u8 (t : Int)] 23)) => keepq (G2 k.w))
  have K3 := Lib.hid (fun k : KW (w.alloc (.cells #[.int .u8 (p : Int), .int .u8 (q : Int), .int .u8 (r : Int), .int .u8 (t : Int)] 23)) => keepq (G3 k.w))
  have K4 := Lib.hid (fun k : KW (w.alloc (.cells #[.int .u8 (p : Int), .int .u8 (q : Int), .int .u8 (r : Int), .int .u8 (t : Int)] 23)) => keepq (G4 k.w))
  have K5 := Lib.hid (fun k : KW (w.alloc (.cells #[.int .u8 (p : Int), .int .u8 (q : Int), .int .u8 (r : Int), .int .u8 (t : Int)] 23)) => keepq (G5 k.w))
  have K6 := Lib.hid (fun k : KW (w.alloc (.cells #[.int .u8 (p : Int), .int .u8 (q : Int), .int .u8 (r : Int), .int .u8 (t : Int)] 23)) => keepq (example27_any k.w))
  have z0 : ∀ k : KW (w.alloc (.cells #[.int .u8 (p : Int), .int .u8 (q : Int), .int .u8 (r : Int), .int .u8 (t : Int)] 23)), k.w.cell? ⟨w.heap.size, 0, none⟩ = some (.int .u8 (p : Int)) := fun k => (HS.out _ k.keeps).1
  have z1 : ∀ k : KW (w.alloc (.cells #[.int .u8 (p : Int), .int .u8 (q : Int), .int .u8 (r : Int), .int .u8 (t : Int)] 23)), k.w.cell? ⟨w.heap.size, 1, none⟩ = some (.int .u8 (q : Int)) := fun k => (HS.out _ k.keeps).2.2.1
  have z2 : ∀ k : KW (w.alloc (.cells #[.int .u8 (p : Int), .int .u8 (q : Int), .int .u8 (r : Int), .int .u8 (t : Int)] 23)), k.w.cell? ⟨w.heap.size, 2, none⟩ = some (.int .u8 (r : Int)) := fun k => (HS.out _ k.keeps).2.2.2.2.1
  have z3 : ∀ k : KW (w.alloc (.cells #[.int .u8 (p : Int), .int .u8 (q : Int), .int .u8 (r : Int), .int .u8 (t : Int)] 23)), k.w.cell? ⟨w.heap.size, 3, none⟩ = some (.int .u8 (t : Int)) := fun k => (HS.out _ k.keeps).2.2.2.2.2.2.1
  clear G1 G2 G3 G4 G5 b0 b1 b2
  go_enter Try.func4, Try.ntmps4
  go_wp2_with fail
  refine wp_region_kept ((w.alloc (.cells #[.int .u8 (p : Int), .int .u8 (q : Int), .int .u8 (r : Int), .int .u8 (t : Int)] 23))) (by kernel_rfl) (by kernel_rfl) (hk0) ?_
  repeat (first | go_big_quiet_skip | (go_big_quiet_want; go_big_quiet_op; first | go_big_quiet_on | go_big_quiet_call ((first | (go_at_call 17; first | (with_reducible exact K1.out _)) | (go_at_call 18; first | (with_reducible exact K2.out _)) | (go_at_call 19; first | (with_reducible exact K3.out _)) | (go_at_call 15; first | (with_reducible exact K4.out _)) | (go_at_call 20; first | (with_reducible exact K5.out _)) | (go_at_call 16; first | (with_reducible exact K6.out _))))))
  refine wpQuiet_nil ?_
  rintro w' ⟨k9, rfl⟩
  have hk := k9.keeps
  generalize k9.w = w9 at hk ⊢
  clear k9
  go_wp2_with fail
  go_ret
  exact ⟨rfl, HB.out.trans hk⟩

set_option maxRecDepth 100000 in
theorem lifted (os : Os) (started : os.Started) (H : Type) (enc : TypeId × Value → H) :
    ReturnsInHanded {} Try.checked os 4 .any (Rows.colorPremultiplySpec.pre6 enc Try.prog Try.f4 Rows.colorPremultiplyRow.domain false) (Rows.colorPremultiplySpec.post enc Try.prog Try.f4 false true false false) := by
  refine returnsInHanded_of_change (C := Try.checked) Try.own started (by kernel_rfl) Try.func4
    (ChangeSpec.witness6 (enc := enc) (C := Try.checked) false ⟨#[], #[.agg #[.int .u8 0, .int .u8 0, .int .u8 0, .int .u8 0]], []⟩ 8 (by kernel_rfl) (by kernel_rfl) (by kernel_rfl) (by kernel_rfl)) ?_
  intro W base args ds gs before hval0 hW hcnd _
  have hval : ∀ (j : Nat) t v, Try.f4.params[j]? = some t → args[j]? = some v → Value.okWide Try.prog W .any base t v := hval0
  have hW' := hW
  obtain ⟨p, q, hA0, hV, rfl, hfz, hnd⟩ := hW
  have hA : DataW.TrodAll enc Try.prog W 0 (fun _ => true) true Try.f4.params.toList args.toList ds p := hA0
  have hAll := hA
  rw [Try.params4] at hA hval
  obtain ⟨v0, vs0, d0, ds0, p0, q0, hargs, rfl, rfl, h0, r0⟩ := trodAll_cons hA
  obtain ⟨rfl, rfl, rfl⟩ := trodAll_nil r0
  obtain rfl : args = #[v0] := by cases args; simp_all
  obtain ⟨rfl, rfl⟩ := trodVars_none hV
  obtain ⟨c0, rfl, L0_0⟩ := open_flat (ks := [some .u8, some .u8, some .u8, some .u8]) (by kernel_rfl) (by kernel_rfl) (hval 0 23 v0 rfl rfl) h0
  obtain ⟨_, c0_0, rfl, ⟨a0_0, rfl, w0_0⟩, L0_1⟩ := leafs_cons L0_0
  obtain ⟨l0_0, u0_0⟩ := bounds_u8 w0_0
  obtain ⟨_, c0_1, rfl, ⟨a0_1, rfl, w0_1⟩, L0_2⟩ := leafs_cons L0_1
  obtain ⟨l0_1, u0_1⟩ := bounds_u8 w0_1
  obtain ⟨_, c0_2, rfl, ⟨a0_2, rfl, w0_2⟩, L0_3⟩ := leafs_cons L0_2
  obtain ⟨l0_2, u0_2⟩ := bounds_u8 w0_2
  obtain ⟨_, c0_3, rfl, ⟨a0_3, rfl, w0_3⟩, L0_4⟩ := leafs_cons L0_3
  obtain ⟨l0_3, u0_3⟩ := bounds_u8 w0_3
  obtain rfl := leafs_nil L0_4
  clear hA0 hval0
  refine (walk a0_0 a0_1 a0_2 a0_3 W l0_0 u0_0 l0_1 u0_1 l0_2 u0_2 l0_3 u0_3).mono fun e W' ⟨he, bel⟩ => ?_
  subst he
  exact ⟨_, rfl, _, _, _, [], _, [], hW', trodAll_mk1 (shut_bool Try.underlying4 _), below_trodAll Try.laidOut bel (reads_of (by kernel_rfl)) hAll, rfl, bel.frame _, fun h => by cases h⟩

theorem over : Rows.colorPremultiplyRow.holds Try.pinned (OpenSpec.ofChange Rows.colorPremultiplySpec) :=
  OpenClaim.holds_of_wide 4 Try.f4 rfl rfl rfl rfl rfl rfl rfl ⟨rfl, rfl, rfl, rfl, rfl⟩ rfl rfl rfl rfl rfl (by kernel_rfl) Try.func4 (by kernel_rfl)
    (of_decide_eq_true (by kernel_rfl)) (by unfold Func.isWrapper; first | (rw [if_pos (by decide +kernel)]; kernel_rfl) | (rw [if_neg (by decide +kernel)]; exact ⟨rfl, rfl⟩))
    (fun os started H enc _ => lifted os started H enc)

/-- The statement. -/
theorem proved : Rows.ColorPremultiplySaid := over
#print axioms proved
end Go.Proofs.Ytjfimlcljbdglaa.colorPremultiply
