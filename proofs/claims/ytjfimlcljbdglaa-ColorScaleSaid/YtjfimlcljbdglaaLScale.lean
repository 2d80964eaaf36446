/- ColorScale of grisaillelaw27 returns true for all its arguments: every two pixels and every weight; no condition. -/
import Derived.Test.YtjfimlcljbdglaaE27
import Derived.Test.YtjfimlcljbdglaaCj
import Derived.Test.YtjfimlcljbdglaaOp
import Derived.Test.YtjfimlcljbdglaaKk
namespace Go.Proofs.Ytjfimlcljbdglaa.colorScale
open Go.RowKit Go.ChangeShapes Go.WideShapes Go.ChangeAt
set_option linter.unusedVariables false
open Go.Proofs.Ytjfimlcljbdglaa
set_option maxRecDepth 100000 in
set_option maxHeartbeats 2000000 in
theorem walk (p q r t x y z v k : Int) (w : World) (l0 : 0 ≤ p) (u0 : p ≤ 255) (l1 : 0 ≤ q) (u1 : q ≤ 255) (l2 : 0 ≤ r) (u2 : r ≤ 255) (l3 : 0 ≤ t) (u3 : t ≤ 255) (m0 : 0 ≤ x) (n0 : x ≤ 255) (m1 : 0 ≤ y) (n1 : y ≤ 255) (m2 : 0 ≤ z) (n2 : z ≤ 255) (m3 : 0 ≤ v) (n3 : v ≤ 255) (lk : 0 ≤ k) (uk : k ≤ 255) :
    Calls Try.prog 6 #[.agg #[.int .u8 p, .int .u8 q, .int .u8 r, .int .u8 t], .agg #[.int .u8 x, .int .u8 y, .int .u8 z, .int .u8 v], .int .u8 k] w fun e w' => e = .returned (.bool true) ∧ Below w.heap.size w w' := by
  have b0 : u8b p := ⟨l0, u0⟩
  have b1 : u8b q := ⟨l1, u1⟩
  have b2 : u8b r := ⟨l2, u2⟩
  have b3 : u8b t := ⟨l3, u3⟩
  have c0 : u8b x := ⟨m0, n0⟩
  have c1 : u8b y := ⟨m1, n1⟩
  have c2 : u8b z := ⟨m2, n2⟩
  have c3 : u8b v := ⟨m3, n3⟩
  have bk : u8b k := ⟨lk, uk⟩
  have bz : u8b 0 := ⟨by omega, by omega⟩
  have bf : u8b 255 := ⟨by omega, by omega⟩
  have G1 := fun w => scale_any p q r t k w b0 b1 b2 b3 bk
  have G2 := fun w => rscale_any p q r t k w b0 b1 b2 b3 bk
  have G3 := fun w => clerp_any p q r t x y z v k w b0 b1 b2 b3 c0 c1 c2 c3 bk
  have G4 := fun w => rlerp4_any p q r t x y z v k w b0 b1 b2 b3 c0 c1 c2 c3 bk
  have G5 := fun w => clerp_any p q r t x y z v 0 w b0 b1 b2 b3 c0 c1 c2 c3 bz
  rw [lp8_0 p x b0, lp8_0 q y b1, lp8_0 r z b2, lp8_0 t v b3] at G5
  have G6 := fun w => clerp_any p q r t x y z v 255 w b0 b1 b2 b3 c0 c1 c2 c3 bf
  rw [lp8_255 p x c0, lp8_255 q y c1, lp8_255 r z c2, lp8_255 t v c3] at G6
  have G7 := fun w => scale_any p q r t 255 w b0 b1 b2 b3 bf
  rw [mn8_255, mn8_255, mn8_255, mn8_255] at G7
  have G8 := fun w => scale_any p q r t 0 w b0 b1 b2 b3 bz
  rw [mn8_comm p 0, mn8_comm q 0, mn8_comm r 0, mn8_comm t 0, mn8_zero, mn8_zero, mn8_zero, mn8_zero] at G8
  have q1 := eq4_refl (mn8 p k) (mn8 q k) (mn8 r k) (mn8 t k)
  have q2 := eq4_refl (lp8 p x k) (lp8 q y k) (lp8 r z k) (lp8 t v k)
  generalize mn8 p k = r0 at *
  generalize mn8 q k = r1 at *
  generalize mn8 r k = r2 at *
  generalize mn8 t k = r3 at *
  generalize lp8 p x k = s0 at *
  generalize lp8 q y k = s1 at *
  generalize lp8 r z k = s2 at *
  generalize lp8 t v k = s3 at *
  have q3 := eq4_refl p q r t
  have q4 := eq4_refl x y z v
  have q5 := eq4_refl 0 0 0 0
  have g1 := pxGuard
  have g2 := pxEql
  have HS := Lib.hid (show ∀ w', Keeps ((w.alloc (.cells #[.int .u8 p, .int .u8 q, .int .u8 r, .int .u8 t] 30)).alloc (.cells #[.int .u8 x, .int .u8 y, .int .u8 z, .int .u8 v] 30)) w' → w'.cell? ⟨w.heap.size, 0, none⟩ = some (.int .u8 p) ∧ w'.frozen? ⟨w.heap.size, 0, none⟩ = false ∧ w'.cell? ⟨w.heap.size, 1, none⟩ = some (.int .u8 q) ∧ w'.frozen? ⟨w.heap.size, 1, none⟩ = false ∧ w'.cell? ⟨w.heap.size, 2, none⟩ = some (.int .u8 r) ∧ w'.frozen? ⟨w.heap.size, 2, none⟩ = false ∧ w'.cell? ⟨w.heap.size, 3, none⟩ = some (.int .u8 t) ∧ w'.frozen? ⟨w.heap.size, 3, none⟩ = false ∧ w'.cell? ⟨w.heap.size + 1, 0, none⟩ = some (.int .u8 x) ∧ w'.frozen? ⟨w.heap.size + 1, 0, none⟩ = false ∧ w'.cell? ⟨w.heap.size + 1, 1, none⟩ = some (.int .u8 y) ∧ w'.frozen? ⟨w.heap.size + 1, 1, none⟩ = false ∧ w'.cell? ⟨w.heap.size + 1, 2, none⟩ = some (.int .u8 z) ∧ w'.frozen? ⟨w.heap.size + 1, 2, none⟩ = false ∧ w'.cell? ⟨w.heap.size + 1, 3, none⟩ = some (.int .u8 v) ∧ w'.frozen? ⟨w.heap.size + 1, 3, none⟩ = false from fun w' hk => ⟨(hk.cell (p := ⟨w.heap.size, 0, none⟩) (by first | (simp; done) | (simp; omega))).trans (by simp [go_sem]), (hk.frozen (p := ⟨w.heap.size, 0, none⟩) (by first | (simp; done) | (simp; omega))).trans (by simp [go_sem]), (hk.cell (p := ⟨w.heap.size, 1, none⟩) (by first | (simp; done) | (simp; omega))).trans (by simp [go_sem]), (hk.frozen (p := ⟨w.heap.size, 1, none⟩) (by first | (simp; done) | (simp; omega))).trans (by simp [go_sem]), (hk.cell (p := ⟨w.heap.size, 2, none⟩) (by first | (simp; done) | (simp; omega))).trans (by simp [go_sem]), (hk.frozen (p := ⟨w.heap.size, 2, none⟩) (by first | (simp; done) | (simp; omega))).trans (by simp [go_sem]), (hk.cell (p := ⟨w.heap.size, 3, none⟩) (by first | (simp; done) | (simp; omega))).trans (by simp [go_sem]), (hk.frozen (p := ⟨w.heap.size, 3, none⟩) (by first | (simp; done) | (simp; omega))).trans (by simp [go_sem]), (hk.cell (p := ⟨w.heap.size + 1, 0, none⟩) (by first | (simp; done) | (simp; omega))).trans (by simp [go_sem]), (hk.frozen (p := ⟨w.heap.size + 1, 0, none⟩) (by first | (simp; done) | (simp; omega))).trans (by simp [go_sem]), (hk.cell (p := ⟨w.heap.size + 1, 1, none⟩) (by first | (simp; done) | (simp; omega))).trans (by simp [go_sem]), (hk.frozen (p := ⟨w.heap.size + 1, 1, none⟩) (by first | (simp; done) | (simp; omega))).trans (by simp [go_sem]), (hk.cell (p := ⟨w.heap.size + 1, 2, none⟩) (by first | (simp; done) | (simp; omega))).trans (by simp [go_sem]), (hk.frozen (p := ⟨w.heap.size + 1, 2, none⟩) (by first | (simp; done) | (simp; omega))).trans (by simp [go_sem]), (hk.cell (p := ⟨w.heap.size + 1, 3, none⟩) (by first | (simp; done) | (simp; omega))).trans (by simp [go_sem]), (hk.frozen (p := ⟨w.heap.size + 1, 3, none⟩) (by first | (simp; done) | (simp; omega))).trans (by simp [go_sem])⟩)
  have HB := Lib.hid (show Keeps w ((w.alloc (.cells #[.int .u8 p, .int .u8 q, .int .u8 r, .int .u8 t] 30)).alloc (.cells #[.int .u8 x, .int .u8 y, .int .u8 z, .int .u8 v] 30)) from (by (repeat (first | (with_reducible exact Keeps.refl _) | (with_reducible assumption) | (with_reducible refine Keeps.drewN ?_ _) | (with_reducible refine Keeps.drew ?_) | (with_reducible refine Keeps.alloc ?_ _) | (with_reducible refine Keeps.setNew ?_ ?_ _))) <;> (dsimp only; omega)))
  have hk0 := Keeps.refl ((w.alloc (.cells #[.int .u8 p, .int .u8 q, .int .u8 r, .int .u8 t] 30)).alloc (.cells #[.int .u8 x, .int .u8 y, .int .u8 z, .int .u8 v] 30))
  have K1 := Lib.hid (fun k : KW ((w.alloc (.cells #[.int .u8 p, .int .u8 q, .int .u8 r, .int .u8 t] 30)).alloc (.cells #[.int .u8 x, .int .u8 y, .int .u8 z, .int .u8 v] 30)) => keepq (G1 k.w))
  have K2 := Lib.hid (fun k : KW ((w.alloc (.cells #[.int .u8 p, .int .u8 q, .int .u8 r, .int .u8 t] 30)).alloc (.cells #[.int .u8 x, .int .u8 y, .int .u8 z, .int .u8 v] 30)) => keepq (G2 k.w))
  have K3 := Lib.hid (fun k : KW ((w.alloc (.cells #[.int .u8 p, .int .u8 q, .int .u8 r, .int .u8 t] 30)).alloc (.cells #[.int .u8 x, .int .u8 y, .int .u8 z, .int .u8 v] 30)) => keepq (G3 k.w))
  have K4 := Lib.hid (fun k : KW ((w.alloc (.cells #[.int .u8 p, .int .u8 q, .int .u8 r, .int .u8 t] 30)).alloc (.cells #[.int .u8 x, .int .u8 y, .int .u8 z, .int .u8 v] 30)) => keepq (G4 k.w))
  have K5 := Lib.hid (fun k : KW ((w.alloc (.cells #[.int .u8 p, .int .u8 q, .int .u8 r, .int .u8 t] 30)).alloc (.cells #[.int .u8 x, .int .u8 y, .int .u8 z, .int .u8 v] 30)) => keepq (G5 k.w))
  have K6 := Lib.hid (fun k : KW ((w.alloc (.cells #[.int .u8 p, .int .u8 q, .int .u8 r, .int .u8 t] 30)).alloc (.cells #[.int .u8 x, .int .u8 y, .int .u8 z, .int .u8 v] 30)) => keepq (G6 k.w))
  have K7 := Lib.hid (fun k : KW ((w.alloc (.cells #[.int .u8 p, .int .u8 q, .int .u8 r, .int .u8 t] 30)).alloc (.cells #[.int .u8 x, .int .u8 y, .int .u8 z, .int .u8 v] 30)) => keepq (G7 k.w))
  have K8 := Lib.hid (fun k : KW ((w.alloc (.cells #[.int .u8 p, .int .u8 q, .int .u8 r, .int .u8 t] 30)).alloc (.cells #[.int .u8 x, .int .u8 y, .int .u8 z, .int .u8 v] 30)) => keepq (G8 k.w))
  have K9 := Lib.hid (fun k : KW ((w.alloc (.cells #[.int .u8 p, .int .u8 q, .int .u8 r, .int .u8 t] 30)).alloc (.cells #[.int .u8 x, .int .u8 y, .int .u8 z, .int .u8 v] 30)) => keepq (example27_any k.w))
  have z0 : ∀ k : KW ((w.alloc (.cells #[.int .u8 p, .int .u8 q, .int .u8 r, .int .u8 t] 30)).alloc (.cells #[.int .u8 x, .int .u8 y, .int .u8 z, .int .u8 v] 30)), k.w.cell? ⟨w.heap.size, 0, none⟩ = some (.int .u8 p) := fun k => (HS.out _ k.keeps).1
  have z1 : ∀ k : KW ((w.alloc (.cells #[.int .u8 p, .int .u8 q, .int .u8 r, .int .u8 t] 30)).alloc (.cells #[.int .u8 x, .int .u8 y, .int .u8 z, .int .u8 v] 30)), k.w.cell? ⟨w.heap.size, 1, none⟩ = some (.int .u8 q) := fun k => (HS.out _ k.keeps).2.2.1
  have z2 : ∀ k : KW ((w.alloc (.cells #[.int .u8 p, .int .u8 q, .int .u8 r, .int .u8 t] 30)).alloc (.cells #[.int .u8 x, .int .u8 y, .int .u8 z, .int .u8 v] 30)), k.w.cell? ⟨w.heap.size, 2, none⟩ = some (.int .u8 r) := fun k => (HS.out _ k.keeps).2.2.2.2.1
  have z3 : ∀ k : KW ((w.alloc (.cells #[.int .u8 p, .int .u8 q, .int .u8 r, .int .u8 t] 30)).alloc (.cells #[.int .u8 x, .int .u8 y, .int .u8 z, .int .u8 v] 30)), k.w.cell? ⟨w.heap.size, 3, none⟩ = some (.int .u8 t) := fun k => (HS.out _ k.keeps).2.2.2.2.2.2.1
  have z4 : ∀ k : KW ((w.alloc (.cells #[.int .u8 p, .int .u8 q, .int .u8 r, .int .u8 t] 30)).alloc (.cells #[.int .u8 x, .int .u8 y, .int .u8 z, .int .u8 v] 30)), k.w.cell? ⟨w.heap.size + 1, 0, none⟩ = some (.int .u8 x) := fun k => (HS.out _ k.keeps).2.2.2.2.2.2.2.2.1
  have z5 : ∀ k : KW ((w.alloc (.cells #[.int .u8 p, .int .u8 q, .int .u8 r, .int .u8 t] 30)).alloc (.cells #[.int .u8 x, .int .u8 y, .int .u8 z, .int .u8 v] 30)), k.w.cell? ⟨w.heap.size + 1, 1, none⟩ = some (.int .u8 y) := fun k => (HS.out _ k.keeps).2.2.2.2.2.2.2.2.2.2.1
  have z6 : ∀ k : KW ((w.alloc (.cells #[.int .u8 p, .int .u8 q, .int .u8 r, .int .u8 t] 30)).alloc (.cells #[.int .u8 x, .int .u8 y, .int .u8 z, .int .u8 v] 30)), k.w.cell? ⟨w.heap.size + 1, 2, none⟩ = some (.int .u8 z) := fun k => (HS.out _ k.keeps).2.2.2.2.2.2.2.2.2.2.2.2.1
  have z7 : ∀ k : KW ((w.alloc (.cells #[.int .u8 p, .int .u8 q, .int .u8 r, .int .u8 t] 30)).alloc (.cells #[.int .u8 x, .int .u8 y, .int .u8 z, .int .u8 v] 30)), k.w.cell? ⟨w.heap.size + 1, 3, none⟩ = some (.int .u8 v) := fun k => (HS.out _ k.keeps).2.2.2.2.2.2.2.2.2.2.2.2.2.2.1
  clear G1 G2 G3 G4 G5 G6 G7 G8 b0 b1 b2 b3 c0 c1 c2 c3 bk bz bf
  clear l0 u0 l1 u1 l2 u2 l3 u3 m0 n0 m1 n1 m2 n2 m3 n3 lk uk
  go_enter Try.func6, Try.ntmps6
  go_wp2_with fail
  refine wp_region_kept (((w.alloc (.cells #[.int .u8 p, .int .u8 q, .int .u8 r, .int .u8 t] 30)).alloc (.cells #[.int .u8 x, .int .u8 y, .int .u8 z, .int .u8 v] 30))) (by kernel_rfl) (by kernel_rfl) (hk0) ?_
  repeat (first | go_big_quiet_skip | (go_big_quiet_want; go_big_quiet_op; first | go_big_quiet_on | go_big_quiet_call ((first | (go_at_call 26; first | (with_reducible exact K1.out _) | (with_reducible exact K7.out _) | (with_reducible exact K8.out _)) | (go_at_call 27; first | (with_reducible exact K2.out _)) | (go_at_call 28; first | (with_reducible exact K3.out _) | (with_reducible exact K5.out _) | (with_reducible exact K6.out _)) | (go_at_call 29; first | (with_reducible exact K4.out _)) | (go_at_call 16; first | (with_reducible exact K9.out _))))))
  refine wpQuiet_nil ?_
  rintro w' ⟨k9, rfl⟩
  have hk := k9.keeps
  generalize k9.w = w9 at hk ⊢
  clear k9
  go_wp2_with fail
  go_ret
  exact ⟨rfl, HB.out.trans hk⟩

set_option maxRecDepth 100000 in
theorem lifted (os : Os) (started : os.Started) (H : Type) (enc : TypeId × Value → H) :
    ReturnsInHanded {} Try.checked os 6 .any (Rows.colorScaleSpec.pre6 enc Try.prog Try.f6 Rows.colorScaleRow.domain false) (Rows.colorScaleSpec.post enc Try.prog Try.f6 false true false false) := by
  refine returnsInHanded_of_change (C := Try.checked) Try.own started (by kernel_rfl) Try.func6
    (ChangeSpec.witness6 (enc := enc) (C := Try.checked) false ⟨#[], #[.agg #[.int .u8 0, .int .u8 0, .int .u8 0, .int .u8 0], .agg #[.int .u8 0, .int .u8 0, .int .u8 0, .int .u8 0], .int .u8 0], []⟩ 8 (by kernel_rfl) (by kernel_rfl) (by kernel_rfl) (by kernel_rfl)) ?_
  intro W base args ds gs before hval0 hW hcnd _
  have hval : ∀ (j : Nat) t v, Try.f6.params[j]? = some t → args[j]? = some v → Value.okWide Try.prog W .any base t v := hval0
  have hW' := hW
  obtain ⟨p, q, hA0, hV, rfl, hfz, hnd⟩ := hW
  have hA : DataW.TrodAll enc Try.prog W 0 (fun _ => true) true Try.f6.params.toList args.toList ds p := hA0
  have hAll := hA
  rw [Try.params6] at hA hval
  obtain ⟨v0, vs0, d0, ds0, p0, q0, hargs, rfl, rfl, h0, r0⟩ := trodAll_cons hA
  obtain ⟨v1, vs1, d1, ds1, p1, q1, rfl, rfl, rfl, h1, r1⟩ := trodAll_cons r0
  obtain ⟨v2, vs2, d2, ds2, p2, q2, rfl, rfl, rfl, h2, r2⟩ := trodAll_cons r1
  obtain ⟨rfl, rfl, rfl⟩ := trodAll_nil r2
  obtain rfl : args = #[v0, v1, v2] := by cases args; simp_all
  obtain ⟨rfl, rfl⟩ := trodVars_none hV
  obtain ⟨c0, rfl, L0_0⟩ := open_flat (ks := [some .u8, some .u8, some .u8, some .u8]) (by kernel_rfl) (by kernel_rfl) (hval 0 30 v0 rfl rfl) h0
  obtain ⟨_, c0_0, rfl, ⟨a0_0, rfl, w0_0⟩, L0_1⟩ := leafs_cons L0_0
  obtain ⟨l0_0, u0_0⟩ := bounds_u8 w0_0
  obtain ⟨_, c0_1, rfl, ⟨a0_1, rfl, w0_1⟩, L0_2⟩ := leafs_cons L0_1
  obtain ⟨l0_1, u0_1⟩ := bounds_u8 w0_1
  obtain ⟨_, c0_2, rfl, ⟨a0_2, rfl, w0_2⟩, L0_3⟩ := leafs_cons L0_2
  obtain ⟨l0_2, u0_2⟩ := bounds_u8 w0_2
  obtain ⟨_, c0_3, rfl, ⟨a0_3, rfl, w0_3⟩, L0_4⟩ := leafs_cons L0_3
  obtain ⟨l0_3, u0_3⟩ := bounds_u8 w0_3
  obtain rfl := leafs_nil L0_4
  obtain ⟨c1, rfl, L1_0⟩ := open_flat (ks := [some .u8, some .u8, some .u8, some .u8]) (by kernel_rfl) (by kernel_rfl) (hval 1 30 v1 rfl rfl) h1
  obtain ⟨_, c1_0, rfl, ⟨a1_0, rfl, w1_0⟩, L1_1⟩ := leafs_cons L1_0
  obtain ⟨l1_0, u1_0⟩ := bounds_u8 w1_0
  obtain ⟨_, c1_1, rfl, ⟨a1_1, rfl, w1_1⟩, L1_2⟩ := leafs_cons L1_1
  obtain ⟨l1_1, u1_1⟩ := bounds_u8 w1_1
  obtain ⟨_, c1_2, rfl, ⟨a1_2, rfl, w1_2⟩, L1_3⟩ := leafs_cons L1_2
  obtain ⟨l1_2, u1_2⟩ := bounds_u8 w1_2
  obtain ⟨_, c1_3, rfl, ⟨a1_3, rfl, w1_3⟩, L1_4⟩ := leafs_cons L1_3
  obtain ⟨l1_3, u1_3⟩ := bounds_u8 w1_3
  obtain rfl := leafs_nil L1_4
  obtain ⟨a2, rfl, _, _, w2⟩ := open_int Try.underlying5 (hval 2 5 v2 rfl rfl) h2
  obtain ⟨l2, u2⟩ := bounds_u8 w2
  clear hA0 hval0
  refine (walk a0_0 a0_1 a0_2 a0_3 a1_0 a1_1 a1_2 a1_3 a2 W l0_0 u0_0 l0_1 u0_1 l0_2 u0_2 l0_3 u0_3 l1_0 u1_0 l1_1 u1_1 l1_2 u1_2 l1_3 u1_3 l2 u2).mono fun e W' ⟨he, bel⟩ => ?_
  subst he
  exact ⟨_, rfl, _, _, _, [], _, [], hW', trodAll_mk1 (shut_bool Try.underlying4 _), below_trodAll Try.laidOut bel (reads_of (by kernel_rfl)) hAll, rfl, bel.frame _, fun h => by cases h⟩

theorem over : Rows.colorScaleRow.holds Try.pinned (OpenSpec.ofChange Rows.colorScaleSpec) :=
  OpenClaim.holds_of_wide 6 Try.f6 rfl rfl rfl rfl rfl rfl rfl ⟨rfl, rfl, rfl, rfl, rfl⟩ rfl rfl rfl rfl rfl (by kernel_rfl) Try.func6 (by kernel_rfl)
    (of_decide_eq_true (by kernel_rfl)) (by unfold Func.isWrapper; first | (rw [if_pos (by decide +kernel)]; kernel_rfl) | (rw [if_neg (by decide +kernel)]; exact ⟨rfl, rfl⟩))
    (fun os started H enc _ => lifted os started H enc)

/-- The statement. -/
theorem proved : Rows.ColorScaleSaid := over
#print axioms proved
end Go.Proofs.Ytjfimlcljbdglaa.colorScale
