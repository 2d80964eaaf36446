/- StrokegeomTranslation of grisaillelaw22 returns true for all its arguments: every three points and every int; no condition. -/
import Derived.Test.YtgkdcipebefmhaaE22
import Derived.Test.YtgkdcipebefmhaaBu
import Derived.Test.YtgkdcipebefmhaaQi
import Derived.Test.YtgkdcipebefmhaaOp
import Derived.Test.YtgkdcipebefmhaaKk
namespace Go.Proofs.Ytgkdcipebefmhaa.strokegeomTranslation
open Go.RowKit Go.ChangeShapes Go.WideShapes Go.ChangeAt
set_option linter.unusedVariables false
open Go.Proofs.Ytgkdcipebefmhaa
set_option linter.unusedSimpArgs false
set_option linter.unusedVariables false
def iP (p : Pt) : Bool := inB p.1 (-262144) 262144 && inB p.2 (-262144) 262144
theorem iP_inn {p : Pt} (h : iP p = true) : inn p := by
  unfold iP at h
  rw [Bool.and_eq_true, inB_iff, inB_iff] at h
  exact h
set_option maxRecDepth 100000 in
set_option maxHeartbeats 8000000 in
theorem walk (ax ay bx b_y v tx ty : Int) (w : World) (l0 : -9223372036854775808 ≤ ax) (u0 : ax ≤ 9223372036854775807) (l1 : -9223372036854775808 ≤ ay) (u1 : ay ≤ 9223372036854775807) (l2 : -9223372036854775808 ≤ bx) (u2 : bx ≤ 9223372036854775807) (l3 : -9223372036854775808 ≤ b_y) (u3 : b_y ≤ 9223372036854775807) (lv : -9223372036854775808 ≤ v) (uv : v ≤ 9223372036854775807) (l4 : -9223372036854775808 ≤ tx) (u4 : tx ≤ 9223372036854775807) (l5 : -9223372036854775808 ≤ ty) (u5 : ty ≤ 9223372036854775807) :
    Calls Try.prog 9 #[.agg #[.int .i64 ax, .int .i64 ay], .agg #[.int .i64 bx, .int .i64 b_y], .int .i64 v, .agg #[.int .i64 tx, .int .i64 ty]] w fun e w' => e = .returned (.bool true) ∧ Below w.heap.size w w' := by
  have HS := Lib.hid (show ∀ w', Keeps (((w.alloc (.cells #[.int .i64 ax, .int .i64 ay] 28)).alloc (.cells #[.int .i64 bx, .int .i64 b_y] 28)).alloc (.cells #[.int .i64 tx, .int .i64 ty] 28)) w' → w'.cell? ⟨w.heap.size, 0, none⟩ = some (.int .i64 ax) ∧ w'.frozen? ⟨w.heap.size, 0, none⟩ = false ∧ w'.cell? ⟨w.heap.size, 1, none⟩ = some (.int .i64 ay) ∧ w'.frozen? ⟨w.heap.size, 1, none⟩ = false ∧ w'.cell? ⟨w.heap.size + 1, 0, none⟩ = some (.int .i64 bx) ∧ w'.frozen? ⟨w.heap.size + 1, 0, none⟩ = false ∧ w'.cell? ⟨w.heap.size + 1, 1, none⟩ = some (.int .i64 b_y) ∧ w'.frozen? ⟨w.heap.size + 1, 1, none⟩ = false ∧ w'.cell? ⟨w.heap.size + 1 + 1, 0, none⟩ = some (.int .i64 tx) ∧ w'.frozen? ⟨w.heap.size + 1 + 1, 0, none⟩ = false ∧ w'.cell? ⟨w.heap.size + 1 + 1, 1, none⟩ = some (.int .i64 ty) ∧ w'.frozen? ⟨w.heap.size + 1 + 1, 1, none⟩ = false from fun w' hk => ⟨(hk.cell (p := ⟨w.heap.size, 0, none⟩) (by first | (simp; done) | (simp; omega))).trans (by simp [go_sem]), (hk.frozen (p := ⟨w.heap.size, 0, none⟩) (by first | (simp; done) | (simp; omega))).trans (by simp [go_sem]), (hk.cell (p := ⟨w.heap.size, 1, none⟩) (by first | (simp; done) | (simp; omega))).trans (by simp [go_sem]), (hk.frozen (p := ⟨w.heap.size, 1, none⟩) (by first | (simp; done) | (simp; omega))).trans (by simp [go_sem]), (hk.cell (p := ⟨w.heap.size + 1, 0, none⟩) (by first | (simp; done) | (simp; omega))).trans (by simp [go_sem]), (hk.frozen (p := ⟨w.heap.size + 1, 0, none⟩) (by first | (simp; done) | (simp; omega))).trans (by simp [go_sem]), (hk.cell (p := ⟨w.heap.size + 1, 1, none⟩) (by first | (simp; done) | (simp; omega))).trans (by simp [go_sem]), (hk.frozen (p := ⟨w.heap.size + 1, 1, none⟩) (by first | (simp; done) | (simp; omega))).trans (by simp [go_sem]), (hk.cell (p := ⟨w.heap.size + 1 + 1, 0, none⟩) (by first | (simp; done) | (simp; omega))).trans (by simp [go_sem]), (hk.frozen (p := ⟨w.heap.size + 1 + 1, 0, none⟩) (by first | (simp; done) | (simp; omega))).trans (by simp [go_sem]), (hk.cell (p := ⟨w.heap.size + 1 + 1, 1, none⟩) (by first | (simp; done) | (simp; omega))).trans (by simp [go_sem]), (hk.frozen (p := ⟨w.heap.size + 1 + 1, 1, none⟩) (by first | (simp; done) | (simp; omega))).trans (by simp [go_sem])⟩)
  have HB := Lib.hid (show Keeps w (((w.alloc (.cells #[.int .i64 ax, .int .i64 ay] 28)).alloc (.cells #[.int .i64 bx, .int .i64 b_y] 28)).alloc (.cells #[.int .i64 tx, .int .i64 ty] 28)) from (by (repeat (first | (with_reducible exact Keeps.refl _) | (with_reducible assumption) | (with_reducible refine Keeps.drewN ?_ _) | (with_reducible refine Keeps.drew ?_) | (with_reducible refine Keeps.alloc ?_ _) | (with_reducible refine Keeps.setNew ?_ ?_ _))) <;> (dsimp only; omega)))
  have hk0 := Keeps.refl (((w.alloc (.cells #[.int .i64 ax, .int .i64 ay] 28)).alloc (.cells #[.int .i64 bx, .int .i64 b_y] 28)).alloc (.cells #[.int .i64 tx, .int .i64 ty] 28))
  clear l0 u0 l1 u1 l2 u2 l3 u3 lv uv l4 u4 l5 u5
  have KA := Lib.hid (fun w => within22_any (ax, ay) w)
  have KB := Lib.hid (fun w => within22_any (bx, b_y) w)
  have KC := Lib.hid (fun w => within22_any (tx, ty) w)
  have IA := Lib.hid (fun w => inner22_any (ax, ay) w)
  have IB := Lib.hid (fun w => inner22_any (bx, b_y) w)
  have IC := Lib.hid (fun w => inner22_any (tx, ty) w)
  rw [show (inB (ax, ay).1 (-262144) 262144 && inB (ax, ay).2 (-262144) 262144) = iP (ax, ay) from rfl] at IA
  rw [show (inB (bx, b_y).1 (-262144) 262144 && inB (bx, b_y).2 (-262144) 262144) = iP (bx, b_y) from rfl] at IB
  rw [show (inB (tx, ty).1 (-262144) 262144 && inB (tx, ty).2 (-262144) 262144) = iP (tx, ty) from rfl] at IC
  have K9 := Lib.hid (fun w => example22_any w)
  have hk := hk0
  cases h0 : vP (ax, ay) with
  | false =>
    rw [h0] at KA
    clear h0
    go_enter Try.func9, Try.ntmps9
    go_wp2_with (first | (go_at_call 15; (first | (with_reducible refine (keepk (KA.out _) (by first | assumption | exact Keeps.drew (by assumption) | exact Keeps.drewN (by assumption) _)).mono ?_) | (with_reducible refine (keepk (KB.out _) (by first | assumption | exact Keeps.drew (by assumption) | exact Keeps.drewN (by assumption) _)).mono ?_) | (with_reducible refine (keepk (KC.out _) (by first | assumption | exact Keeps.drew (by assumption) | exact Keeps.drewN (by assumption) _)).mono ?_)); rintro e _ ⟨rfl, hk⟩; have hj := Keeps.trans HB.out hk; have hk := hk; obtain ⟨y0, y1, y2, y3, y4, y5, y6, y7, y8, y9, y10, y11⟩ := HS.out _ hk) | (go_at_call 26; (first | (with_reducible refine (keepk (IA.out _) (by first | assumption | exact Keeps.drew (by assumption) | exact Keeps.drewN (by assumption) _)).mono ?_) | (with_reducible refine (keepk (IB.out _) (by first | assumption | exact Keeps.drew (by assumption) | exact Keeps.drewN (by assumption) _)).mono ?_) | (with_reducible refine (keepk (IC.out _) (by first | assumption | exact Keeps.drew (by assumption) | exact Keeps.drewN (by assumption) _)).mono ?_)); rintro e _ ⟨rfl, hk⟩; have hj := Keeps.trans HB.out hk; have hk := hk; obtain ⟨y0, y1, y2, y3, y4, y5, y6, y7, y8, y9, y10, y11⟩ := HS.out _ hk) | (go_at_call 10; (with_reducible refine (keepk (K9.out _) (by first | assumption | exact Keeps.drew (by assumption) | exact Keeps.drewN (by assumption) _)).mono ?_); rintro e _ ⟨rfl, hk⟩))
    go_ret
    exact ⟨rfl, HB.out.trans hk⟩
  | true =>
    rw [h0] at KA
    cases h1 : vP (bx, b_y) with
    | false =>
      rw [h1] at KB
      clear h0 h1
      go_enter Try.func9, Try.ntmps9
      go_wp2_with (first | (go_at_call 15; (first | (with_reducible refine (keepk (KA.out _) (by first | assumption | exact Keeps.drew (by assumption) | exact Keeps.drewN (by assumption) _)).mono ?_) | (with_reducible refine (keepk (KB.out _) (by first | assumption | exact Keeps.drew (by assumption) | exact Keeps.drewN (by assumption) _)).mono ?_) | (with_reducible refine (keepk (KC.out _) (by first | assumption | exact Keeps.drew (by assumption) | exact Keeps.drewN (by assumption) _)).mono ?_)); rintro e _ ⟨rfl, hk⟩; have hj := Keeps.trans HB.out hk; have hk := hk; obtain ⟨y0, y1, y2, y3, y4, y5, y6, y7, y8, y9, y10, y11⟩ := HS.out _ hk) | (go_at_call 26; (first | (with_reducible refine (keepk (IA.out _) (by first | assumption | exact Keeps.drew (by assumption) | exact Keeps.drewN (by assumption) _)).mono ?_) | (with_reducible refine (keepk (IB.out _) (by first | assumption | exact Keeps.drew (by assumption) | exact Keeps.drewN (by assumption) _)).mono ?_) | (with_reducible refine (keepk (IC.out _) (by first | assumption | exact Keeps.drew (by assumption) | exact Keeps.drewN (by assumption) _)).mono ?_)); rintro e _ ⟨rfl, hk⟩; have hj := Keeps.trans HB.out hk; have hk := hk; obtain ⟨y0, y1, y2, y3, y4, y5, y6, y7, y8, y9, y10, y11⟩ := HS.out _ hk) | (go_at_call 10; (with_reducible refine (keepk (K9.out _) (by first | assumption | exact Keeps.drew (by assumption) | exact Keeps.drewN (by assumption) _)).mono ?_); rintro e _ ⟨rfl, hk⟩))
      go_ret
      exact ⟨rfl, HB.out.trans hk⟩
    | true =>
      rw [h1] at KB
      cases h2 : vP (tx, ty) with
      | false =>
        rw [h2] at KC
        clear h0 h1 h2
        go_enter Try.func9, Try.ntmps9
        go_wp2_with (first | (go_at_call 15; (first | (with_reducible refine (keepk (KA.out _) (by first | assumption | exact Keeps.drew (by assumption) | exact Keeps.drewN (by assumption) _)).mono ?_) | (with_reducible refine (keepk (KB.out _) (by first | assumption | exact Keeps.drew (by assumption) | exact Keeps.drewN (by assumption) _)).mono ?_) | (with_reducible refine (keepk (KC.out _) (by first | assumption | exact Keeps.drew (by assumption) | exact Keeps.drewN (by assumption) _)).mono ?_)); rintro e _ ⟨rfl, hk⟩; have hj := Keeps.trans HB.out hk; have hk := hk; obtain ⟨y0, y1, y2, y3, y4, y5, y6, y7, y8, y9, y10, y11⟩ := HS.out _ hk) | (go_at_call 26; (first | (with_reducible refine (keepk (IA.out _) (by first | assumption | exact Keeps.drew (by assumption) | exact Keeps.drewN (by assumption) _)).mono ?_) | (with_reducible refine (keepk (IB.out _) (by first | assumption | exact Keeps.drew (by assumption) | exact Keeps.drewN (by assumption) _)).mono ?_) | (with_reducible refine (keepk (IC.out _) (by first | assumption | exact Keeps.drew (by assumption) | exact Keeps.drewN (by assumption) _)).mono ?_)); rintro e _ ⟨rfl, hk⟩; have hj := Keeps.trans HB.out hk; have hk := hk; obtain ⟨y0, y1, y2, y3, y4, y5, y6, y7, y8, y9, y10, y11⟩ := HS.out _ hk) | (go_at_call 10; (with_reducible refine (keepk (K9.out _) (by first | assumption | exact Keeps.drew (by assumption) | exact Keeps.drewN (by assumption) _)).mono ?_); rintro e _ ⟨rfl, hk⟩))
        go_ret
        exact ⟨rfl, HB.out.trans hk⟩
      | true =>
        rw [h2] at KC
        cases h3 : iP (ax, ay) with
        | false =>
          rw [h3] at IA
          clear h0 h1 h2 h3
          go_enter Try.func9, Try.ntmps9
          go_wp2_with (first | (go_at_call 15; (first | (with_reducible refine (keepk (KA.out _) (by first | assumption | exact Keeps.drew (by assumption) | exact Keeps.drewN (by assumption) _)).mono ?_) | (with_reducible refine (keepk (KB.out _) (by first | assumption | exact Keeps.drew (by assumption) | exact Keeps.drewN (by assumption) _)).mono ?_) | (with_reducible refine (keepk (KC.out _) (by first | assumption | exact Keeps.drew (by assumption) | exact Keeps.drewN (by assumption) _)).mono ?_)); rintro e _ ⟨rfl, hk⟩; have hj := Keeps.trans HB.out hk; have hk := hk; obtain ⟨y0, y1, y2, y3, y4, y5, y6, y7, y8, y9, y10, y11⟩ := HS.out _ hk) | (go_at_call 26; (first | (with_reducible refine (keepk (IA.out _) (by first | assumption | exact Keeps.drew (by assumption) | exact Keeps.drewN (by assumption) _)).mono ?_) | (with_reducible refine (keepk (IB.out _) (by first | assumption | exact Keeps.drew (by assumption) | exact Keeps.drewN (by assumption) _)).mono ?_) | (with_reducible refine (keepk (IC.out _) (by first | assumption | exact Keeps.drew (by assumption) | exact Keeps.drewN (by assumption) _)).mono ?_)); rintro e _ ⟨rfl, hk⟩; have hj := Keeps.trans HB.out hk; have hk := hk; obtain ⟨y0, y1, y2, y3, y4, y5, y6, y7, y8, y9, y10, y11⟩ := HS.out _ hk) | (go_at_call 10; (with_reducible refine (keepk (K9.out _) (by first | assumption | exact Keeps.drew (by assumption) | exact Keeps.drewN (by assumption) _)).mono ?_); rintro e _ ⟨rfl, hk⟩))
          go_ret
          exact ⟨rfl, HB.out.trans hk⟩
        | true =>
          rw [h3] at IA
          cases h4 : iP (bx, b_y) with
          | false =>
            rw [h4] at IB
            clear h0 h1 h2 h3 h4
            go_enter Try.func9, Try.ntmps9
            go_wp2_with (first | (go_at_call 15; (first | (with_reducible refine (keepk (KA.out _) (by first | assumption | exact Keeps.drew (by assumption) | exact Keeps.drewN (by assumption) _)).mono ?_) | (with_reducible refine (keepk (KB.out _) (by first | assumption | exact Keeps.drew (by assumption) | exact Keeps.drewN (by assumption) _)).mono ?_) | (with_reducible refine (keepk (KC.out _) (by first | assumption | exact Keeps.drew (by assumption) | exact Keeps.drewN (by assumption) _)).mono ?_)); rintro e _ ⟨rfl, hk⟩; have hj := Keeps.trans HB.out hk; have hk := hk; obtain ⟨y0, y1, y2, y3, y4, y5, y6, y7, y8, y9, y10, y11⟩ := HS.out _ hk) | (go_at_call 26; (first | (with_reducible refine (keepk (IA.out _) (by first | assumption | exact Keeps.drew (by assumption) | exact Keeps.drewN (by assumption) _)).mono ?_) | (with_reducible refine (keepk (IB.out _) (by first | assumption | exact Keeps.drew (by assumption) | exact Keeps.drewN (by assumption) _)).mono ?_) | (with_reducible refine (keepk (IC.out _) (by first | assumption | exact Keeps.drew (by assumption) | exact Keeps.drewN (by assumption) _)).mono ?_)); rintro e _ ⟨rfl, hk⟩; have hj := Keeps.trans HB.out hk; have hk := hk; obtain ⟨y0, y1, y2, y3, y4, y5, y6, y7, y8, y9, y10, y11⟩ := HS.out _ hk) | (go_at_call 10; (with_reducible refine (keepk (K9.out _) (by first | assumption | exact Keeps.drew (by assumption) | exact Keeps.drewN (by assumption) _)).mono ?_); rintro e _ ⟨rfl, hk⟩))
            go_ret
            exact ⟨rfl, HB.out.trans hk⟩
          | true =>
            rw [h4] at IB
            cases h5 : iP (tx, ty) with
            | false =>
              rw [h5] at IC
              clear h0 h1 h2 h3 h4 h5
              go_enter Try.func9, Try.ntmps9
              go_wp2_with (first | (go_at_call 15; (first | (with_reducible refine (keepk (KA.out _) (by first | assumption | exact Keeps.drew (by assumption) | exact Keeps.drewN (by assumption) _)).mono ?_) | (with_reducible refine (keepk (KB.out _) (by first | assumption | exact Keeps.drew (by assumption) | exact Keeps.drewN (by assumption) _)).mono ?_) | (with_reducible refine (keepk (KC.out _) (by first | assumption | exact Keeps.drew (by assumption) | exact Keeps.drewN (by assumption) _)).mono ?_)); rintro e _ ⟨rfl, hk⟩; have hj := Keeps.trans HB.out hk; have hk := hk; obtain ⟨y0, y1, y2, y3, y4, y5, y6, y7, y8, y9, y10, y11⟩ := HS.out _ hk) | (go_at_call 26; (first | (with_reducible refine (keepk (IA.out _) (by first | assumption | exact Keeps.drew (by assumption) | exact Keeps.drewN (by assumption) _)).mono ?_) | (with_reducible refine (keepk (IB.out _) (by first | assumption | exact Keeps.drew (by assumption) | exact Keeps.drewN (by assumption) _)).mono ?_) | (with_reducible refine (keepk (IC.out _) (by first | assumption | exact Keeps.drew (by assumption) | exact Keeps.drewN (by assumption) _)).mono ?_)); rintro e _ ⟨rfl, hk⟩; have hj := Keeps.trans HB.out hk; have hk := hk; obtain ⟨y0, y1, y2, y3, y4, y5, y6, y7, y8, y9, y10, y11⟩ := HS.out _ hk) | (go_at_call 10; (with_reducible refine (keepk (K9.out _) (by first | assumption | exact Keeps.drew (by assumption) | exact Keeps.drewN (by assumption) _)).mono ?_); rintro e _ ⟨rfl, hk⟩))
              go_ret
              exact ⟨rfl, HB.out.trans hk⟩
            | true =>
              rw [h5] at IC
              have ha := Lib.hid (iP_inn h3)
              have hb := Lib.hid (iP_inn h4)
              have ht := Lib.hid (iP_inn h5)
              clear h0 h1 h2 h3 h4 h5
              have i1 := ha.out
              have i2 := hb.out
              have i3 := ht.out
              unfold inn at i1 i2 i3
              obtain ⟨⟨a0, a1⟩, a2, a3⟩ := i1
              obtain ⟨⟨b0, b1⟩, b2, b3⟩ := i2
              obtain ⟨⟨t0, t1⟩, t2, t3⟩ := i3
              dsimp only at a0 a1 a2 a3 b0 b1 b2 b3 t0 t1 t2 t3
              have r1 : IntKind.i64.wrap (ax + tx) = ax + tx := IntWalk.i64_in _ (by omega)
              have r2 : IntKind.i64.wrap (ay + ty) = ay + ty := IntWalk.i64_in _ (by omega)
              have r3 : IntKind.i64.wrap (bx + tx) = bx + tx := IntWalk.i64_in _ (by omega)
              have r4 : IntKind.i64.wrap (b_y + ty) = b_y + ty := IntWalk.i64_in _ (by omega)
              have hV := Lib.hid (four_v (ax, ay) (bx, b_y) v ha.out hb.out)
              have hT := Lib.hid (four_tr (ax, ay) (bx, b_y) (tx, ty) v ha.out hb.out ht.out)
              have hpos := Lib.hid (four_pos (ax, ay) (bx, b_y) v)
              have hlen := Lib.hid (four_len (ax, ay) (bx, b_y) v)
              unfold four at hV hT hpos hlen
              rw [show addP (ax, ay) (tx, ty) = (ax + tx, ay + ty) from rfl, show addP (bx, b_y) (tx, ty) = (bx + tx, b_y + ty) from rfl] at hT
              have o1 := Lib.hid (bodyL_ok (ax, ay) (bx, b_y) v)
              have o2 := Lib.hid (capL_ok (ax, ay) (bx, b_y) v)
              have o3 := Lib.hid (discL_ok (ax, ay) v)
              have o4 := Lib.hid (dotL_ok (bx, b_y) v)
              have o5 := Lib.hid (bodyL_ok (ax + tx, ay + ty) (bx + tx, b_y + ty) v)
              have o6 := Lib.hid (capL_ok (ax + tx, ay + ty) (bx + tx, b_y + ty) v)
              have o7 := Lib.hid (discL_ok (ax + tx, ay + ty) v)
              have o8 := Lib.hid (dotL_ok (bx + tx, b_y + ty) v)
              have m1 := bodyL_len (ax, ay) (bx, b_y) v
              have m2 := capL_len (ax, ay) (bx, b_y) v
              have m3 := discL_len (ax, ay) v
              have m4 := dotL_len (bx, b_y) v
              have m5 := bodyL_len (ax + tx, ay + ty) (bx + tx, b_y + ty) v
              have m6 := capL_len (ax + tx, ay + ty) (bx + tx, b_y + ty) v
              have m7 := discL_len (ax + tx, ay + ty) v
              have m8 := dotL_len (bx + tx, b_y + ty) v
              have K1 := Lib.hid (fun w => (body_any (ax, ay) (bx, b_y) v w).mono fun _ _ h => OwnP.ret rfl o1.out h)
              have K2 := Lib.hid (fun w => (cap_any (ax, ay) (bx, b_y) v w).mono fun _ _ h => OwnP.ret rfl o2.out h)
              have K3 := Lib.hid (fun w => (disc_any (ax, ay) v w).mono fun _ _ h => OwnP.ret rfl o3.out h)
              have K4 := Lib.hid (fun w => (dot_any (bx, b_y) v w).mono fun _ _ h => OwnP.ret rfl o4.out h)
              have K5 := Lib.hid (fun w => (body_any (ax + tx, ay + ty) (bx + tx, b_y + ty) v w).mono fun _ _ h => OwnP.ret rfl o5.out h)
              have K6 := Lib.hid (fun w => (cap_any (ax + tx, ay + ty) (bx + tx, b_y + ty) v w).mono fun _ _ h => OwnP.ret rfl o6.out h)
              have K7 := Lib.hid (fun w => (disc_any (ax + tx, ay + ty) v w).mono fun _ _ h => OwnP.ret rfl o7.out h)
              have K8 := Lib.hid (fun w => (dot_any (bx + tx, b_y + ty) v w).mono fun _ _ h => OwnP.ret rfl o8.out h)
              generalize bodyL (ax, ay) (bx, b_y) v = P1 at *
              generalize capL (ax, ay) (bx, b_y) v = P2 at *
              generalize discL (ax, ay) v = P3 at *
              generalize dotL (bx, b_y) v = P4 at *
              generalize bodyL (ax + tx, ay + ty) (bx + tx, b_y + ty) v = Q1 at *
              generalize capL (ax + tx, ay + ty) (bx + tx, b_y + ty) v = Q2 at *
              generalize discL (ax + tx, ay + ty) v = Q3 at *
              generalize dotL (bx + tx, b_y + ty) v = Q4 at *
              generalize g1 : P1.length = n1 at *
              generalize g2 : P2.length = n2 at *
              generalize g3 : P3.length = n3 at *
              generalize g4 : P4.length = n4 at *
              generalize g5 : Q1.length = n5 at *
              generalize g6 : Q2.length = n6 at *
              generalize g7 : Q3.length = n7 at *
              generalize g8 : Q4.length = n8 at *
              clear o1 o2 o3 o4 o5 o6 o7 o8 ha hb ht g1 g2 g3 g4 g5 g6 g7 g8 a0 a1 a2 a3 b0 b1 b2 b3 t0 t1 t2 t3
              go_enter Try.func9, Try.ntmps9
              go_upto_region 3 with (first | (go_at_call 15; (first | (with_reducible refine (keepk (KA.out _) (by first | assumption | exact Keeps.drew (by assumption) | exact Keeps.drewN (by assumption) _)).mono ?_) | (with_reducible refine (keepk (KB.out _) (by first | assumption | exact Keeps.drew (by assumption) | exact Keeps.drewN (by assumption) _)).mono ?_) | (with_reducible refine (keepk (KC.out _) (by first | assumption | exact Keeps.drew (by assumption) | exact Keeps.drewN (by assumption) _)).mono ?_)); rintro e _ ⟨rfl, hk⟩; have hj := Keeps.trans HB.out hk; have hk := hk; obtain ⟨y0, y1, y2, y3, y4, y5, y6, y7, y8, y9, y10, y11⟩ := HS.out _ hk) | (go_at_call 26; (first | (with_reducible refine (keepk (IA.out _) (by first | assumption | exact Keeps.drew (by assumption) | exact Keeps.drewN (by assumption) _)).mono ?_) | (with_reducible refine (keepk (IB.out _) (by first | assumption | exact Keeps.drew (by assumption) | exact Keeps.drewN (by assumption) _)).mono ?_) | (with_reducible refine (keepk (IC.out _) (by first | assumption | exact Keeps.drew (by assumption) | exact Keeps.drewN (by assumption) _)).mono ?_)); rintro e _ ⟨rfl, hk⟩; have hj := Keeps.trans HB.out hk; have hk := hk; obtain ⟨y0, y1, y2, y3, y4, y5, y6, y7, y8, y9, y10, y11⟩ := HS.out _ hk) | (go_at_call 10; (with_reducible refine (keepk (K9.out _) (by first | assumption | exact Keeps.drew (by assumption) | exact Keeps.drewN (by assumption) _)).mono ?_); rintro e _ ⟨rfl, hk⟩))
              clear KA KB KC IA IB IC
              go_cut [9, 10] (fun x y wx => ∃ p q : Nat, x = .pointer (some ⟨p, 0, none⟩) ∧ y = .pointer (some ⟨q, 0, none⟩) ∧ wx.cell? ⟨p, 0, none⟩ = some (.int .i64 (ax + tx)) ∧ wx.cell? ⟨p, 1, none⟩ = some (.int .i64 (ay + ty)) ∧ wx.cell? ⟨q, 0, none⟩ = some (.int .i64 (bx + tx)) ∧ wx.cell? ⟨q, 1, none⟩ = some (.int .i64 (b_y + ty)) ∧ Keeps (((w.alloc (.cells #[.int .i64 ax, .int .i64 ay] 28)).alloc (.cells #[.int .i64 bx, .int .i64 b_y] 28)).alloc (.cells #[.int .i64 tx, .int .i64 ty] 28)) wx)
              case first =>
                refine name_world (fun Wn hWn => ?_)
                have hkn : Keeps (((w.alloc (.cells #[.int .i64 ax, .int .i64 ay] 28)).alloc (.cells #[.int .i64 bx, .int .i64 b_y] 28)).alloc (.cells #[.int .i64 tx, .int .i64 ty] 28)) Wn := by rw [hWn]; exact (by first | assumption | exact Keeps.drew (by assumption) | exact Keeps.drewN (by assumption) _)
                clear hWn hk
                obtain ⟨y0, y1, y2, y3, y4, y5, y6, y7, y8, y9, y10, y11⟩ := HS.out _ hkn
                have s0 : w.heap.size + 1 + 1 < Wn.heap.size := World.block_lt_of_cell? Wn _ y8
                have s1 : w.heap.size + 1 < Wn.heap.size := World.block_lt_of_cell? Wn _ y4
                have s2 : w.heap.size < Wn.heap.size := World.block_lt_of_cell? Wn _ y0
                have hS6 : (Wn.cell? ⟨w.heap.size, 0, none⟩ = some (.int .i64 ax) ∧ Wn.cell? ⟨w.heap.size, 1, none⟩ = some (.int .i64 ay) ∧ Wn.cell? ⟨w.heap.size + 1, 0, none⟩ = some (.int .i64 bx) ∧ Wn.cell? ⟨w.heap.size + 1, 1, none⟩ = some (.int .i64 b_y) ∧ Wn.cell? ⟨w.heap.size + 1 + 1, 0, none⟩ = some (.int .i64 tx) ∧ Wn.cell? ⟨w.heap.size + 1 + 1, 1, none⟩ = some (.int .i64 ty)) := ⟨y0, y2, y4, y6, y8, y10⟩
                go_region_held3 (fun w' => (w'.cell? ⟨w.heap.size, 0, none⟩ = some (.int .i64 ax) ∧ w'.cell? ⟨w.heap.size, 1, none⟩ = some (.int .i64 ay) ∧ w'.cell? ⟨w.heap.size + 1, 0, none⟩ = some (.int .i64 bx) ∧ w'.cell? ⟨w.heap.size + 1, 1, none⟩ = some (.int .i64 b_y) ∧ w'.cell? ⟨w.heap.size + 1 + 1, 0, none⟩ = some (.int .i64 tx) ∧ w'.cell? ⟨w.heap.size + 1 + 1, 1, none⟩ = some (.int .i64 ty))) (first | go_keep | exact hS6) (fail)
                all_goals
                  go_wp2_with fail
                  go_meet
                  exact ⟨_, _, rfl, rfl, by go_simp, by go_simp, by go_simp, by go_simp, (by (repeat (first | (with_reducible exact Keeps.refl _) | (with_reducible assumption) | (with_reducible refine Keeps.drewN ?_ _) | (with_reducible refine Keeps.drew ?_) | (with_reducible refine Keeps.alloc ?_ _) | (with_reducible refine Keeps.setNew ?_ ?_ _))) <;> (dsimp only; omega))⟩
              obtain ⟨p, q, rfl, rfl, p0, p1, q0, q1, hkc⟩ := hcut
              rename World => W1
              have HT := Lib.hid (show ∀ w', Keeps W1 w' → (w'.cell? ⟨w.heap.size, 0, none⟩ = some (.int .i64 ax) ∧ w'.cell? ⟨w.heap.size, 1, none⟩ = some (.int .i64 ay) ∧ w'.cell? ⟨w.heap.size + 1, 0, none⟩ = some (.int .i64 bx) ∧ w'.cell? ⟨w.heap.size + 1, 1, none⟩ = some (.int .i64 b_y) ∧ w'.cell? ⟨w.heap.size + 1 + 1, 0, none⟩ = some (.int .i64 tx) ∧ w'.cell? ⟨w.heap.size + 1 + 1, 1, none⟩ = some (.int .i64 ty) ∧ w'.cell? ⟨p, 0, none⟩ = some (.int .i64 (ax + tx)) ∧ w'.cell? ⟨p, 1, none⟩ = some (.int .i64 (ay + ty)) ∧ w'.cell? ⟨q, 0, none⟩ = some (.int .i64 (bx + tx)) ∧ w'.cell? ⟨q, 1, none⟩ = some (.int .i64 (b_y + ty))) from fun w' hq => ⟨(HS.out _ (hkc.trans hq)).1, (HS.out _ (hkc.trans hq)).2.2.1, (HS.out _ (hkc.trans hq)).2.2.2.2.1, (HS.out _ (hkc.trans hq)).2.2.2.2.2.2.1, (HS.out _ (hkc.trans hq)).2.2.2.2.2.2.2.2.1, (HS.out _ (hkc.trans hq)).2.2.2.2.2.2.2.2.2.2.1, (hq.cell (World.block_lt_of_cell? W1 _ p0)).trans p0, (hq.cell (World.block_lt_of_cell? W1 _ p1)).trans p1, (hq.cell (World.block_lt_of_cell? W1 _ q0)).trans q0, (hq.cell (World.block_lt_of_cell? W1 _ q1)).trans q1⟩)
              have KW1 := Lib.hid (HB.out.trans hkc)
              clear r1 r2 r3 r4 p0 p1 q0 q1 hkc
              have hk := Keeps.refl W1
              go_wp2_with fail
              go_region_held3 (fun w' => (w'.cell? ⟨w.heap.size, 0, none⟩ = some (.int .i64 ax) ∧ w'.cell? ⟨w.heap.size, 1, none⟩ = some (.int .i64 ay) ∧ w'.cell? ⟨w.heap.size + 1, 0, none⟩ = some (.int .i64 bx) ∧ w'.cell? ⟨w.heap.size + 1, 1, none⟩ = some (.int .i64 b_y) ∧ w'.cell? ⟨w.heap.size + 1 + 1, 0, none⟩ = some (.int .i64 tx) ∧ w'.cell? ⟨w.heap.size + 1 + 1, 1, none⟩ = some (.int .i64 ty) ∧ w'.cell? ⟨p, 0, none⟩ = some (.int .i64 (ax + tx)) ∧ w'.cell? ⟨p, 1, none⟩ = some (.int .i64 (ay + ty)) ∧ w'.cell? ⟨q, 0, none⟩ = some (.int .i64 (bx + tx)) ∧ w'.cell? ⟨q, 1, none⟩ = some (.int .i64 (b_y + ty)))) (first | exact HT.out _ (by first | assumption | exact Keeps.drew (by assumption) | exact Keeps.drewN (by assumption) _) | go_keep)
                (first | (go_at_call 16; (with_reducible refine (K1.out _).mono ?_); rintro e _ ⟨_, _, rfl, hPn, hks⟩; have HP1 := Lib.hid (fun w' (hq : Keeps _ w') => Pts.keep hPn hq); (try have HP2 := Lib.hid (fun w' (hq : Keeps _ w') => HP2.out w' (Keeps.trans hks hq))); (try have HP3 := Lib.hid (fun w' (hq : Keeps _ w') => HP3.out w' (Keeps.trans hks hq))); (try have HP4 := Lib.hid (fun w' (hq : Keeps _ w') => HP4.out w' (Keeps.trans hks hq))); replace hk := Keeps.trans (by first | assumption | exact Keeps.drew (by assumption) | exact Keeps.drewN (by assumption) _) hks; clear hPn hks) | (go_at_call 20; (with_reducible refine (K2.out _).mono ?_); rintro e _ ⟨_, _, rfl, hPn, hks⟩; have HP2 := Lib.hid (fun w' (hq : Keeps _ w') => Pts.keep hPn hq); (try have HP1 := Lib.hid (fun w' (hq : Keeps _ w') => HP1.out w' (Keeps.trans hks hq))); (try have HP3 := Lib.hid (fun w' (hq : Keeps _ w') => HP3.out w' (Keeps.trans hks hq))); (try have HP4 := Lib.hid (fun w' (hq : Keeps _ w') => HP4.out w' (Keeps.trans hks hq))); replace hk := Keeps.trans (by first | assumption | exact Keeps.drew (by assumption) | exact Keeps.drewN (by assumption) _) hks; clear hPn hks) | (go_at_call 22; (with_reducible refine (K3.out _).mono ?_); rintro e _ ⟨_, _, rfl, hPn, hks⟩; have HP3 := Lib.hid (fun w' (hq : Keeps _ w') => Pts.keep hPn hq); (try have HP1 := Lib.hid (fun w' (hq : Keeps _ w') => HP1.out w' (Keeps.trans hks hq))); (try have HP2 := Lib.hid (fun w' (hq : Keeps _ w') => HP2.out w' (Keeps.trans hks hq))); (try have HP4 := Lib.hid (fun w' (hq : Keeps _ w') => HP4.out w' (Keeps.trans hks hq))); replace hk := Keeps.trans (by first | assumption | exact Keeps.drew (by assumption) | exact Keeps.drewN (by assumption) _) hks; clear hPn hks) | (go_at_call 24; (with_reducible refine (K4.out _).mono ?_); rintro e _ ⟨_, _, rfl, hPn, hks⟩; have HP4 := Lib.hid (fun w' (hq : Keeps _ w') => Pts.keep hPn hq); (try have HP1 := Lib.hid (fun w' (hq : Keeps _ w') => HP1.out w' (Keeps.trans hks hq))); (try have HP2 := Lib.hid (fun w' (hq : Keeps _ w') => HP2.out w' (Keeps.trans hks hq))); (try have HP3 := Lib.hid (fun w' (hq : Keeps _ w') => HP3.out w' (Keeps.trans hks hq))); replace hk := Keeps.trans (by first | assumption | exact Keeps.drew (by assumption) | exact Keeps.drewN (by assumption) _) hks; clear hPn hks))
              have HX := Lib.hid (fun t => Rws.four (HP1.out _ (by first | (with_reducible assumption) | (with_reducible exact Keeps.refl _) | (with_reducible exact Keeps.drew (by assumption)) | (with_reducible exact Keeps.drewN (by assumption) _) | (with_reducible exact (Keeps.refl _).drew) | (with_reducible exact (Keeps.refl _).drewN _))) (HP2.out _ (by first | (with_reducible assumption) | (with_reducible exact Keeps.refl _) | (with_reducible exact Keeps.drew (by assumption)) | (with_reducible exact Keeps.drewN (by assumption) _) | (with_reducible exact (Keeps.refl _).drew) | (with_reducible exact (Keeps.refl _).drewN _))) (HP3.out _ (by first | (with_reducible assumption) | (with_reducible exact Keeps.refl _) | (with_reducible exact Keeps.drew (by assumption)) | (with_reducible exact Keeps.drewN (by assumption) _) | (with_reducible exact (Keeps.refl _).drew) | (with_reducible exact (Keeps.refl _).drewN _))) (HP4.out _ (by first | (with_reducible assumption) | (with_reducible exact Keeps.refl _) | (with_reducible exact Keeps.drew (by assumption)) | (with_reducible exact Keeps.drewN (by assumption) _) | (with_reducible exact (Keeps.refl _).drew) | (with_reducible exact (Keeps.refl _).drewN _))) (by omega) (by omega) (by omega) (by omega) t)
              go_wp2_with fail
              refine name_world (fun W2 hW2 => ?_)
              have HX2 := Lib.hid (show Rws W2 _ 4 4 [P1, P2, P3, P4] by rw [hW2]; first | exact HX.out _ | exact (HX.out _).keep (Keeps.refl _).drew)
              have hk2 : Keeps W1 W2 := by rw [hW2]; exact (by (repeat (first | (with_reducible exact Keeps.refl _) | (with_reducible assumption) | (with_reducible refine Keeps.drewN ?_ _) | (with_reducible refine Keeps.drew ?_) | (with_reducible refine Keeps.alloc ?_ _) | (with_reducible refine Keeps.setNew ?_ ?_ _))) <;> (dsimp only; omega))
              have HT2 := Lib.hid (fun w' (hq : Keeps W2 w') => HT.out w' (hk2.trans hq))
              have KW2 := Lib.hid (KW1.out.trans hk2)
              clear hW2 hk2 HT KW1 HP1 HP2 HP3 HP4 K1 K2 K3 K4 HX hk
              have hk := Keeps.refl W2
              go_region_held3 (fun w' => (w'.cell? ⟨w.heap.size, 0, none⟩ = some (.int .i64 ax) ∧ w'.cell? ⟨w.heap.size, 1, none⟩ = some (.int .i64 ay) ∧ w'.cell? ⟨w.heap.size + 1, 0, none⟩ = some (.int .i64 bx) ∧ w'.cell? ⟨w.heap.size + 1, 1, none⟩ = some (.int .i64 b_y) ∧ w'.cell? ⟨w.heap.size + 1 + 1, 0, none⟩ = some (.int .i64 tx) ∧ w'.cell? ⟨w.heap.size + 1 + 1, 1, none⟩ = some (.int .i64 ty) ∧ w'.cell? ⟨p, 0, none⟩ = some (.int .i64 (ax + tx)) ∧ w'.cell? ⟨p, 1, none⟩ = some (.int .i64 (ay + ty)) ∧ w'.cell? ⟨q, 0, none⟩ = some (.int .i64 (bx + tx)) ∧ w'.cell? ⟨q, 1, none⟩ = some (.int .i64 (b_y + ty)))) (first | exact HT2.out _ (by first | assumption | exact Keeps.drew (by assumption) | exact Keeps.drewN (by assumption) _) | go_keep)
                (first | (go_at_call 16; (with_reducible refine (K5.out _).mono ?_); rintro e _ ⟨_, _, rfl, hPn, hks⟩; have HP1 := Lib.hid (fun w' (hq : Keeps _ w') => Pts.keep hPn hq); (try have HP2 := Lib.hid (fun w' (hq : Keeps _ w') => HP2.out w' (Keeps.trans hks hq))); (try have HP3 := Lib.hid (fun w' (hq : Keeps _ w') => HP3.out w' (Keeps.trans hks hq))); (try have HP4 := Lib.hid (fun w' (hq : Keeps _ w') => HP4.out w' (Keeps.trans hks hq))); replace hk := Keeps.trans (by first | assumption | exact Keeps.drew (by assumption) | exact Keeps.drewN (by assumption) _) hks; clear hPn hks) | (go_at_call 20; (with_reducible refine (K6.out _).mono ?_); rintro e _ ⟨_, _, rfl, hPn, hks⟩; have HP2 := Lib.hid (fun w' (hq : Keeps _ w') => Pts.keep hPn hq); (try have HP1 := Lib.hid (fun w' (hq : Keeps _ w') => HP1.out w' (Keeps.trans hks hq))); (try have HP3 := Lib.hid (fun w' (hq : Keeps _ w') => HP3.out w' (Keeps.trans hks hq))); (try have HP4 := Lib.hid (fun w' (hq : Keeps _ w') => HP4.out w' (Keeps.trans hks hq))); replace hk := Keeps.trans (by first | assumption | exact Keeps.drew (by assumption) | exact Keeps.drewN (by assumption) _) hks; clear hPn hks) | (go_at_call 22; (with_reducible refine (K7.out _).mono ?_); rintro e _ ⟨_, _, rfl, hPn, hks⟩; have HP3 := Lib.hid (fun w' (hq : Keeps _ w') => Pts.keep hPn hq); (try have HP1 := Lib.hid (fun w' (hq : Keeps _ w') => HP1.out w' (Keeps.trans hks hq))); (try have HP2 := Lib.hid (fun w' (hq : Keeps _ w') => HP2.out w' (Keeps.trans hks hq))); (try have HP4 := Lib.hid (fun w' (hq : Keeps _ w') => HP4.out w' (Keeps.trans hks hq))); replace hk := Keeps.trans (by first | assumption | exact Keeps.drew (by assumption) | exact Keeps.drewN (by assumption) _) hks; clear hPn hks) | (go_at_call 24; (with_reducible refine (K8.out _).mono ?_); rintro e _ ⟨_, _, rfl, hPn, hks⟩; have HP4 := Lib.hid (fun w' (hq : Keeps _ w') => Pts.keep hPn hq); (try have HP1 := Lib.hid (fun w' (hq : Keeps _ w') => HP1.out w' (Keeps.trans hks hq))); (try have HP2 := Lib.hid (fun w' (hq : Keeps _ w') => HP2.out w' (Keeps.trans hks hq))); (try have HP3 := Lib.hid (fun w' (hq : Keeps _ w') => HP3.out w' (Keeps.trans hks hq))); replace hk := Keeps.trans (by first | assumption | exact Keeps.drew (by assumption) | exact Keeps.drewN (by assumption) _) hks; clear hPn hks))
              have HX := Lib.hid (fun t => Rws.four (HP1.out _ (by first | (with_reducible assumption) | (with_reducible exact Keeps.refl _) | (with_reducible exact Keeps.drew (by assumption)) | (with_reducible exact Keeps.drewN (by assumption) _) | (with_reducible exact (Keeps.refl _).drew) | (with_reducible exact (Keeps.refl _).drewN _))) (HP2.out _ (by first | (with_reducible assumption) | (with_reducible exact Keeps.refl _) | (with_reducible exact Keeps.drew (by assumption)) | (with_reducible exact Keeps.drewN (by assumption) _) | (with_reducible exact (Keeps.refl _).drew) | (with_reducible exact (Keeps.refl _).drewN _))) (HP3.out _ (by first | (with_reducible assumption) | (with_reducible exact Keeps.refl _) | (with_reducible exact Keeps.drew (by assumption)) | (with_reducible exact Keeps.drewN (by assumption) _) | (with_reducible exact (Keeps.refl _).drew) | (with_reducible exact (Keeps.refl _).drewN _))) (HP4.out _ (by first | (with_reducible assumption) | (with_reducible exact Keeps.refl _) | (with_reducible exact Keeps.drew (by assumption)) | (with_reducible exact Keeps.drewN (by assumption) _) | (with_reducible exact (Keeps.refl _).drew) | (with_reducible exact (Keeps.refl _).drewN _))) (by omega) (by omega) (by omega) (by omega) t)
              go_wp2_with fail
              refine name_world (fun W3 hW3 => ?_)
              have HY3 := Lib.hid (show Rws W3 _ 4 4 [Q1, Q2, Q3, Q4] by rw [hW3]; first | exact HX.out _ | exact (HX.out _).keep (Keeps.refl _).drew)
              have hk2 : Keeps W2 W3 := by rw [hW3]; exact (by (repeat (first | (with_reducible exact Keeps.refl _) | (with_reducible assumption) | (with_reducible refine Keeps.drewN ?_ _) | (with_reducible refine Keeps.drew ?_) | (with_reducible refine Keeps.alloc ?_ _) | (with_reducible refine Keeps.setNew ?_ ?_ _))) <;> (dsimp only; omega))
              have HX3 := Lib.hid (HX2.out.keep hk2)
              have HT3 := Lib.hid (fun w' (hq : Keeps W3 w') => HT2.out w' (hk2.trans hq))
              have KW3 := Lib.hid (KW2.out.trans hk2)
              clear hW3 hk2 HT2 KW2 HP1 HP2 HP3 HP4 K5 K6 K7 K8 HX hk HX2
              have hV := Lib.hid (hV.out)
              generalize [P1, P2, P3, P4] = LX at *
              generalize [Q1, Q2, Q3, Q4] = LY at *
              have hk := Keeps.refl W3
              go_loopw [13] (fun i wr => ∃ j : Nat, j ≤ 4 ∧ i = .int .i64 j ∧ Keeps W3 wr) (fun i _ => 4 - (intOf i).toNat)
              case atStart => exact ⟨0, by omega, rfl, Keeps.refl _⟩
              case round =>
                obtain ⟨j, hj, rfl, hkw⟩ := hrel
                clear hk
                by_cases hlt : j < 4
                · rename World => wr
                  obtain ⟨b, o, hbo, hb, hC⟩ := HX3.out.2.2.2 (by omega)
                  obtain ⟨Ak, nk, ck, c0, hP, hnk⟩ := hC j hlt
                  simp only [Option.some.injEq, Addr.mk.injEq, and_true] at hbo
                  obtain ⟨rfl, rfl⟩ := hbo
                  have c1 := (hkw.cell hb).trans c0
                  rw [Nat.zero_add] at c1
                  have hp := hpos.out j hlt
                  have hl := hlen.out j
                  have hPl := hP.1
                  have hPk := Lib.hid (hP.keep hkw)
                  have hlt2 : (j : Int) < 4 := by omega
                  clear hC hP c0
                  generalize LX.getD j [] = L at *
                  subst hPl
                  by_cases hn : 0 < L.length
                  · have hpp := hp hn
                    have KR := Lib.hid (fun w h => rdarea_any Ak L.length ck L w h (by omega))
                    have hn2 : (0 : Int) < (L.length : Int) := by omega
                    clear hp
                    generalize area L = ar at *
                    have hpp2 : decide (ar ≤ 0) = false := by simp; omega
                    go_wp2_with (go_at_call 17; (with_reducible refine (KR.out _ (hPk.out)).mono ?_); rintro e wn ⟨rfl, hk⟩)
                    go_roundw
                    case rel => exact ⟨j + 1, by omega, by go_num, hkw.trans hk⟩
                    case measure => simp [intOf]; omega
                  · have hz : L.length = 0 := by omega
                    rw [hz] at c1
                    go_wp2_with fail
                    go_roundw
                    case rel => exact ⟨j + 1, by omega, by go_num, hkw⟩
                    case measure => simp [intOf]; omega
                · obtain rfl : j = 4 := by omega
                  have hLY := Lib.hid (HY3.out.1)
                  have z := HT3.out _ hkw
                  obtain ⟨-, -, -, -, z4, z5, -⟩ := z
                  go_wp2_with (first | (go_at_call 28; (with_reducible refine (rtranslate_any _ 4 4 LX (tx, ty) _ (HX3.out.keep hkw) hV.out (by omega)).mono ?_); rintro e _ ⟨vv, rfl, hB, hkt⟩; rw [hT.out] at hB; obtain ⟨A3, c3, hv3, hR3⟩ := hB.rws; rw [hLY.out] at hv3 hR3; subst hv3; have hk := hkw.trans hkt; have hR3 := Lib.hid hR3; clear hB hkt) | (go_at_call 27; (with_reducible refine (keepk (rows_any A3 _ 4 c3 4 LY _ hR3.out (HY3.out.keep hk)) hk).mono ?_); rintro e _ ⟨rfl, hk⟩) | (go_at_call 10; (with_reducible refine (keepk (K9.out _) (by first | assumption | exact Keeps.drew (by assumption) | exact Keeps.drewN (by assumption) _)).mono ?_); rintro e _ ⟨rfl, hk⟩))
                  go_ret
                  exact ⟨rfl, KW3.out.trans hk⟩

set_option maxRecDepth 100000 in
theorem lifted (os : Os) (started : os.Started) (H : Type) (enc : TypeId × Value → H) :
    ReturnsInHanded {} Try.checked os 9 .any (Rows.strokegeomTranslationSpec.pre6 enc Try.prog Try.f9 Rows.strokegeomTranslationRow.domain false) (Rows.strokegeomTranslationSpec.post enc Try.prog Try.f9 false true false false) := by
  refine returnsInHanded_of_change (C := Try.checked) Try.own started (by kernel_rfl) Try.func9
    (ChangeSpec.witness6 (enc := enc) (C := Try.checked) false ⟨#[], #[.agg #[.int .i64 0, .int .i64 0], .agg #[.int .i64 0, .int .i64 0], .int .i64 0, .agg #[.int .i64 0, .int .i64 0]], []⟩ 8 (by kernel_rfl) (by kernel_rfl) (by kernel_rfl) (by kernel_rfl)) ?_
  intro W base args ds gs before hval0 hW hcnd _
  have hval : ∀ (j : Nat) t v, Try.f9.params[j]? = some t → args[j]? = some v → Value.okWide Try.prog W .any base t v := hval0
  have hW' := hW
  obtain ⟨p, q, hA0, hV, rfl, hfz, hnd⟩ := hW
  have hA : DataW.TrodAll enc Try.prog W 0 (fun _ => true) true Try.f9.params.toList args.toList ds p := hA0
  have hAll := hA
  rw [Try.params9] at hA hval
  obtain ⟨v0, vs0, d0, ds0, p0, q0, hargs, rfl, rfl, h0, r0⟩ := trodAll_cons hA
  obtain ⟨v1, vs1, d1, ds1, p1, q1, rfl, rfl, rfl, h1, r1⟩ := trodAll_cons r0
  obtain ⟨v2, vs2, d2, ds2, p2, q2, rfl, rfl, rfl, h2, r2⟩ := trodAll_cons r1
  obtain ⟨v3, vs3, d3, ds3, p3, q3, rfl, rfl, rfl, h3, r3⟩ := trodAll_cons r2
  obtain ⟨rfl, rfl, rfl⟩ := trodAll_nil r3
  obtain rfl : args = #[v0, v1, v2, v3] := by cases args; simp_all
  obtain ⟨rfl, rfl⟩ := trodVars_none hV
  obtain ⟨c0, rfl, L0_0⟩ := open_flat (ks := [some .i64, some .i64]) (by kernel_rfl) (by kernel_rfl) (hval 0 28 v0 rfl rfl) h0
  obtain ⟨_, c0_0, rfl, ⟨a0_0, rfl, w0_0⟩, L0_1⟩ := leafs_cons L0_0
  obtain ⟨l0_0, u0_0⟩ := bounds_i64 w0_0
  obtain ⟨_, c0_1, rfl, ⟨a0_1, rfl, w0_1⟩, L0_2⟩ := leafs_cons L0_1
  obtain ⟨l0_1, u0_1⟩ := bounds_i64 w0_1
  obtain rfl := leafs_nil L0_2
  obtain ⟨c1, rfl, L1_0⟩ := open_flat (ks := [some .i64, some .i64]) (by kernel_rfl) (by kernel_rfl) (hval 1 28 v1 rfl rfl) h1
  obtain ⟨_, c1_0, rfl, ⟨a1_0, rfl, w1_0⟩, L1_1⟩ := leafs_cons L1_0
  obtain ⟨l1_0, u1_0⟩ := bounds_i64 w1_0
  obtain ⟨_, c1_1, rfl, ⟨a1_1, rfl, w1_1⟩, L1_2⟩ := leafs_cons L1_1
  obtain ⟨l1_1, u1_1⟩ := bounds_i64 w1_1
  obtain rfl := leafs_nil L1_2
  obtain ⟨a2, rfl, _, _, w2⟩ := open_int Try.underlying3 (hval 2 3 v2 rfl rfl) h2
  obtain ⟨l2, u2⟩ := bounds_i64 w2
  obtain ⟨c3, rfl, L3_0⟩ := open_flat (ks := [some .i64, some .i64]) (by kernel_rfl) (by kernel_rfl) (hval 3 28 v3 rfl rfl) h3
  obtain ⟨_, c3_0, rfl, ⟨a3_0, rfl, w3_0⟩, L3_1⟩ := leafs_cons L3_0
  obtain ⟨l3_0, u3_0⟩ := bounds_i64 w3_0
  obtain ⟨_, c3_1, rfl, ⟨a3_1, rfl, w3_1⟩, L3_2⟩ := leafs_cons L3_1
  obtain ⟨l3_1, u3_1⟩ := bounds_i64 w3_1
  obtain rfl := leafs_nil L3_2
  clear hA0 hval0
  refine (walk a0_0 a0_1 a1_0 a1_1 a2 a3_0 a3_1 W l0_0 u0_0 l0_1 u0_1 l1_0 u1_0 l1_1 u1_1 l2 u2 l3_0 u3_0 l3_1 u3_1).mono fun e W' ⟨he, bel⟩ => ?_
  subst he
  exact ⟨_, rfl, _, _, _, [], _, [], hW', trodAll_mk1 (shut_bool Try.underlying4 _), below_trodAll Try.laidOut bel (reads_of (by kernel_rfl)) hAll, rfl, bel.frame _, fun h => by cases h⟩

theorem over : Rows.strokegeomTranslationRow.holds Try.pinned (OpenSpec.ofChange Rows.strokegeomTranslationSpec) :=
  OpenClaim.holds_of_wide 9 Try.f9 rfl rfl rfl rfl rfl rfl rfl ⟨rfl, rfl, rfl, rfl, rfl⟩ rfl rfl rfl rfl rfl (by kernel_rfl) Try.func9 (by kernel_rfl)
    (of_decide_eq_true (by kernel_rfl)) (by unfold Func.isWrapper; first | (rw [if_pos (by decide +kernel)]; kernel_rfl) | (rw [if_neg (by decide +kernel)]; exact ⟨rfl, rfl⟩))
    (fun os started H enc _ => lifted os started H enc)

/-- The statement. -/
theorem proved : Rows.StrokegeomTranslationSaid := over
#print axioms proved
end Go.Proofs.Ytgkdcipebefmhaa.strokegeomTranslation
