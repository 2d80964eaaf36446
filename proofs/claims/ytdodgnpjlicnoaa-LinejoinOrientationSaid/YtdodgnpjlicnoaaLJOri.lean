/- LinejoinOrientation of grisaillelaw23 returns true for all its arguments; no condition. -/
import Derived.Test.YtdodgnpjlicnoaaE23
import Derived.Test.YtdodgnpjlicnoaaJk
import Derived.Test.YtdodgnpjlicnoaaJh
import Derived.Test.YtdodgnpjlicnoaaOt
import Derived.Test.YtdodgnpjlicnoaaWe
import Derived.Test.YtdodgnpjlicnoaaOp
import Derived.Test.YtdodgnpjlicnoaaKk
namespace Go.Proofs.Ytdodgnpjlicnoaa.linejoinOrientation
open Go.RowKit Go.ChangeShapes Go.WideShapes Go.ChangeAt
set_option linter.unusedVariables false
open Go.Proofs.Ytdodgnpjlicnoaa
set_option linter.unusedSimpArgs false
/-- one ring comes back, and what it holds -/
theorem RetJ.ring {w w' : World} {LL : List (List Pt)} {L : List Pt} {e : Ending} (h : RetJ w LL e w') (hL : LL = [L]) :
    ∃ b o c Ak ck, e = .returned (.slice (some ⟨b, o, none⟩) 1 c) ∧ (∀ w2, Keeps w' w2 → w2.cell? ⟨b, o, none⟩ = some (.slice Ak L.length ck) ∧ Pts w2 Ak L.length ck L) ∧ Keeps w w' := by
  subst hL
  obtain ⟨A, c, rfl, hR, hkk⟩ := h
  obtain ⟨b, o, rfl, hb, hc⟩ := hR.2.2.2 (by simp)
  obtain ⟨Ak, nk, ck, e1, hP, _⟩ := hc 0 (by simp)
  have e2 : nk = L.length := hP.1.symm
  subst e2
  exact ⟨b, o, c, Ak, ck, rfl, fun w2 h => ⟨(h.cell hb).trans e1, hP.keep h⟩, hkk⟩
theorem RetJ.none {w w' : World} {LL : List (List Pt)} {e : Ending} (h : RetJ w LL e w') (hL : LL = []) : ∃ A c, e = .returned (.slice A 0 c) ∧ Keeps w w' := by
  subst hL
  obtain ⟨A, c, rfl, hR, hkk⟩ := h
  exact ⟨A, c, rfl, hkk⟩
theorem joinR_len (u v b : Pt) (wd jn cp ml ph : Int) (D : List Int) : (joinR u v b wd jn cp ml ph D).length ≤ 16 := by
  unfold joinR
  split
  · simp
  · split
    · exact discL_len v wd
    · split
      · exact Nat.le_trans (orient_len _) (Nat.le_trans (corn_len _ _ _ _ _ _) (by omega))
      · simp
theorem straight_cases (u v b : Pt) (wd jn cp ml ph : Int) (D : List Int) : vP u = false ∨ vP u = true ∧ vP v = false ∨ vP u = true ∧ vP v = true ∧ vP b = false ∨ vP u = true ∧ vP v = true ∧ vP b = true ∧ oriI u.1 u.2 v.1 v.2 b.1 b.2 ≠ 0 ∨
    vP u = true ∧ vP v = true ∧ vP b = true ∧ oriI u.1 u.2 v.1 v.2 b.1 b.2 = 0 ∧ outB u v b 256 = false ∧ ((joinR u v b wd jn cp ml ph D).length ≠ 0 → jn = 3) := by
  cases h1 : vP u with
  | false => exact Or.inl rfl
  | true =>
    cases h2 : vP v with
    | false => exact Or.inr (Or.inl ⟨rfl, rfl⟩)
    | true =>
      cases h3 : vP b with
      | false => exact Or.inr (Or.inr (Or.inl ⟨rfl, rfl, rfl⟩))
      | true =>
        by_cases h4 : oriI u.1 u.2 v.1 v.2 b.1 b.2 = 0
        · refine Or.inr (Or.inr (Or.inr (Or.inr ⟨rfl, rfl, rfl, h4, ?_⟩)))
          have hC : outC u v b = 0 := by
            unfold oriI subc at h4
            rw [(vP_bd h1).1, (vP_bd h1).2.1, (vP_bd h2).1, (vP_bd h2).2.1, (vP_bd h3).1, (vP_bd h3).2.1] at h4
            have hx : crossI (v.1 - u.1) (v.2 - u.2) (b.1 - u.1) (b.2 - u.2) = 0 := by
              generalize crossI (v.1 - u.1) (v.2 - u.2) (b.1 - u.1) (b.2 - u.2) = x at *
              unfold clI at h4
              by_cases g1 : x < -1
              · rw [if_pos g1] at h4; omega
              · rw [if_neg g1] at h4
                by_cases g2 : 1 < x
                · rw [if_pos g2] at h4; omega
                · rw [if_neg g2] at h4; exact h4
            rw [← hx]
            unfold outC crossI
            grind
          have ho : ∀ wd, outB u v b wd = false := fun wd => by unfold outB; rw [hC]; simp
          refine ⟨ho 256, fun hn => ?_⟩
          apply Classical.byContradiction; intro h3'
          have := (joinR_ok u v b wd jn cp ml ph D (by omega)).2.2 h3'
          rw [ho wd] at this
          exact absurd this.2 (by decide)
        · exact Or.inr (Or.inr (Or.inr (Or.inl ⟨rfl, rfl, rfl, h4⟩)))
set_option maxRecDepth 100000 in
set_option maxHeartbeats 4000000 in
theorem walk (ux uy vx vy bx b_y : Int) (wd jn cp ml ph : Int) (A : Option Addr) (n c : Nat) (D : List Int) (w : World) (l0 : -9223372036854775808 ≤ ux) (u0 : ux ≤ 9223372036854775807) (l1 : -9223372036854775808 ≤ uy) (u1 : uy ≤ 9223372036854775807) (l2 : -9223372036854775808 ≤ vx) (u2 : vx ≤ 9223372036854775807) (l3 : -9223372036854775808 ≤ vy) (u3 : vy ≤ 9223372036854775807) (l4 : -9223372036854775808 ≤ bx) (u4 : bx ≤ 9223372036854775807) (l5 : -9223372036854775808 ≤ b_y) (u5 : b_y ≤ 9223372036854775807) (h : Ins w A n c D) (hB : i64b wd ∧ i64b jn ∧ i64b cp ∧ i64b ml ∧ i64b ph) :
    Calls Try.prog 8 #[.agg #[.int .i64 ux, .int .i64 uy, .int .i64 vx, .int .i64 vy, .int .i64 bx, .int .i64 b_y], .agg #[.int .i64 wd, .int .i64 jn, .int .i64 cp, .int .i64 ml, .slice A n c, .int .i64 ph]] w fun e w' => e = .returned (.bool true) ∧ Below w.heap.size w w' := by
  have g3 := ptGuard
  have g5 := ptNeq
  have HS := Lib.hid (show ∀ w', Keeps ((w.alloc (.cells #[.int .i64 ux, .int .i64 uy, .int .i64 vx, .int .i64 vy, .int .i64 bx, .int .i64 b_y] 24)).alloc (.cells #[.int .i64 wd, .int .i64 jn, .int .i64 cp, .int .i64 ml, .slice A n c, .int .i64 ph] 35)) w' → w'.cell? ⟨w.heap.size, 0, none⟩ = some (.int .i64 ux) ∧ w'.frozen? ⟨w.heap.size, 0, none⟩ = false ∧ w'.cell? ⟨w.heap.size, 1, none⟩ = some (.int .i64 uy) ∧ w'.frozen? ⟨w.heap.size, 1, none⟩ = false ∧ w'.cell? ⟨w.heap.size, 2, none⟩ = some (.int .i64 vx) ∧ w'.frozen? ⟨w.heap.size, 2, none⟩ = false ∧ w'.cell? ⟨w.heap.size, 3, none⟩ = some (.int .i64 vy) ∧ w'.frozen? ⟨w.heap.size, 3, none⟩ = false ∧ w'.cell? ⟨w.heap.size, 4, none⟩ = some (.int .i64 bx) ∧ w'.frozen? ⟨w.heap.size, 4, none⟩ = false ∧ w'.cell? ⟨w.heap.size, 5, none⟩ = some (.int .i64 b_y) ∧ w'.frozen? ⟨w.heap.size, 5, none⟩ = false ∧ w'.cell? ⟨w.heap.size + 1, 0, none⟩ = some (.int .i64 wd) ∧ w'.frozen? ⟨w.heap.size + 1, 0, none⟩ = false ∧ w'.cell? ⟨w.heap.size + 1, 1, none⟩ = some (.int .i64 jn) ∧ w'.frozen? ⟨w.heap.size + 1, 1, none⟩ = false ∧ w'.cell? ⟨w.heap.size + 1, 2, none⟩ = some (.int .i64 cp) ∧ w'.frozen? ⟨w.heap.size + 1, 2, none⟩ = false ∧ w'.cell? ⟨w.heap.size + 1, 3, none⟩ = some (.int .i64 ml) ∧ w'.frozen? ⟨w.heap.size + 1, 3, none⟩ = false ∧ w'.cell? ⟨w.heap.size + 1, 4, none⟩ = some (.slice A n c) ∧ w'.frozen? ⟨w.heap.size + 1, 4, none⟩ = false ∧ w'.cell? ⟨w.heap.size + 1, 5, none⟩ = some (.int .i64 ph) ∧ w'.frozen? ⟨w.heap.size + 1, 5, none⟩ = false from fun w' hk => ⟨(hk.cell (p := ⟨w.heap.size, 0, none⟩) (by first | (simp; done) | (simp; omega))).trans (by simp [go_sem]), (hk.frozen (p := ⟨w.heap.size, 0, none⟩) (by first | (simp; done) | (simp; omega))).trans (by simp [go_sem]), (hk.cell (p := ⟨w.heap.size, 1, none⟩) (by first | (simp; done) | (simp; omega))).trans (by simp [go_sem]), (hk.frozen (p := ⟨w.heap.size, 1, none⟩) (by first | (simp; done) | (simp; omega))).trans (by simp [go_sem]), (hk.cell (p := ⟨w.heap.size, 2, none⟩) (by first | (simp; done) | (simp; omega))).trans (by simp [go_sem]), (hk.frozen (p := ⟨w.heap.size, 2, none⟩) (by first | (simp; done) | (simp; omega))).trans (by simp [go_sem]), (hk.cell (p := ⟨w.heap.size, 3, none⟩) (by first | (simp; done) | (simp; omega))).trans (by simp [go_sem]), (hk.frozen (p := ⟨w.heap.size, 3, none⟩) (by first | (simp; done) | (simp; omega))).trans (by simp [go_sem]), (hk.cell (p := ⟨w.heap.size, 4, none⟩) (by first | (simp; done) | (simp; omega))).trans (by simp [go_sem]), (hk.frozen (p := ⟨w.heap.size, 4, none⟩) (by first | (simp; done) | (simp; omega))).trans (by simp [go_sem]), (hk.cell (p := ⟨w.heap.size, 5, none⟩) (by first | (simp; done) | (simp; omega))).trans (by simp [go_sem]), (hk.frozen (p := ⟨w.heap.size, 5, none⟩) (by first | (simp; done) | (simp; omega))).trans (by simp [go_sem]), (hk.cell (p := ⟨w.heap.size + 1, 0, none⟩) (by first | (simp; done) | (simp; omega))).trans (by simp [go_sem]), (hk.frozen (p := ⟨w.heap.size + 1, 0, none⟩) (by first | (simp; done) | (simp; omega))).trans (by simp [go_sem]), (hk.cell (p := ⟨w.heap.size + 1, 1, none⟩) (by first | (simp; done) | (simp; omega))).trans (by simp [go_sem]), (hk.frozen (p := ⟨w.heap.size + 1, 1, none⟩) (by first | (simp; done) | (simp; omega))).trans (by simp [go_sem]), (hk.cell (p := ⟨w.heap.size + 1, 2, none⟩) (by first | (simp; done) | (simp; omega))).trans (by simp [go_sem]), (hk.frozen (p := ⟨w.heap.size + 1, 2, none⟩) (by first | (simp; done) | (simp; omega))).trans (by simp [go_sem]), (hk.cell (p := ⟨w.heap.size + 1, 3, none⟩) (by first | (simp; done) | (simp; omega))).trans (by simp [go_sem]), (hk.frozen (p := ⟨w.heap.size + 1, 3, none⟩) (by first | (simp; done) | (simp; omega))).trans (by simp [go_sem]), (hk.cell (p := ⟨w.heap.size + 1, 4, none⟩) (by first | (simp; done) | (simp; omega))).trans (by simp [go_sem]), (hk.frozen (p := ⟨w.heap.size + 1, 4, none⟩) (by first | (simp; done) | (simp; omega))).trans (by simp [go_sem]), (hk.cell (p := ⟨w.heap.size + 1, 5, none⟩) (by first | (simp; done) | (simp; omega))).trans (by simp [go_sem]), (hk.frozen (p := ⟨w.heap.size + 1, 5, none⟩) (by first | (simp; done) | (simp; omega))).trans (by simp [go_sem])⟩)
  have HB := Lib.hid (show Keeps w ((w.alloc (.cells #[.int .i64 ux, .int .i64 uy, .int .i64 vx, .int .i64 vy, .int .i64 bx, .int .i64 b_y] 24)).alloc (.cells #[.int .i64 wd, .int .i64 jn, .int .i64 cp, .int .i64 ml, .slice A n c, .int .i64 ph] 35)) from (by (repeat (first | (with_reducible exact Keeps.refl _) | (with_reducible assumption) | (with_reducible refine Keeps.drewN ?_ _) | (with_reducible refine Keeps.drew ?_) | (with_reducible refine Keeps.alloc ?_ _) | (with_reducible refine Keeps.setNew ?_ ?_ _))) <;> (dsimp only; omega)))
  have hk0 := Keeps.refl ((w.alloc (.cells #[.int .i64 ux, .int .i64 uy, .int .i64 vx, .int .i64 vy, .int .i64 bx, .int .i64 b_y] 24)).alloc (.cells #[.int .i64 wd, .int .i64 jn, .int .i64 cp, .int .i64 ml, .slice A n c, .int .i64 ph] 35))
  have K9 := Lib.hid (fun w => example23_any w)
  have hmx := h.max
  have K0 := Lib.hid (fun w' (hk : Keeps ((w.alloc (.cells #[.int .i64 ux, .int .i64 uy, .int .i64 vx, .int .i64 vy, .int .i64 bx, .int .i64 b_y] 24)).alloc (.cells #[.int .i64 wd, .int .i64 jn, .int .i64 cp, .int .i64 ml, .slice A n c, .int .i64 ph] 35)) w') => ljoin_any (ux, uy) (vx, vy) (bx, b_y) wd jn cp ml ph A n c D w' (h.keep (HB.out.trans hk)))
  have KU := Lib.hid (fun w => rvalid_any ux uy w)
  have KV := Lib.hid (fun w => rvalid_any vx vy w)
  have KB := Lib.hid (fun w => rvalid_any bx b_y w)
  rw [show validB ux uy = vP (ux, uy) from rfl] at KU
  rw [show validB vx vy = vP (vx, vy) from rfl] at KV
  rw [show validB bx b_y = vP (bx, b_y) from rfl] at KB
  have KO := Lib.hid (fun w => rorientation_any ux uy vx vy bx b_y w)
  have KN := Lib.hid (fun w => lout_any (ux, uy) (vx, vy) (bx, b_y) 256 w)
  have HSc := Lib.hid (show ∀ w', Keeps ((w.alloc (.cells #[.int .i64 ux, .int .i64 uy, .int .i64 vx, .int .i64 vy, .int .i64 bx, .int .i64 b_y] 24)).alloc (.cells #[.int .i64 wd, .int .i64 jn, .int .i64 cp, .int .i64 ml, .slice A n c, .int .i64 ph] 35)) w' → w'.cell? ⟨w.heap.size, 0, none⟩ = some (.int .i64 ux) ∧ w'.cell? ⟨w.heap.size, 1, none⟩ = some (.int .i64 uy) ∧ w'.cell? ⟨w.heap.size, 2, none⟩ = some (.int .i64 vx) ∧ w'.cell? ⟨w.heap.size, 3, none⟩ = some (.int .i64 vy) ∧ w'.cell? ⟨w.heap.size, 4, none⟩ = some (.int .i64 bx) ∧ w'.cell? ⟨w.heap.size, 5, none⟩ = some (.int .i64 b_y) ∧ w'.cell? ⟨w.heap.size + 1, 0, none⟩ = some (.int .i64 wd) ∧ w'.cell? ⟨w.heap.size + 1, 1, none⟩ = some (.int .i64 jn) ∧ w'.cell? ⟨w.heap.size + 1, 2, none⟩ = some (.int .i64 cp) ∧ w'.cell? ⟨w.heap.size + 1, 3, none⟩ = some (.int .i64 ml) ∧ w'.cell? ⟨w.heap.size + 1, 4, none⟩ = some (.slice A n c) ∧ w'.cell? ⟨w.heap.size + 1, 5, none⟩ = some (.int .i64 ph) from fun w' hk => by
    obtain ⟨y0, -, y1, -, y2, -, y3, -, y4, -, y5, -, y6, -, y7, -, y8, -, y9, -, y10, -, y11, -⟩ := HS.out w' hk
    exact ⟨y0, y1, y2, y3, y4, y5, y6, y7, y8, y9, y10, y11⟩)
  have hst := straight_cases (ux, uy) (vx, vy) (bx, b_y) wd jn cp ml ph D
  have hjo := joinR_ok (ux, uy) (vx, vy) (bx, b_y) wd jn cp ml ph D
  have hRn := joinR_len (ux, uy) (vx, vy) (bx, b_y) wd jn cp ml ph D
  dsimp only at hst
  generalize oriI ux uy vx vy bx b_y = S at *
  generalize outN (ux, uy) (vx, vy) (bx, b_y) 256 = N at *
  generalize outM (ux, uy) (vx, vy) (bx, b_y) 256 = M at *
  generalize outB (ux, uy) (vx, vy) (bx, b_y) 256 = B at *
  generalize vP (ux, uy) = b1 at *
  generalize vP (vx, vy) = b2 at *
  generalize vP (bx, b_y) = b3 at *
  unfold joinL at K0
  generalize joinR (ux, uy) (vx, vy) (bx, b_y) wd jn cp ml ph D = R at *
  have hk := hk0
  clear h hB HS l0 u0 l1 u1 l2 u2 l3 u3 l4 u4 l5 u5
  by_cases h40 : n ≤ 40
  · have t1 : decide (40 < (n : Int)) = false := decide_eq_false (by omega)
    have t2 : ¬ (40 < (n : Int)) := by omega
    have t3 : decide (40 < n) = false := decide_eq_false (by omega)
    have hst := Lib.hid hst
    by_cases hz : R.length = 0
    · have K1 := Lib.hid (fun w' hk => (K0.out w' hk).mono fun e w1 h => RetJ.none h (by unfold wrapL; rw [if_pos hz]))
      clear K0 hjo
      go_enter Try.func8, Try.ntmps8
      go_wp2_with (first | (go_at_call 19; (with_reducible refine (K1.out _ hk).mono ?_); rintro e w1 ⟨A1, c1, rfl, hk1⟩; replace hk := hk.trans hk1; obtain ⟨y0, y1, y2, y3, y4, y5, y6, y7, y8, y9, y10, y11⟩ := HSc.out _ hk) | fail "ARM")
      rename World => wj
      go_loopw [30] (fun i wr => i = .int .i64 0 ∧ Keeps wj wr) (fun _ _ => 0)
      case atStart => exact ⟨rfl, Keeps.refl _⟩
      case round =>
        obtain ⟨rfl, hkr⟩ := hrel
        replace hk := hk.trans hkr
        obtain ⟨y0, y1, y2, y3, y4, y5, y6, y7, y8, y9, y10, y11⟩ := HSc.out _ hk
        have hst := hst.out
        rcases hst with h1 | ⟨h1, h2⟩ | ⟨h1, h2, h3⟩ | ⟨h1, h2, h3, h4⟩ | ⟨h1, h2, h3, h4, h5, h6⟩
        · rw [h1] at KU
          clear h1
          go_wp2_with (first | (go_at_call 24; (first | (with_reducible refine (keepk (KU.out _) hk).mono ?_) | (with_reducible refine (keepk (KV.out _) hk).mono ?_) | (with_reducible refine (keepk (KB.out _) hk).mono ?_) | fail "V"); rintro e wv ⟨rfl, hk⟩; obtain ⟨y0, y1, y2, y3, y4, y5, y6, y7, y8, y9, y10, y11⟩ := HSc.out _ hk) | (go_at_call 25; (with_reducible refine (keepk (KO.out _) hk).mono ?_); rintro e wo ⟨rfl, hk⟩; obtain ⟨y0, y1, y2, y3, y4, y5, y6, y7, y8, y9, y10, y11⟩ := HSc.out _ hk) | (go_at_call 13; (with_reducible refine (keepk (KN.out _) hk).mono ?_); rintro e wn ⟨rfl, hk⟩; replace hk := (hk.alloc (.cells #[.int .i64 N.1, .int .i64 N.2] 23)).alloc (.cells #[.int .i64 M.1, .int .i64 M.2] 23); obtain ⟨y0, y1, y2, y3, y4, y5, y6, y7, y8, y9, y10, y11⟩ := HSc.out _ hk) | (go_at_call 15; (with_reducible refine (keepk (K9.out _) hk).mono ?_); rintro e w9 ⟨rfl, hk⟩) | fail "ARM")
          all_goals
            go_ret
            exact ⟨rfl, HB.out.trans hk⟩
        · rw [h1] at KU
          rw [h2] at KV
          clear h1 h2
          go_wp2_with (first | (go_at_call 24; (first | (with_reducible refine (keepk (KU.out _) hk).mono ?_) | (with_reducible refine (keepk (KV.out _) hk).mono ?_) | (with_reducible refine (keepk (KB.out _) hk).mono ?_) | fail "V"); rintro e wv ⟨rfl, hk⟩; obtain ⟨y0, y1, y2, y3, y4, y5, y6, y7, y8, y9, y10, y11⟩ := HSc.out _ hk) | (go_at_call 25; (with_reducible refine (keepk (KO.out _) hk).mono ?_); rintro e wo ⟨rfl, hk⟩; obtain ⟨y0, y1, y2, y3, y4, y5, y6, y7, y8, y9, y10, y11⟩ := HSc.out _ hk) | (go_at_call 13; (with_reducible refine (keepk (KN.out _) hk).mono ?_); rintro e wn ⟨rfl, hk⟩; replace hk := (hk.alloc (.cells #[.int .i64 N.1, .int .i64 N.2] 23)).alloc (.cells #[.int .i64 M.1, .int .i64 M.2] 23); obtain ⟨y0, y1, y2, y3, y4, y5, y6, y7, y8, y9, y10, y11⟩ := HSc.out _ hk) | (go_at_call 15; (with_reducible refine (keepk (K9.out _) hk).mono ?_); rintro e w9 ⟨rfl, hk⟩) | fail "ARM")
          all_goals
            go_ret
            exact ⟨rfl, HB.out.trans hk⟩
        · rw [h1] at KU
          rw [h2] at KV
          rw [h3] at KB
          clear h1 h2 h3
          go_wp2_with (first | (go_at_call 24; (first | (with_reducible refine (keepk (KU.out _) hk).mono ?_) | (with_reducible refine (keepk (KV.out _) hk).mono ?_) | (with_reducible refine (keepk (KB.out _) hk).mono ?_) | fail "V"); rintro e wv ⟨rfl, hk⟩; obtain ⟨y0, y1, y2, y3, y4, y5, y6, y7, y8, y9, y10, y11⟩ := HSc.out _ hk) | (go_at_call 25; (with_reducible refine (keepk (KO.out _) hk).mono ?_); rintro e wo ⟨rfl, hk⟩; obtain ⟨y0, y1, y2, y3, y4, y5, y6, y7, y8, y9, y10, y11⟩ := HSc.out _ hk) | (go_at_call 13; (with_reducible refine (keepk (KN.out _) hk).mono ?_); rintro e wn ⟨rfl, hk⟩; replace hk := (hk.alloc (.cells #[.int .i64 N.1, .int .i64 N.2] 23)).alloc (.cells #[.int .i64 M.1, .int .i64 M.2] 23); obtain ⟨y0, y1, y2, y3, y4, y5, y6, y7, y8, y9, y10, y11⟩ := HSc.out _ hk) | (go_at_call 15; (with_reducible refine (keepk (K9.out _) hk).mono ?_); rintro e w9 ⟨rfl, hk⟩) | fail "ARM")
          all_goals
            go_ret
            exact ⟨rfl, HB.out.trans hk⟩
        · rw [h1] at KU
          rw [h2] at KV
          rw [h3] at KB
          have q9 : (S == 0) = false := by rw [beq_eq_false_iff_ne]; exact h4
          clear h1 h2 h3 h4
          go_wp2_with (first | (go_at_call 24; (first | (with_reducible refine (keepk (KU.out _) hk).mono ?_) | (with_reducible refine (keepk (KV.out _) hk).mono ?_) | (with_reducible refine (keepk (KB.out _) hk).mono ?_) | fail "V"); rintro e wv ⟨rfl, hk⟩; obtain ⟨y0, y1, y2, y3, y4, y5, y6, y7, y8, y9, y10, y11⟩ := HSc.out _ hk) | (go_at_call 25; (with_reducible refine (keepk (KO.out _) hk).mono ?_); rintro e wo ⟨rfl, hk⟩; obtain ⟨y0, y1, y2, y3, y4, y5, y6, y7, y8, y9, y10, y11⟩ := HSc.out _ hk) | (go_at_call 13; (with_reducible refine (keepk (KN.out _) hk).mono ?_); rintro e wn ⟨rfl, hk⟩; replace hk := (hk.alloc (.cells #[.int .i64 N.1, .int .i64 N.2] 23)).alloc (.cells #[.int .i64 M.1, .int .i64 M.2] 23); obtain ⟨y0, y1, y2, y3, y4, y5, y6, y7, y8, y9, y10, y11⟩ := HSc.out _ hk) | (go_at_call 15; (with_reducible refine (keepk (K9.out _) hk).mono ?_); rintro e w9 ⟨rfl, hk⟩) | fail "ARM")
          all_goals
            go_ret
            exact ⟨rfl, HB.out.trans hk⟩
        · rw [h1] at KU
          rw [h2] at KV
          rw [h3] at KB
          rw [h5] at KN
          have q9 : (S == 0) = true := by rw [beq_iff_eq]; exact h4
          clear h1 h2 h3 h4 h5 h6
          go_wp2_with (first | (go_at_call 24; (first | (with_reducible refine (keepk (KU.out _) hk).mono ?_) | (with_reducible refine (keepk (KV.out _) hk).mono ?_) | (with_reducible refine (keepk (KB.out _) hk).mono ?_) | fail "V"); rintro e wv ⟨rfl, hk⟩; obtain ⟨y0, y1, y2, y3, y4, y5, y6, y7, y8, y9, y10, y11⟩ := HSc.out _ hk) | (go_at_call 25; (with_reducible refine (keepk (KO.out _) hk).mono ?_); rintro e wo ⟨rfl, hk⟩; obtain ⟨y0, y1, y2, y3, y4, y5, y6, y7, y8, y9, y10, y11⟩ := HSc.out _ hk) | (go_at_call 13; (with_reducible refine (keepk (KN.out _) hk).mono ?_); rintro e wn ⟨rfl, hk⟩; replace hk := (hk.alloc (.cells #[.int .i64 N.1, .int .i64 N.2] 23)).alloc (.cells #[.int .i64 M.1, .int .i64 M.2] 23); obtain ⟨y0, y1, y2, y3, y4, y5, y6, y7, y8, y9, y10, y11⟩ := HSc.out _ hk) | (go_at_call 15; (with_reducible refine (keepk (K9.out _) hk).mono ?_); rintro e w9 ⟨rfl, hk⟩) | fail "ARM")
          all_goals
            go_ret
            exact ⟨rfl, HB.out.trans hk⟩
    · have hne := hz
      have K1 := Lib.hid (fun w' hk => (K0.out w' hk).mono fun e w1 h => RetJ.ring h (show wrapL R = [R] by unfold wrapL; rw [if_neg hz]))
      obtain ⟨hA, hj2, hj3⟩ := hjo (by omega)
      clear K0 hjo hz
      go_enter Try.func8, Try.ntmps8
      go_wp2_with (first | (go_at_call 19; (with_reducible refine (K1.out _ hk).mono ?_); rintro e w1 ⟨bb1, o1, c1, A1, d1, rfl, hc1, hk1⟩; replace hk := hk.trans hk1; obtain ⟨y0, y1, y2, y3, y4, y5, y6, y7, y8, y9, y10, y11⟩ := HSc.out _ hk) | fail "ARM")
      rename World => wj
      have hc1 := Lib.hid hc1
      go_loopw [30] (fun i wr => (i = .int .i64 0 ∨ i = .int .i64 1) ∧ Keeps wj wr) (fun i _ => 1 - (intOf i).toNat)
      case atStart => exact ⟨Or.inl rfl, Keeps.refl _⟩
      case round =>
        obtain ⟨hi, hkr⟩ := hrel
        rename World => wr
        have hkw := hk.trans hkr
        rcases hi with rfl | rfl
        · obtain ⟨e0, hP⟩ := hc1.out _ hkr
          obtain ⟨bb, oo, rfl, hbb, hcc⟩ := hP.2.2.2.2 (by omega)
          have hcc0 := hcc 0 (by omega)
          rw [Nat.zero_mul, Nat.add_zero] at hcc0
          have KA := Lib.hid (fun k : KW wr => keepq (rdarea_any _ _ _ R k.w (hP.keep k.keeps) (by omega)))
          have z1 : ∀ k : KW wr, k.w.cell? ⟨w.heap.size + 1, 1, none⟩ = some (.int .i64 jn) := fun k => (HSc.out _ (hkw.trans k.keeps)).2.2.2.2.2.2.2.1
          have z2 : ∀ k : KW wr, k.w.cell? ⟨w.heap.size, 2, none⟩ = some (.int .i64 vx) := fun k => (HSc.out _ (hkw.trans k.keeps)).2.2.1
          have z3 : ∀ k : KW wr, k.w.cell? ⟨w.heap.size, 3, none⟩ = some (.int .i64 vy) := fun k => (HSc.out _ (hkw.trans k.keeps)).2.2.2.1
          have z4 : ∀ k : KW wr, k.w.cell? ⟨bb, oo, none⟩ = some (.int .i64 (R.getD 0 pt0).1) := fun k => (k.keeps.cell hbb).trans hcc0.1
          have z5 : ∀ k : KW wr, k.w.cell? ⟨bb, oo + 1, none⟩ = some (.int .i64 (R.getD 0 pt0).2) := fun k => (k.keeps.cell hbb).trans hcc0.2
          have q1 : decide (area R ≤ 0) = false := decide_eq_false (by omega)
          have hRl : (0 : Int) < (R.length : Int) := by omega
          generalize area R = ar at *
          clear hP hcc hcc0 hA
          have hR3 : jn = 2 → ((R.length : Int) != 3) = false := fun h => by rw [hj2 h]; rfl
          have hR0 : jn ≠ 3 → (R.getD 0 pt0).1 = vx ∧ (R.getD 0 pt0).2 = vy := fun h => by rw [(hj3 h).1]; exact ⟨rfl, rfl⟩
          generalize (R.getD 0 pt0).1 = r1 at *
          generalize (R.getD 0 pt0).2 = r2 at *
          by_cases h2 : jn = 2
          · have q2 : (jn == 2) = true := by rw [beq_iff_eq]; exact h2
            have e3 := hj2 h2
            rw [e3] at e0 KA hRl hRn
            have q4 : (jn != 3) = true := by rw [bne_iff_ne]; omega
            obtain ⟨rfl, rfl⟩ := hR0 (by omega)
            have q5 : (r1 == r1) = true := beq_self_eq_true _
            have q6 : (r2 == r2) = true := beq_self_eq_true _
            have hj2 := Lib.hid hj2
            have hj3 := Lib.hid hj3
            have h2 := Lib.hid h2
            clear hR3 hR0 e3
            go_wp2_with fail
            refine wp_region_kept (wr) (by kernel_rfl) (by kernel_rfl) (Keeps.refl _) ?_
            repeat (first | go_big_quiet_skip | (go_big_quiet_want; go_big_quiet_op; first | go_big_quiet_on | go_big_quiet_call ((go_at_call 23; first | (with_reducible exact KA.out _)))))
            refine wpQuiet_nil ?_
            rintro w' ⟨k9, rfl⟩
            have hk := k9.keeps
            generalize k9.w = w9 at hk ⊢
            clear k9
            go_wp2_with fail
            go_roundw
            case rel => exact ⟨Or.inr rfl, hkr.trans hk⟩
            case measure => simp [intOf]
          · have q2 : (jn == 2) = false := by rw [beq_eq_false_iff_ne]; exact h2
            by_cases h3 : jn = 3
            · have q4 : (jn != 3) = false := by rw [bne_eq_false_iff_eq]; exact h3
              have hj2 := Lib.hid hj2
              have hj3 := Lib.hid hj3
              have h3 := Lib.hid h3
              clear hR3 hR0 h2
              go_wp2_with fail
              refine wp_region_kept (wr) (by kernel_rfl) (by kernel_rfl) (Keeps.refl _) ?_
              repeat (first | go_big_quiet_skip | (go_big_quiet_want; go_big_quiet_op; first | go_big_quiet_on | go_big_quiet_call ((go_at_call 23; first | (with_reducible exact KA.out _)))))
              refine wpQuiet_nil ?_
              rintro w' ⟨k9, rfl⟩
              have hk := k9.keeps
              generalize k9.w = w9 at hk ⊢
              clear k9
              go_wp2_with fail
              go_roundw
              case rel => exact ⟨Or.inr rfl, hkr.trans hk⟩
              case measure => simp [intOf]
            · have q4 : (jn != 3) = true := by rw [bne_iff_ne]; exact h3
              obtain ⟨rfl, rfl⟩ := hR0 h3
              have q5 : (r1 == r1) = true := beq_self_eq_true _
              have q6 : (r2 == r2) = true := beq_self_eq_true _
              have hj2 := Lib.hid hj2
              have hj3 := Lib.hid hj3
              clear hR3 hR0 h2 h3
              go_wp2_with fail
              refine wp_region_kept (wr) (by kernel_rfl) (by kernel_rfl) (Keeps.refl _) ?_
              repeat (first | go_big_quiet_skip | (go_big_quiet_want; go_big_quiet_op; first | go_big_quiet_on | go_big_quiet_call ((go_at_call 23; first | (with_reducible exact KA.out _)))))
              refine wpQuiet_nil ?_
              rintro w' ⟨k9, rfl⟩
              have hk := k9.keeps
              generalize k9.w = w9 at hk ⊢
              clear k9
              go_wp2_with fail
              go_roundw
              case rel => exact ⟨Or.inr rfl, hkr.trans hk⟩
              case measure => simp [intOf]
        · replace hk := hkw
          obtain ⟨y0, y1, y2, y3, y4, y5, y6, y7, y8, y9, y10, y11⟩ := HSc.out _ hk
          have hst := hst.out
          clear hA hj2 hj3
          rcases hst with h1 | ⟨h1, h2⟩ | ⟨h1, h2, h3⟩ | ⟨h1, h2, h3, h4⟩ | ⟨h1, h2, h3, h4, h5, h6⟩
          · rw [h1] at KU
            clear h1
            go_wp2_with (first | (go_at_call 24; (first | (with_reducible refine (keepk (KU.out _) hk).mono ?_) | (with_reducible refine (keepk (KV.out _) hk).mono ?_) | (with_reducible refine (keepk (KB.out _) hk).mono ?_) | fail "V"); rintro e wv ⟨rfl, hk⟩; obtain ⟨y0, y1, y2, y3, y4, y5, y6, y7, y8, y9, y10, y11⟩ := HSc.out _ hk) | (go_at_call 25; (with_reducible refine (keepk (KO.out _) hk).mono ?_); rintro e wo ⟨rfl, hk⟩; obtain ⟨y0, y1, y2, y3, y4, y5, y6, y7, y8, y9, y10, y11⟩ := HSc.out _ hk) | (go_at_call 13; (with_reducible refine (keepk (KN.out _) hk).mono ?_); rintro e wn ⟨rfl, hk⟩; replace hk := (hk.alloc (.cells #[.int .i64 N.1, .int .i64 N.2] 23)).alloc (.cells #[.int .i64 M.1, .int .i64 M.2] 23); obtain ⟨y0, y1, y2, y3, y4, y5, y6, y7, y8, y9, y10, y11⟩ := HSc.out _ hk) | (go_at_call 15; (with_reducible refine (keepk (K9.out _) hk).mono ?_); rintro e w9 ⟨rfl, hk⟩) | fail "ARM")
            all_goals
              go_ret
              exact ⟨rfl, HB.out.trans hk⟩
          · rw [h1] at KU
            rw [h2] at KV
            clear h1 h2
            go_wp2_with (first | (go_at_call 24; (first | (with_reducible refine (keepk (KU.out _) hk).mono ?_) | (with_reducible refine (keepk (KV.out _) hk).mono ?_) | (with_reducible refine (keepk (KB.out _) hk).mono ?_) | fail "V"); rintro e wv ⟨rfl, hk⟩; obtain ⟨y0, y1, y2, y3, y4, y5, y6, y7, y8, y9, y10, y11⟩ := HSc.out _ hk) | (go_at_call 25; (with_reducible refine (keepk (KO.out _) hk).mono ?_); rintro e wo ⟨rfl, hk⟩; obtain ⟨y0, y1, y2, y3, y4, y5, y6, y7, y8, y9, y10, y11⟩ := HSc.out _ hk) | (go_at_call 13; (with_reducible refine (keepk (KN.out _) hk).mono ?_); rintro e wn ⟨rfl, hk⟩; replace hk := (hk.alloc (.cells #[.int .i64 N.1, .int .i64 N.2] 23)).alloc (.cells #[.int .i64 M.1, .int .i64 M.2] 23); obtain ⟨y0, y1, y2, y3, y4, y5, y6, y7, y8, y9, y10, y11⟩ := HSc.out _ hk) | (go_at_call 15; (with_reducible refine (keepk (K9.out _) hk).mono ?_); rintro e w9 ⟨rfl, hk⟩) | fail "ARM")
            all_goals
              go_ret
              exact ⟨rfl, HB.out.trans hk⟩
          · rw [h1] at KU
            rw [h2] at KV
            rw [h3] at KB
            clear h1 h2 h3
            go_wp2_with (first | (go_at_call 24; (first | (with_reducible refine (keepk (KU.out _) hk).mono ?_) | (with_reducible refine (keepk (KV.out _) hk).mono ?_) | (with_reducible refine (keepk (KB.out _) hk).mono ?_) | fail "V"); rintro e wv ⟨rfl, hk⟩; obtain ⟨y0, y1, y2, y3, y4, y5, y6, y7, y8, y9, y10, y11⟩ := HSc.out _ hk) | (go_at_call 25; (with_reducible refine (keepk (KO.out _) hk).mono ?_); rintro e wo ⟨rfl, hk⟩; obtain ⟨y0, y1, y2, y3, y4, y5, y6, y7, y8, y9, y10, y11⟩ := HSc.out _ hk) | (go_at_call 13; (with_reducible refine (keepk (KN.out _) hk).mono ?_); rintro e wn ⟨rfl, hk⟩; replace hk := (hk.alloc (.cells #[.int .i64 N.1, .int .i64 N.2] 23)).alloc (.cells #[.int .i64 M.1, .int .i64 M.2] 23); obtain ⟨y0, y1, y2, y3, y4, y5, y6, y7, y8, y9, y10, y11⟩ := HSc.out _ hk) | (go_at_call 15; (with_reducible refine (keepk (K9.out _) hk).mono ?_); rintro e w9 ⟨rfl, hk⟩) | fail "ARM")
            all_goals
              go_ret
              exact ⟨rfl, HB.out.trans hk⟩
          · rw [h1] at KU
            rw [h2] at KV
            rw [h3] at KB
            have q9 : (S == 0) = false := by rw [beq_eq_false_iff_ne]; exact h4
            clear h1 h2 h3 h4
            go_wp2_with (first | (go_at_call 24; (first | (with_reducible refine (keepk (KU.out _) hk).mono ?_) | (with_reducible refine (keepk (KV.out _) hk).mono ?_) | (with_reducible refine (keepk (KB.out _) hk).mono ?_) | fail "V"); rintro e wv ⟨rfl, hk⟩; obtain ⟨y0, y1, y2, y3, y4, y5, y6, y7, y8, y9, y10, y11⟩ := HSc.out _ hk) | (go_at_call 25; (with_reducible refine (keepk (KO.out _) hk).mono ?_); rintro e wo ⟨rfl, hk⟩; obtain ⟨y0, y1, y2, y3, y4, y5, y6, y7, y8, y9, y10, y11⟩ := HSc.out _ hk) | (go_at_call 13; (with_reducible refine (keepk (KN.out _) hk).mono ?_); rintro e wn ⟨rfl, hk⟩; replace hk := (hk.alloc (.cells #[.int .i64 N.1, .int .i64 N.2] 23)).alloc (.cells #[.int .i64 M.1, .int .i64 M.2] 23); obtain ⟨y0, y1, y2, y3, y4, y5, y6, y7, y8, y9, y10, y11⟩ := HSc.out _ hk) | (go_at_call 15; (with_reducible refine (keepk (K9.out _) hk).mono ?_); rintro e w9 ⟨rfl, hk⟩) | fail "ARM")
            all_goals
              go_ret
              exact ⟨rfl, HB.out.trans hk⟩
          · rw [h1] at KU
            rw [h2] at KV
            rw [h3] at KB
            rw [h5] at KN
            have q9 : (S == 0) = true := by rw [beq_iff_eq]; exact h4
            have q10 : (jn == 3) = true := by rw [beq_iff_eq]; exact h6 hne
            clear h1 h2 h3 h4 h5 h6
            go_wp2_with (first | (go_at_call 24; (first | (with_reducible refine (keepk (KU.out _) hk).mono ?_) | (with_reducible refine (keepk (KV.out _) hk).mono ?_) | (with_reducible refine (keepk (KB.out _) hk).mono ?_) | fail "V"); rintro e wv ⟨rfl, hk⟩; obtain ⟨y0, y1, y2, y3, y4, y5, y6, y7, y8, y9, y10, y11⟩ := HSc.out _ hk) | (go_at_call 25; (with_reducible refine (keepk (KO.out _) hk).mono ?_); rintro e wo ⟨rfl, hk⟩; obtain ⟨y0, y1, y2, y3, y4, y5, y6, y7, y8, y9, y10, y11⟩ := HSc.out _ hk) | (go_at_call 13; (with_reducible refine (keepk (KN.out _) hk).mono ?_); rintro e wn ⟨rfl, hk⟩; replace hk := (hk.alloc (.cells #[.int .i64 N.1, .int .i64 N.2] 23)).alloc (.cells #[.int .i64 M.1, .int .i64 M.2] 23); obtain ⟨y0, y1, y2, y3, y4, y5, y6, y7, y8, y9, y10, y11⟩ := HSc.out _ hk) | (go_at_call 15; (with_reducible refine (keepk (K9.out _) hk).mono ?_); rintro e w9 ⟨rfl, hk⟩) | fail "ARM")
            all_goals
              go_ret
              exact ⟨rfl, HB.out.trans hk⟩
  · have t1 : decide (40 < (n : Int)) = true := decide_eq_true (by omega)
    have t2 : (40 < (n : Int)) := by omega
    have t3 : decide (40 < n) = true := decide_eq_true (by omega)
    clear hjo hst K0
    go_enter Try.func8, Try.ntmps8
    go_wp2_with (first | (go_at_call 15; (with_reducible refine (keepk (K9.out _) hk).mono ?_); rintro e w9 ⟨rfl, hk⟩) | fail "ARM")
    go_ret
    exact ⟨rfl, HB.out.trans hk⟩

set_option maxRecDepth 100000 in
theorem lifted (os : Os) (started : os.Started) (H : Type) (enc : TypeId × Value → H) :
    ReturnsInHanded {} Try.checked os 8 .any (Rows.linejoinOrientationSpec.pre6 enc Try.prog Try.f8 Rows.linejoinOrientationRow.domain false) (Rows.linejoinOrientationSpec.post enc Try.prog Try.f8 false true false false) := by
  refine returnsInHanded_of_change (C := Try.checked) Try.own started (by kernel_rfl) Try.func8
    (ChangeSpec.witness6 (enc := enc) (C := Try.checked) false ⟨#[], #[.agg #[.int .i64 0, .int .i64 0, .int .i64 0, .int .i64 0, .int .i64 0, .int .i64 0], .agg #[.int .i64 0, .int .i64 0, .int .i64 0, .int .i64 0, .slice none 0 0, .int .i64 0]], []⟩ 8 (by kernel_rfl) (by kernel_rfl) (by kernel_rfl) (by kernel_rfl)) ?_
  intro W base args ds gs before hval0 hW hcnd _
  have hval : ∀ (j : Nat) t v, Try.f8.params[j]? = some t → args[j]? = some v → Value.okWide Try.prog W .any base t v := hval0
  have hW' := hW
  obtain ⟨p, q, hA0, hV, rfl, hfz, hnd⟩ := hW
  have hA : DataW.TrodAll enc Try.prog W 0 (fun _ => true) true Try.f8.params.toList args.toList ds p := hA0
  have hAll := hA
  rw [Try.params8] at hA hval
  obtain ⟨v0, vs0, d0, ds0, p0, q0, hargs, rfl, rfl, h0, r0⟩ := trodAll_cons hA
  obtain ⟨v1, vs1, d1, ds1, p1, q1, rfl, rfl, rfl, h1, r1⟩ := trodAll_cons r0
  obtain ⟨rfl, rfl, rfl⟩ := trodAll_nil r1
  obtain rfl : args = #[v0, v1] := by cases args; simp_all
  obtain ⟨rfl, rfl⟩ := trodVars_none hV
  obtain ⟨c0, rfl, L0_0⟩ := open_flat (ks := [some .i64, some .i64, some .i64, some .i64, some .i64, some .i64]) (by kernel_rfl) (by kernel_rfl) (hval 0 24 v0 rfl rfl) h0
  obtain ⟨_, c0_0, rfl, ⟨a0_0, rfl, w0_0⟩, L0_1⟩ := leafs_cons L0_0
  obtain ⟨l0_0, u0_0⟩ := bounds_i64 w0_0
  obtain ⟨_, c0_1, rfl, ⟨a0_1, rfl, w0_1⟩, L0_2⟩ := leafs_cons L0_1
  obtain ⟨l0_1, u0_1⟩ := bounds_i64 w0_1
  obtain ⟨_, c0_2, rfl, ⟨a0_2, rfl, w0_2⟩, L0_3⟩ := leafs_cons L0_2
  obtain ⟨l0_2, u0_2⟩ := bounds_i64 w0_2
  obtain ⟨_, c0_3, rfl, ⟨a0_3, rfl, w0_3⟩, L0_4⟩ := leafs_cons L0_3
  obtain ⟨l0_3, u0_3⟩ := bounds_i64 w0_3
  obtain ⟨_, c0_4, rfl, ⟨a0_4, rfl, w0_4⟩, L0_5⟩ := leafs_cons L0_4
  obtain ⟨l0_4, u0_4⟩ := bounds_i64 w0_4
  obtain ⟨_, c0_5, rfl, ⟨a0_5, rfl, w0_5⟩, L0_6⟩ := leafs_cons L0_5
  obtain ⟨l0_5, u0_5⟩ := bounds_i64 w0_5
  obtain rfl := leafs_nil L0_6
  obtain ⟨wd1, jn1, cp1, ml1, ph1, A1, n1, c1, D1, rfl, I1, B1⟩ := open_style (hval 1 35 v1 rfl rfl) h1
  clear hA0 hval0
  refine (walk a0_0 a0_1 a0_2 a0_3 a0_4 a0_5 wd1 jn1 cp1 ml1 ph1 A1 n1 c1 D1 W l0_0 u0_0 l0_1 u0_1 l0_2 u0_2 l0_3 u0_3 l0_4 u0_4 l0_5 u0_5 I1 B1).mono fun e W' ⟨he, bel⟩ => ?_
  subst he
  exact ⟨_, rfl, _, _, _, [], _, [], hW', trodAll_mk1 (shut_bool Try.underlying4 _), below_trodAll Try.laidOut bel (reads_of (by kernel_rfl)) hAll, rfl, bel.frame _, fun h => by cases h⟩

theorem over : Rows.linejoinOrientationRow.holds Try.pinned (OpenSpec.ofChange Rows.linejoinOrientationSpec) :=
  OpenClaim.holds_of_wide 8 Try.f8 rfl rfl rfl rfl rfl rfl rfl ⟨rfl, rfl, rfl, rfl, rfl⟩ rfl rfl rfl rfl rfl (by kernel_rfl) Try.func8 (by kernel_rfl)
    (of_decide_eq_true (by kernel_rfl)) (by unfold Func.isWrapper; first | (rw [if_pos (by decide +kernel)]; kernel_rfl) | (rw [if_neg (by decide +kernel)]; exact ⟨rfl, rfl⟩))
    (fun os started H enc _ => lifted os started H enc)

/-- The statement. -/
theorem proved : Rows.LinejoinOrientationSaid := over
#print axioms proved
end Go.Proofs.Ytdodgnpjlicnoaa.linejoinOrientation
