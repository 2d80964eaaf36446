/- Contract of between, and the colors between two stops. -/
import Derived.Test.YtboomdbmeallfaaGd
namespace Go.Proofs.Ytboomdbmeallfaa
open Go.RowKit
set_option linter.unusedVariables false
set_option linter.unusedSimpArgs false
theorem lc8_between (x y k d : Int) (hx : u8b x) (hy : u8b y) (k0 : 0 ≤ k) (k1 : k ≤ d) (d0 : 1 ≤ d) (d1 : d ≤ 1099511627776) : min x y ≤ lc8 x y k d ∧ lc8 x y k d ≤ max x y := by
  unfold u8b at *
  have h := part_bd k (y - x) d k0 k1 d0 d1 (by omega) (by omega)
  unfold lc8
  generalize dvr (k * (y - x)) d = r at *
  by_cases hw : 0 ≤ y - x
  · have := h.1 hw; omega
  · have := h.2 (by omega); omega
theorem two_between (a b : St) (t : Int) (ha : okSt a) (hb : okSt b) (hv : vB [a, b] = true) (h0 : a.1 ≤ t) (h1 : t ≤ b.1) :
    ∃ c0 c1 c2 c3 : Int, cAt [a, b] t = (c0, c1, c2, c3) ∧ (min a.2.1 b.2.1 ≤ c0 ∧ c0 ≤ max a.2.1 b.2.1) ∧ (min a.2.2.1 b.2.2.1 ≤ c1 ∧ c1 ≤ max a.2.2.1 b.2.2.1) ∧ (min a.2.2.2.1 b.2.2.2.1 ≤ c2 ∧ c2 ≤ max a.2.2.2.1 b.2.2.2.1) ∧ (min a.2.2.2.2 b.2.2.2.2 ≤ c3 ∧ c3 ≤ max a.2.2.2.2 b.2.2.2.2) := by
  obtain ⟨_, _, _, hR⟩ := vB_range hv
  have r0 := hR 0 (by simp)
  have r1 := hR 1 (by simp)
  simp only [List.getD_cons_zero, List.getD_cons_succ] at r0 r1
  by_cases hlt : t < b.1
  · have hl : lead t [a, b] = 1 := by unfold lead; rw [if_neg (by omega)]; unfold lead; rw [if_pos hlt]
    have e : cAt [a, b] t = lerpS a b t := by unfold cAt; rw [if_neg (by rw [hv]; decide), hl]; rfl
    refine ⟨_, _, _, _, e, ?_, ?_, ?_, ?_⟩
    · exact lc8_between _ _ _ _ ha.1 hb.1 (by omega) (by omega) (by omega) (by omega)
    · exact lc8_between _ _ _ _ ha.2.1 hb.2.1 (by omega) (by omega) (by omega) (by omega)
    · exact lc8_between _ _ _ _ ha.2.2.1 hb.2.2.1 (by omega) (by omega) (by omega) (by omega)
    · exact lc8_between _ _ _ _ ha.2.2.2 hb.2.2.2 (by omega) (by omega) (by omega) (by omega)
  · have hl : lead t [a, b] = 2 := by unfold lead; rw [if_neg (by omega)]; unfold lead; rw [if_neg hlt]; rfl
    have e : cAt [a, b] t = b.2 := by unfold cAt; rw [if_neg (by rw [hv]; decide), hl]; rfl
    exact ⟨b.2.1, b.2.2.1, b.2.2.2.1, b.2.2.2.2, e, by omega, by omega, by omega, by omega⟩
set_option maxRecDepth 100000 in
theorem between_any (n a b : Int) (w : World) (h : min a b ≤ n ∧ n ≤ max a b) :
    Calls Try.prog 18 #[.int .u8 n, .int .u8 a, .int .u8 b] w fun e w' => e = .returned (.bool true) ∧ w = w' := by
  obtain ⟨h0, h1⟩ := h
  generalize hx : min a b = x at *
  generalize hy : max a b = y at *
  have hx := Lib.hid hx
  have hy := Lib.hid hy
  have m1 := fun (w : World) (ts : Array TypeId) (t : TypeId) => Lib.run_min_ints (P := Try.prog) w ts t .u8 .u8 a b
  have m2 := fun (w : World) (ts : Array TypeId) (t : TypeId) => Lib.run_max_ints (P := Try.prog) w ts t .u8 .u8 a b
  rw [hx.out] at m1
  rw [hy.out] at m2
  go_enter Try.func18, Try.ntmps18
  go_wp2
  go_ret
  exact ⟨rfl, rfl⟩
end Go.Proofs.Ytboomdbmeallfaa
