/- Contracts of reference 02: FromInt. -/
import Derived.Test.YtjfimlcljbdglaaN13
namespace Go.Proofs.Ytjfimlcljbdglaa
open Go.RowKit
set_option linter.unusedVariables false
set_option linter.unusedSimpArgs false

theorem two_digits (m : Nat) (h : m < 18446744073709551616) : isD [m % 4294967296, m / 4294967296] ∧ nv [m % 4294967296, m / 4294967296] = m :=
  ⟨isD_cons (by omega) (isD.one (by omega)), by simp [nv]; omega⟩
theorem lit2 (W : World) (T : TypeId) (x y g : Nat) (a b : Int) (ha : a = x) (hb : b = y) (hx : x < 4294967296) (hy : y < 4294967296) (hg : g = W.heap.size) :
    Dg (W.alloc (.cells #[.int .u32 a, .int .u32 b] T)) (some ⟨g, 0, none⟩) 2 2 [x, y] := by
  subst ha hb hg
  exact Dg.of_own' (D := [x, y]) (World.ownsRow_lit (base := 0) W #[.int .u32 (x : Int), .int .u32 (y : Int)] 2 (Nat.zero_le _) (by unfold maxLen; omega) (by simp)) (isD_cons hx (isD.one hy))
set_option maxRecDepth 100000 in
set_option maxHeartbeats 1000000 in
theorem fromint_any (n : Int) (w : World) (h0 : -9223372036854775808 ≤ n) (h1 : n ≤ 9223372036854775807) :
    Calls Try.prog 76 #[.int .i64 n] w (RetBI w (decide (n < 0)) n.natAbs) := by
  have HS := Lib.hid (show ∀ w', Keeps (w.alloc (.cells #[.bool false, .slice none 0 0] 86)) w' → w'.cell? ⟨w.heap.size, 0, none⟩ = some (.bool false) ∧ w'.frozen? ⟨w.heap.size, 0, none⟩ = false ∧ w'.cell? ⟨w.heap.size, 1, none⟩ = some (.slice none 0 0) ∧ w'.frozen? ⟨w.heap.size, 1, none⟩ = false from fun w' hk => ⟨(hk.cell (p := ⟨w.heap.size, 0, none⟩) (by first | (simp; done) | (simp; omega))).trans (by simp [go_sem]), (hk.frozen (p := ⟨w.heap.size, 0, none⟩) (by first | (simp; done) | (simp; omega))).trans (by simp [go_sem]), (hk.cell (p := ⟨w.heap.size, 1, none⟩) (by first | (simp; done) | (simp; omega))).trans (by simp [go_sem]), (hk.frozen (p := ⟨w.heap.size, 1, none⟩) (by first | (simp; done) | (simp; omega))).trans (by simp [go_sem])⟩)
  have HB := Lib.hid (show Keeps w (w.alloc (.cells #[.bool false, .slice none 0 0] 86)) from (by (repeat (first | (with_reducible exact Keeps.refl _) | (with_reducible assumption) | (with_reducible refine Keeps.drewN ?_ _) | (with_reducible refine Keeps.drew ?_) | (with_reducible refine Keeps.alloc ?_ _) | (with_reducible refine Keeps.setNew ?_ ?_ _))) <;> (dsimp only; omega)))
  have hk0 := Keeps.refl (w.alloc (.cells #[.bool false, .slice none 0 0] 86))
  obtain ⟨m, hm⟩ : ∃ m, n.natAbs = m := ⟨_, rfl⟩
  have hm2 : m ≤ 9223372036854775808 := by omega
  have T := Lib.hid (two_digits m (by omega))
  rw [hm]
  have T0 := T.out.1
  by_cases hn : n < 0
  · obtain rfl : n = -(m : Int) := by omega
    have f1 : IntKind.u64.wrap (-(m : Int)) = 18446744073709551616 - m := by rw [IntKind.wrap_u64]; omega
    have f2 : IntKind.u64.wrap (-(18446744073709551616 - (m : Int))) = m := by rw [IntKind.wrap_u64]; omega
    rw [decide_eq_true hn]
    have f3 : ¬ m = 0 := by omega
    have hp := Lib.hid (show (true && decide (nv [m % 4294967296, m / 4294967296] ≠ 0)) = true by rw [T.out.2]; simpa using f3)
    have GN := Lib.hid (fun W T g a b (ha : a = ((m % 4294967296 : Nat) : Int)) (hb : b = ((m / 4294967296 : Nat) : Int)) (hg : g = W.heap.size) => new_any true _ _ 2 2 _ (lit2 W T (m % 4294967296) (m / 4294967296) g a b ha hb (by omega) (by omega) hg) (by omega))
    rw [hp.out, T.out.2] at GN
    clear hm
    go_enter Try.func76, Try.ntmps76
    go_wp2_with (go_at_call 82; refine (GN.out _ _ _ _ _ (by omega) (by omega) (by simp)).mono ?_; intro e w2 hret; obtain ⟨A2, c2, rfl, hD2, hk, hF2⟩ := hret; have hk1 := Keeps.trans (Keeps.alloc (Keeps.refl _) _) hk; obtain ⟨y0, y1, y2, y3⟩ := HS.out _ hk1)
    exact bodyPost_ret (v := .agg #[.bool true, .slice A2 (dig m).length c2]) (by simp [results, Try.results76, go_sem, *]) rfl ⟨A2, c2, rfl, (hD2.far (hF2.ne (by simp; omega)) _).far (hF2.ne (by simp; omega)) _, (HB.out.trans hk1).far2 (Nat.le_refl _) _ _, (hF2.back (Keeps.alloc (Keeps.refl _) _)).back HB.out⟩
  · obtain rfl : n = (m : Int) := by omega
    rw [decide_eq_false hn]
    have f1 : IntKind.u64.wrap (m : Int) = m := by rw [IntKind.wrap_u64]; omega
    have hp := Lib.hid (show (false && decide (nv [m % 4294967296, m / 4294967296] ≠ 0)) = false from rfl)
    have GN := Lib.hid (fun W T g a b (ha : a = ((m % 4294967296 : Nat) : Int)) (hb : b = ((m / 4294967296 : Nat) : Int)) (hg : g = W.heap.size) => new_any false _ _ 2 2 _ (lit2 W T (m % 4294967296) (m / 4294967296) g a b ha hb (by omega) (by omega) hg) (by omega))
    rw [hp.out, T.out.2] at GN
    clear hm
    go_enter Try.func76, Try.ntmps76
    go_wp2_with (go_at_call 82; refine (GN.out _ _ _ _ _ (by omega) (by omega) (by simp)).mono ?_; intro e w2 hret; obtain ⟨A2, c2, rfl, hD2, hk, hF2⟩ := hret; have hk1 := Keeps.trans (Keeps.alloc (Keeps.refl _) _) hk; obtain ⟨y0, y1, y2, y3⟩ := HS.out _ hk1)
    exact bodyPost_ret (v := .agg #[.bool false, .slice A2 (dig m).length c2]) (by simp [results, Try.results76, go_sem, *]) rfl ⟨A2, c2, rfl, (hD2.far (hF2.ne (by simp; omega)) _).far (hF2.ne (by simp; omega)) _, (HB.out.trans hk1).far2 (Nat.le_refl _) _ _, (hF2.back (Keeps.alloc (Keeps.refl _) _)).back HB.out⟩
end Go.Proofs.Ytjfimlcljbdglaa
