/- Contract of reference 27's Parse. -/
import Derived.Test.YtjfimlcljbdglaaCh
namespace Go.Proofs.Ytjfimlcljbdglaa
open Go.RowKit
set_option linter.unusedVariables false
set_option linter.unusedSimpArgs false
set_option maxRecDepth 100000 in
set_option maxHeartbeats 1000000 in
theorem parse27_any (s : ByteArray) (p q r t e : Nat) (w : World) (h : ParseIs (bytesOf s) p q r t e) :
    Calls Try.prog 14 #[.string s] w fun x w' => x = .returned (.tuple #[.agg #[.int .u8 (p : Int), .int .u8 (q : Int), .int .u8 (r : Int), .int .u8 (t : Int)], .int .i64 (e : Int)]) ∧ Keeps w w' := by
  have hlen := Lib.hid (bytesOf_length s)
  have hP := Lib.hid h
  clear h
  have HS := Lib.hid (show ∀ w', Keeps (w.alloc (.cells #[.int .u8 0, .int .u8 0, .int .u8 0, .int .u8 0] 23)) w' → w'.cell? ⟨w.heap.size, 0, none⟩ = some (.int .u8 0) ∧ w'.frozen? ⟨w.heap.size, 0, none⟩ = false ∧ w'.cell? ⟨w.heap.size, 1, none⟩ = some (.int .u8 0) ∧ w'.frozen? ⟨w.heap.size, 1, none⟩ = false ∧ w'.cell? ⟨w.heap.size, 2, none⟩ = some (.int .u8 0) ∧ w'.frozen? ⟨w.heap.size, 2, none⟩ = false ∧ w'.cell? ⟨w.heap.size, 3, none⟩ = some (.int .u8 0) ∧ w'.frozen? ⟨w.heap.size, 3, none⟩ = false from fun w' hk => ⟨(hk.cell (p := ⟨w.heap.size, 0, none⟩) (by first | (simp; done) | (simp; omega))).trans (by simp [go_sem]), (hk.frozen (p := ⟨w.heap.size, 0, none⟩) (by first | (simp; done) | (simp; omega))).trans (by simp [go_sem]), (hk.cell (p := ⟨w.heap.size, 1, none⟩) (by first | (simp; done) | (simp; omega))).trans (by simp [go_sem]), (hk.frozen (p := ⟨w.heap.size, 1, none⟩) (by first | (simp; done) | (simp; omega))).trans (by simp [go_sem]), (hk.cell (p := ⟨w.heap.size, 2, none⟩) (by first | (simp; done) | (simp; omega))).trans (by simp [go_sem]), (hk.frozen (p := ⟨w.heap.size, 2, none⟩) (by first | (simp; done) | (simp; omega))).trans (by simp [go_sem]), (hk.cell (p := ⟨w.heap.size, 3, none⟩) (by first | (simp; done) | (simp; omega))).trans (by simp [go_sem]), (hk.frozen (p := ⟨w.heap.size, 3, none⟩) (by first | (simp; done) | (simp; omega))).trans (by simp [go_sem])⟩)
  have HB := Lib.hid (show Keeps w (w.alloc (.cells #[.int .u8 0, .int .u8 0, .int .u8 0, .int .u8 0] 23)) from (by (repeat (first | (with_reducible exact Keeps.refl _) | (with_reducible assumption) | (with_reducible refine Keeps.drewN ?_ _) | (with_reducible refine Keeps.drew ?_) | (with_reducible refine Keeps.alloc ?_ _) | (with_reducible refine Keeps.setNew ?_ ?_ _))) <;> (dsimp only; omega)))
  have hk0 := Keeps.refl (w.alloc (.cells #[.int .u8 0, .int .u8 0, .int .u8 0, .int .u8 0] 23))
  by_cases hn : s.size = 9
  · have hn2 : ((s.size : Nat) : Int) = 9 := by omega
    have e0 := fun w => index_byte (P := Try.prog) w 9 s 0 Try.underlying9 (by omega)
    rw [show ((0 : Nat) : Int) = 0 from rfl] at e0
    by_cases h0 : (bytesOf s).getD 0 0 = 35
    · obtain ⟨m, hm⟩ : ∃ m, bytesOf s = 35 :: m := by
        cases hb : bytesOf s with
        | nil => rw [hb] at h0; simp at h0
        | cons a m => rw [hb] at h0; simp at h0; exact ⟨m, by rw [h0]⟩
      have hx := bytesOf_tail s _ _ hm
      have hml : m.length = 8 := by have := hlen.out; rw [hm] at this; simp at this; omega
      have hxs : (s.extract 1 s.size).size = 8 := by rw [← bytesOf_length, hx, hml]
      have GD := Lib.hid (fun w => decode4_any (s.extract 1 s.size) w (by omega) (by omega))
      have hx := Lib.hid hx
      have hxs := Lib.hid hxs
      rw [hx.out, hn] at GD
      rw [h0] at e0
      cases hu : unhex m with
      | none =>
        obtain ⟨rfl, rfl, rfl, rfl, rfl⟩ := hP.out.err (Or.inr (Or.inr ⟨m, hm, hu⟩))
        have hu := Lib.hid hu
        have hm := Lib.hid hm
        clear hml h0
        go_enter Try.func14, Try.ntmps14
        go_wp2_with (go_at_call 41; (with_reducible refine (GD.out _).mono ?_); intro e w1 hret; obtain ⟨rfl, hk⟩ := RetBy.none hu.out hret; obtain ⟨y0, y1, y2, y3, y4, y5, y6, y7⟩ := HS.out _ hk)
        exact bodyPost_ret (v := .tuple #[.agg #[.int .u8 0, .int .u8 0, .int .u8 0, .int .u8 0], .int .i64 3]) (by simp [results, Try.results14, go_sem, *]) rfl ⟨rfl, Keeps.far4 (HB.out.trans hk) (by omega) _ _ _ _⟩
      | some D =>
        have hl4 : D.length = 4 := by have := unhex_length hu; omega
        obtain ⟨rfl, rfl, h1, h2, h3, h4⟩ := hP.out.ok hm hu hl4
        have hu := Lib.hid hu
        have hm := Lib.hid hm
        clear hml h0 hl4
        go_enter Try.func14, Try.ntmps14
        go_wp2_with (go_at_call 41; (with_reducible refine (GD.out _).mono ?_); intro e w1 hret; obtain ⟨A, c, rfl, hD, hk⟩ := RetBy.some hu.out hret; obtain ⟨y0, y1, y2, y3, y4, y5, y6, y7⟩ := HS.out _ hk; obtain ⟨b, o, rfl, hb, c0⟩ := hD.at_ (k := 0) (by simp); obtain ⟨b', o', e', hb', c1⟩ := hD.at_ (k := 1) (by simp); injection e' with e'; injection e' with e1 e2; subst e1 e2; obtain ⟨b', o', e', hb', c2⟩ := hD.at_ (k := 2) (by simp); injection e' with e'; injection e' with e1 e2; subst e1 e2; obtain ⟨b', o', e', hb', c3⟩ := hD.at_ (k := 3) (by simp); injection e' with e'; injection e' with e1 e2; subst e1 e2; simp only [List.getD_cons_zero, List.getD_cons_succ, Nat.add_zero] at c0 c1 c2 c3)
        go_region
        go_wp2
        exact bodyPost_ret (v := .tuple #[.agg #[.int .u8 (p : Int), .int .u8 (q : Int), .int .u8 (r : Int), .int .u8 (t : Int)], .int .i64 0]) (by simp [results, Try.results14, go_sem, *]) rfl ⟨rfl, (Keeps.far4 (HB.out.trans hk) (by omega) _ _ _ _).drew⟩
    · obtain ⟨rfl, rfl, rfl, rfl, rfl⟩ := hP.out.err (Or.inr (Or.inl h0))
      generalize (bytesOf s).getD 0 0 = x at *
      have t1 : ((x : Int) == 35) = false := beq_eq_false_iff_ne.2 (by omega)
      go_enter Try.func14, Try.ntmps14
      go_wp2
      exact bodyPost_ret (v := .tuple #[.agg #[.int .u8 0, .int .u8 0, .int .u8 0, .int .u8 0], .int .i64 3]) (by simp [results, Try.results14, go_sem, *]) rfl ⟨rfl, HB.out⟩
  · have t0 : ((s.size : Int) == 9) = false := beq_eq_false_iff_ne.2 (by omega)
    obtain ⟨rfl, rfl, rfl, rfl, rfl⟩ := hP.out.err (Or.inl (by rw [hlen.out]; exact hn))
    go_enter Try.func14, Try.ntmps14
    go_wp2
    exact bodyPost_ret (v := .tuple #[.agg #[.int .u8 0, .int .u8 0, .int .u8 0, .int .u8 0], .int .i64 3]) (by simp [results, Try.results14, go_sem, *]) rfl ⟨rfl, HB.out⟩
end Go.Proofs.Ytjfimlcljbdglaa
