/- Contract of the closure put of stroke.rings. -/
import Derived.Test.YtdodgnpjlicnoaaGreatKf
import Derived.Test.YtdodgnpjlicnoaaGreatKu
import Derived.Test.YtdodgnpjlicnoaaGreatWe
import Derived.Test.YtdodgnpjlicnoaaGreatQq
import Derived.Test.YtdodgnpjlicnoaaGreatQo
namespace Go.Proofs.YtdodgnpjlicnoaaGreat
section
section
open Go.RowKit
attribute [local go_sem ↓] Go.wp_at_zero Go.wp_at_succ
set_option linter.unusedVariables false
set_option linter.unusedSimpArgs false
theorem OwnP.later {w0 w : World} {L : List Pt} {e : Ending} {w' : World} (h : OwnP w L e w') (hk : Keeps w0 w) : OwnP w0 L e w' := by
  obtain ⟨v, he, ho, h2⟩ := h
  exact ⟨v, he, own_base ho hk.size, hk.trans h2⟩
theorem OwnP.nil {w0 w : World} (hk : Keeps w0 w) : OwnP w0 [] (.returned (.slice none 0 0)) w := ⟨_, rfl, World.ownsRow_nil _ _ _ _, hk⟩
set_option maxHeartbeats 1000000 in
theorem sdot_any (p : Pt) (wd jn cp ml ph : Int) (A : Option Addr) (n c : Nat) (w : World) :
    Calls Tryz.prog 30 #[.agg #[.int .i64 p.1, .int .i64 p.2], .agg #[.int .i64 wd, .int .i64 jn, .int .i64 cp, .int .i64 ml, .slice A n c, .int .i64 ph]] w (OwnP w (dotR p wd cp)) := by
  have HS := Lib.hid (show ∀ w', Keeps ((w.alloc (.cells #[.int .i64 p.1, .int .i64 p.2] 37)).alloc (.cells #[.int .i64 wd, .int .i64 jn, .int .i64 cp, .int .i64 ml, .slice A n c, .int .i64 ph] 27)) w' → w'.cell? ⟨w.heap.size, 0, none⟩ = some (.int .i64 p.1) ∧ w'.frozen? ⟨w.heap.size, 0, none⟩ = false ∧ w'.cell? ⟨w.heap.size, 1, none⟩ = some (.int .i64 p.2) ∧ w'.frozen? ⟨w.heap.size, 1, none⟩ = false ∧ w'.cell? ⟨w.heap.size + 1, 0, none⟩ = some (.int .i64 wd) ∧ w'.frozen? ⟨w.heap.size + 1, 0, none⟩ = false ∧ w'.cell? ⟨w.heap.size + 1, 1, none⟩ = some (.int .i64 jn) ∧ w'.frozen? ⟨w.heap.size + 1, 1, none⟩ = false ∧ w'.cell? ⟨w.heap.size + 1, 2, none⟩ = some (.int .i64 cp) ∧ w'.frozen? ⟨w.heap.size + 1, 2, none⟩ = false ∧ w'.cell? ⟨w.heap.size + 1, 3, none⟩ = some (.int .i64 ml) ∧ w'.frozen? ⟨w.heap.size + 1, 3, none⟩ = false ∧ w'.cell? ⟨w.heap.size + 1, 4, none⟩ = some (.slice A n c) ∧ w'.frozen? ⟨w.heap.size + 1, 4, none⟩ = false ∧ w'.cell? ⟨w.heap.size + 1, 5, none⟩ = some (.int .i64 ph) ∧ w'.frozen? ⟨w.heap.size + 1, 5, none⟩ = false from fun w' hk => ⟨(hk.cell (p := ⟨w.heap.size, 0, none⟩) (by first | (simp; done) | (simp; omega))).trans (by simp [go_sem]), (hk.frozen (p := ⟨w.heap.size, 0, none⟩) (by first | (simp; done) | (simp; omega))).trans (by simp [go_sem]), (hk.cell (p := ⟨w.heap.size, 1, none⟩) (by first | (simp; done) | (simp; omega))).trans (by simp [go_sem]), (hk.frozen (p := ⟨w.heap.size, 1, none⟩) (by first | (simp; done) | (simp; omega))).trans (by simp [go_sem]), (hk.cell (p := ⟨w.heap.size + 1, 0, none⟩) (by first | (simp; done) | (simp; omega))).trans (by simp [go_sem]), (hk.frozen (p := ⟨w.heap.size + 1, 0, none⟩) (by first | (simp; done) | (simp; omega))).trans (by simp [go_sem]), (hk.cell (p := ⟨w.heap.size + 1, 1, none⟩) (by first | (simp; done) | (simp; omega))).trans (by simp [go_sem]), (hk.frozen (p := ⟨w.heap.size + 1, 1, none⟩) (by first | (simp; done) | (simp; omega))).trans (by simp [go_sem]), (hk.cell (p := ⟨w.heap.size + 1, 2, none⟩) (by first | (simp; done) | (simp; omega))).trans (by simp [go_sem]), (hk.frozen (p := ⟨w.heap.size + 1, 2, none⟩) (by first | (simp; done) | (simp; omega))).trans (by simp [go_sem]), (hk.cell (p := ⟨w.heap.size + 1, 3, none⟩) (by first | (simp; done) | (simp; omega))).trans (by simp [go_sem]), (hk.frozen (p := ⟨w.heap.size + 1, 3, none⟩) (by first | (simp; done) | (simp; omega))).trans (by simp [go_sem]), (hk.cell (p := ⟨w.heap.size + 1, 4, none⟩) (by first | (simp; done) | (simp; omega))).trans (by simp [go_sem]), (hk.frozen (p := ⟨w.heap.size + 1, 4, none⟩) (by first | (simp; done) | (simp; omega))).trans (by simp [go_sem]), (hk.cell (p := ⟨w.heap.size + 1, 5, none⟩) (by first | (simp; done) | (simp; omega))).trans (by simp [go_sem]), (hk.frozen (p := ⟨w.heap.size + 1, 5, none⟩) (by first | (simp; done) | (simp; omega))).trans (by simp [go_sem])⟩)
  have HB := Lib.hid (show Keeps w ((w.alloc (.cells #[.int .i64 p.1, .int .i64 p.2] 37)).alloc (.cells #[.int .i64 wd, .int .i64 jn, .int .i64 cp, .int .i64 ml, .slice A n c, .int .i64 ph] 27)) from (by (repeat (first | (with_reducible exact Keeps.refl _) | (with_reducible assumption) | (with_reducible refine Keeps.drewN ?_ _) | (with_reducible refine Keeps.drew ?_) | (with_reducible refine Keeps.alloc ?_ _) | (with_reducible refine Keeps.setNew ?_ ?_ _))) <;> (dsimp only; omega)))
  have hk0 := Keeps.refl ((w.alloc (.cells #[.int .i64 p.1, .int .i64 p.2] 37)).alloc (.cells #[.int .i64 wd, .int .i64 jn, .int .i64 cp, .int .i64 ml, .slice A n c, .int .i64 ph] 27))
  have K1 := Lib.hid (fun w => dot_any p wd w)
  have K2 := Lib.hid (fun w => disc_any p wd w)
  unfold dotR
  by_cases h5 : cp = 5
  · rw [if_pos h5]
    have q5 : (cp == 5) = true := by rw [h5]; rfl
    clear h5
    go_enter Tryz.func30, Tryz.ntmps30
    go_wp2_with (go_at_call 48; (with_reducible refine (K1.out _).mono ?_); rintro e w1 hr; obtain ⟨v, rfl, ho, hk⟩ := OwnP.later hr HB.out)
    go_ret
    exact ⟨v, rfl, ho, hk⟩
  · rw [if_neg h5]
    have q5 : (cp == 5) = false := by rw [beq_eq_false_iff_ne]; exact h5
    by_cases h3 : cp = 3
    · rw [if_pos h3]
      have q3 : (cp == 3) = true := by rw [h3]; rfl
      clear h5 h3
      go_enter Tryz.func30, Tryz.ntmps30
      go_wp2_with (go_at_call 49; (with_reducible refine (K2.out _).mono ?_); rintro e w1 hr; obtain ⟨v, rfl, ho, hk⟩ := OwnP.later hr HB.out)
      go_ret
      exact ⟨v, rfl, ho, hk⟩
    · rw [if_neg h3]
      have q3 : (cp == 3) = false := by rw [beq_eq_false_iff_ne]; exact h3
      clear h5 h3
      go_enter Tryz.func30, Tryz.ntmps30
      go_wp2_with fail
      go_ret
      exact OwnP.nil HB.out
set_option maxHeartbeats 1000000 in
theorem end_any (a b : Pt) (wd jn cp ml ph : Int) (A : Option Addr) (n c : Nat) (w : World) :
    Calls Tryz.prog 34 #[.agg #[.int .i64 wd, .int .i64 jn, .int .i64 cp, .int .i64 ml, .slice A n c, .int .i64 ph], .agg #[.int .i64 a.1, .int .i64 a.2], .agg #[.int .i64 b.1, .int .i64 b.2]] w (OwnP w (endL a b wd cp)) := by
  have HS := Lib.hid (show ∀ w', Keeps (((w.alloc (.cells #[.int .i64 wd, .int .i64 jn, .int .i64 cp, .int .i64 ml, .slice A n c, .int .i64 ph] 62)).alloc (.cells #[.int .i64 a.1, .int .i64 a.2] 37)).alloc (.cells #[.int .i64 b.1, .int .i64 b.2] 37)) w' → w'.cell? ⟨w.heap.size, 0, none⟩ = some (.int .i64 wd) ∧ w'.frozen? ⟨w.heap.size, 0, none⟩ = false ∧ w'.cell? ⟨w.heap.size, 1, none⟩ = some (.int .i64 jn) ∧ w'.frozen? ⟨w.heap.size, 1, none⟩ = false ∧ w'.cell? ⟨w.heap.size, 2, none⟩ = some (.int .i64 cp) ∧ w'.frozen? ⟨w.heap.size, 2, none⟩ = false ∧ w'.cell? ⟨w.heap.size, 3, none⟩ = some (.int .i64 ml) ∧ w'.frozen? ⟨w.heap.size, 3, none⟩ = false ∧ w'.cell? ⟨w.heap.size, 4, none⟩ = some (.slice A n c) ∧ w'.frozen? ⟨w.heap.size, 4, none⟩ = false ∧ w'.cell? ⟨w.heap.size, 5, none⟩ = some (.int .i64 ph) ∧ w'.frozen? ⟨w.heap.size, 5, none⟩ = false ∧ w'.cell? ⟨w.heap.size + 1, 0, none⟩ = some (.int .i64 a.1) ∧ w'.frozen? ⟨w.heap.size + 1, 0, none⟩ = false ∧ w'.cell? ⟨w.heap.size + 1, 1, none⟩ = some (.int .i64 a.2) ∧ w'.frozen? ⟨w.heap.size + 1, 1, none⟩ = false ∧ w'.cell? ⟨w.heap.size + 1 + 1, 0, none⟩ = some (.int .i64 b.1) ∧ w'.frozen? ⟨w.heap.size + 1 + 1, 0, none⟩ = false ∧ w'.cell? ⟨w.heap.size + 1 + 1, 1, none⟩ = some (.int .i64 b.2) ∧ w'.frozen? ⟨w.heap.size + 1 + 1, 1, none⟩ = false from fun w' hk => ⟨(hk.cell (p := ⟨w.heap.size, 0, none⟩) (by first | (simp; done) | (simp; omega))).trans (by simp [go_sem]), (hk.frozen (p := ⟨w.heap.size, 0, none⟩) (by first | (simp; done) | (simp; omega))).trans (by simp [go_sem]), (hk.cell (p := ⟨w.heap.size, 1, none⟩) (by first | (simp; done) | (simp; omega))).trans (by simp [go_sem]), (hk.frozen (p := ⟨w.heap.size, 1, none⟩) (by first | (simp; done) | (simp; omega))).trans (by simp [go_sem]), (hk.cell (p := ⟨w.heap.size, 2, none⟩) (by first | (simp; done) | (simp; omega))).trans (by simp [go_sem]), (hk.frozen (p := ⟨w.heap.size, 2, none⟩) (by first | (simp; done) | (simp; omega))).trans (by simp [go_sem]), (hk.cell (p := ⟨w.heap.size, 3, none⟩) (by first | (simp; done) | (simp; omega))).trans (by simp [go_sem]), (hk.frozen (p := ⟨w.heap.size, 3, none⟩) (by first | (simp; done) | (simp; omega))).trans (by simp [go_sem]), (hk.cell (p := ⟨w.heap.size, 4, none⟩) (by first | (simp; done) | (simp; omega))).trans (by simp [go_sem]), (hk.frozen (p := ⟨w.heap.size, 4, none⟩) (by first | (simp; done) | (simp; omega))).trans (by simp [go_sem]), (hk.cell (p := ⟨w.heap.size, 5, none⟩) (by first | (simp; done) | (simp; omega))).trans (by simp [go_sem]), (hk.frozen (p := ⟨w.heap.size, 5, none⟩) (by first | (simp; done) | (simp; omega))).trans (by simp [go_sem]), (hk.cell (p := ⟨w.heap.size + 1, 0, none⟩) (by first | (simp; done) | (simp; omega))).trans (by simp [go_sem]), (hk.frozen (p := ⟨w.heap.size + 1, 0, none⟩) (by first | (simp; done) | (simp; omega))).trans (by simp [go_sem]), (hk.cell (p := ⟨w.heap.size + 1, 1, none⟩) (by first | (simp; done) | (simp; omega))).trans (by simp [go_sem]), (hk.frozen (p := ⟨w.heap.size + 1, 1, none⟩) (by first | (simp; done) | (simp; omega))).trans (by simp [go_sem]), (hk.cell (p := ⟨w.heap.size + 1 + 1, 0, none⟩) (by first | (simp; done) | (simp; omega))).trans (by simp [go_sem]), (hk.frozen (p := ⟨w.heap.size + 1 + 1, 0, none⟩) (by first | (simp; done) | (simp; omega))).trans (by simp [go_sem]), (hk.cell (p := ⟨w.heap.size + 1 + 1, 1, none⟩) (by first | (simp; done) | (simp; omega))).trans (by simp [go_sem]), (hk.frozen (p := ⟨w.heap.size + 1 + 1, 1, none⟩) (by first | (simp; done) | (simp; omega))).trans (by simp [go_sem])⟩)
  have HB := Lib.hid (show Keeps w (((w.alloc (.cells #[.int .i64 wd, .int .i64 jn, .int .i64 cp, .int .i64 ml, .slice A n c, .int .i64 ph] 62)).alloc (.cells #[.int .i64 a.1, .int .i64 a.2] 37)).alloc (.cells #[.int .i64 b.1, .int .i64 b.2] 37)) from (by (repeat (first | (with_reducible exact Keeps.refl _) | (with_reducible assumption) | (with_reducible refine Keeps.drewN ?_ _) | (with_reducible refine Keeps.drew ?_) | (with_reducible refine Keeps.alloc ?_ _) | (with_reducible refine Keeps.setNew ?_ ?_ _))) <;> (dsimp only; omega)))
  have hk0 := Keeps.refl (((w.alloc (.cells #[.int .i64 wd, .int .i64 jn, .int .i64 cp, .int .i64 ml, .slice A n c, .int .i64 ph] 62)).alloc (.cells #[.int .i64 a.1, .int .i64 a.2] 37)).alloc (.cells #[.int .i64 b.1, .int .i64 b.2] 37))
  have K1 := Lib.hid (fun w => cap_any a b wd w)
  have K2 := Lib.hid (fun w => disc_any b wd w)
  unfold endL
  by_cases h5 : cp = 5
  · rw [if_pos h5]
    have q5 : (cp == 5) = true := by rw [h5]; rfl
    clear h5
    go_enter Tryz.func34, Tryz.ntmps34
    go_wp2_with (go_at_call 58; (with_reducible refine (K1.out _).mono ?_); rintro e w1 hr; obtain ⟨v, rfl, ho, hk⟩ := OwnP.later hr HB.out)
    go_ret
    exact ⟨v, rfl, ho, hk⟩
  · rw [if_neg h5]
    have q5 : (cp == 5) = false := by rw [beq_eq_false_iff_ne]; exact h5
    by_cases h3 : cp = 3
    · rw [if_pos h3]
      have q3 : (cp == 3) = true := by rw [h3]; rfl
      clear h5 h3
      go_enter Tryz.func34, Tryz.ntmps34
      go_wp2_with (go_at_call 49; (with_reducible refine (K2.out _).mono ?_); rintro e w1 hr; obtain ⟨v, rfl, ho, hk⟩ := OwnP.later hr HB.out)
      go_ret
      exact ⟨v, rfl, ho, hk⟩
    · rw [if_neg h3]
      have q3 : (cp == 3) = false := by rw [beq_eq_false_iff_ne]; exact h3
      clear h5 h3
      go_enter Tryz.func34, Tryz.ntmps34
      go_wp2_with fail
      go_ret
      exact OwnP.nil HB.out
set_option maxHeartbeats 1000000 in
theorem next_any (bl bn : Nat) (A : Option Addr) (n c k : Nat) (L : List Pt) (x : Int) (w : World) (hl : w.cell? ⟨bl, 0, none⟩ = some (.slice A n c)) (hn : w.cell? ⟨bn, 0, none⟩ = some (.int .i64 n)) (hP : Pts w A n c L) (hx : x + n = k) (hb : k ≤ 1000000) (h0 : 0 < n) (hnb : n ≤ 1000000) :
    Calls Tryz.prog 31 #[.int .i64 x, .pointer (some ⟨bl, 0, none⟩), .pointer (some ⟨bn, 0, none⟩)] w fun e w' => e = .returned (.agg #[.int .i64 (L.getD (k % n) pt0).1, .int .i64 (L.getD (k % n) pt0).2]) ∧ Keeps w w' := by
  obtain ⟨b, o, rfl, hbw, hC⟩ := hP.2.2.2.2 h0
  obtain ⟨m, hm⟩ : ∃ m, m = k % n := ⟨_, rfl⟩
  have hmn : m < n := by rw [hm]; exact Nat.mod_lt _ h0
  rw [← hm]
  obtain ⟨e0, e1⟩ := hC m hmn
  have hlb := World.block_lt_of_cell? w _ hl
  have hnb2 := World.block_lt_of_cell? w _ hn
  dsimp only at hlb hnb2
  have hF := Lib.hid (show ∀ w', Keeps (w.alloc (.cells #[.int .i64 0, .int .i64 0] 37)) w' → w'.cell? ⟨bl, 0, none⟩ = some (.slice (some ⟨b, o, none⟩) n c) ∧ w'.cell? ⟨bn, 0, none⟩ = some (.int .i64 n) ∧ w'.cell? ⟨b, o + m * 2, none⟩ = some (.int .i64 (L.getD m pt0).1) ∧ w'.cell? ⟨b, o + m * 2 + 1, none⟩ = some (.int .i64 (L.getD m pt0).2) from fun w' hk => by
    have hk0 := ((Keeps.refl w).alloc (.cells #[.int .i64 0, .int .i64 0] 37)).trans hk
    exact ⟨(hk0.cell hlb).trans hl, (hk0.cell hnb2).trans hn, (hk0.cell hbw).trans e0, (hk0.cell hbw).trans e1⟩)
  have z0 : ∀ k : KW (w.alloc (.cells #[.int .i64 0, .int .i64 0] 37)), k.w.cell? ⟨bl, 0, none⟩ = some (.slice (some ⟨b, o, none⟩) n c) := fun k => (hF.out _ k.keeps).1
  have z1 : ∀ k : KW (w.alloc (.cells #[.int .i64 0, .int .i64 0] 37)), k.w.cell? ⟨bn, 0, none⟩ = some (.int .i64 n) := fun k => (hF.out _ k.keeps).2.1
  have z2 : ∀ k : KW (w.alloc (.cells #[.int .i64 0, .int .i64 0] 37)), k.w.cell? ⟨b, o + m * 2, none⟩ = some (.int .i64 (L.getD m pt0).1) := fun k => (hF.out _ k.keeps).2.2.1
  have z3 : ∀ k : KW (w.alloc (.cells #[.int .i64 0, .int .i64 0] 37)), k.w.cell? ⟨b, o + m * 2 + 1, none⟩ = some (.int .i64 (L.getD m pt0).2) := fun k => (hF.out _ k.keeps).2.2.2
  have r1 : IntKind.i64.wrap (k : Int) = (k : Int) := IntWalk.i64_in _ (by omega)
  have r2 : (k : Int).tmod (n : Int) = (m : Int) := by rw [Int.tmod_eq_emod_of_nonneg (by omega), hm]; rfl
  have r5 : ¬ (n : Int) = 0 := by omega
  have r6 : ¬ n = 0 := by omega
  have r3 : IntKind.i64.wrap (m : Int) = (m : Int) := IntWalk.i64_in _ (by omega)
  have r4 : ((m : Int)).toNat = m := by omega
  have hmi : (m : Int) < n := by omega
  have hm0 : (0 : Int) ≤ (m : Int) := by omega
  have hb2 : (k : Int) ≤ 1000000 := by omega
  have hn2 : (n : Int) ≤ 1000000 := by omega
  clear hm hC hP e0 e1 hl hn hlb hnb2 hbw
  generalize L.getD m pt0 = p at *
  go_enter Tryz.func31, Tryz.ntmps31
  go_wp2_with fail
  refine wp_region_kept_tail 8 ((w.alloc (.cells #[.int .i64 0, .int .i64 0] 37))) (by kernel_rfl) (by kernel_rfl) (Keeps.refl _) ?_
  simp only [List.take_succ_cons, List.take_zero, List.drop_succ_cons, List.drop_zero]
  repeat (first | go_big_quiet_skip | (go_big_quiet_want; go_big_quiet_op; first | go_big_quiet_on | go_big_quiet_call (fail)))
  refine wpQuiet_nil ?_
  rintro w' ⟨k9, rfl⟩
  have hk := k9.keeps
  generalize k9.w = w9 at hk ⊢
  clear k9
  have c0 : w9.cell? ⟨w.heap.size, 0, none⟩ = some (.int .i64 0) := (hk.cell (by simp)).trans (by simp [go_sem])
  have c1 : w9.cell? ⟨w.heap.size, 1, none⟩ = some (.int .i64 0) := (hk.cell (by simp)).trans (by simp [go_sem])
  have f0 : w9.frozen? ⟨w.heap.size, 0, none⟩ = false := (hk.frozen (by simp)).trans (by simp [go_sem])
  have f1 : w9.frozen? ⟨w.heap.size, 1, none⟩ = false := (hk.frozen (by simp)).trans (by simp [go_sem])
  have n1 := fun (w' : World) (u : Value) => setOff w' w.heap.size 0 1 u (by omega)
  have hkw := Lib.hid (((Keeps.refl w).alloc _).trans hk)
  clear z0 z1 z2 z3 hF hk
  go_wp2_with fail
  refine bodyPost_ret (v := .agg #[.int .i64 p.1, .int .i64 p.2]) (by simp [results, Tryz.results31, go_sem, *]) rfl ?_
  exact ⟨rfl, (hkw.out.setNew (Nat.le_refl _) _).setNew (Nat.le_refl _) _⟩
end
end

section
section
open Go.RowKit
attribute [local go_sem ↓] Go.wp_at_zero Go.wp_at_succ
set_option linter.unusedVariables false
set_option linter.unusedSimpArgs false
/-- what stands of the call's world while polygons are put -/
structure PutI (w : World) (B B2 bo : Nat) (v : Value) (LL : List (List Pt)) (wr : World) : Prop where
  box : Boxed wr bo 30 v
  rows : FRws wr B v LL
  own : ∀ g, v.ownBlock = some g → g < B2 ∨ w.heap.size ≤ g
  still : ∀ g, B2 ≤ g → g < w.heap.size → wr.heap[g]? = w.heap[g]?
  keep : ∀ w0, KeepX bo w0 w → w0.heap.size ≤ B → KeepX bo w0 wr
  size : w.heap.size ≤ wr.heap.size
theorem box_grown {wr w1 : World} {B bo : Nat} {t : TypeId} {v : Value} {o : Obj} {row : Option Nat} (h : Boxed wr bo t v) (hg : (wr.alloc o).grownBy w1 row) (hr : ∀ k, row = some k → B ≤ k) (hb : bo < B) : Boxed w1 bo t v :=
  (h.alloc o).kept hg (fun e => by have := hr bo e.symm; omega)
theorem PutI.snoc {w wr w1 : World} {B B2 bo g cap n c : Nat} {v : Value} {A : Option Addr} {LL : List (List Pt)} {L : List Pt} {VS : List Value} {t : TypeId} (h : PutI w B B2 bo v LL wr) (hbo : bo < B) (hB2 : B ≤ B2)
    (hown : wr.ownsRow B 22 1 v LL.length VS) (hall : ∀ k, k < LL.length → ∃ Ak nk ck, VS[k]? = some (.slice Ak nk ck) ∧ Pts wr Ak nk ck (LL.getD k []) ∧ nk ≤ 4611686018427387904 ∧ ∀ a, Ak = some a → Nw B wr a ∧ some a.block ≠ v.ownBlock)
    (hP : Pts wr A n c L) (hn : n ≤ 4611686018427387904) (hA : ∀ a, A = some a → Nw B wr a ∧ some a.block ≠ v.ownBlock)
    (h1 : w1.ownsRow B 22 1 (.slice (some ⟨g, 0, none⟩) (LL.length + 1) cap) (LL.length + 1) (VS ++ [.slice A n c])) (hg : (wr.alloc (.cells #[.slice A n c] t)).grownBy w1 v.ownBlock) (hlie : v.ownBlock = some g ∨ g = wr.heap.size + 1) :
    PutI w B B2 bo (.slice (some ⟨g, 0, none⟩) (LL.length + 1) cap) (LL ++ [L]) (w1.setCell ⟨bo, 0, none⟩ (.slice (some ⟨g, 0, none⟩) (LL.length + 1) cap)) := by
  have hr : ∀ k, v.ownBlock = some k → B ≤ k := fun k hk => (hown.lt k hk).1
  have hs1 : wr.heap.size + 1 ≤ w1.heap.size := by have := hg.size; simpa using this
  have gs := grownBy_setCell' w1 bo (.slice (some ⟨g, 0, none⟩) (LL.length + 1) cap)
  have hbox := box_grown (B := B) h.box hg hr hbo
  have hbw := h.box.lt
  refine ⟨hbox.set _, (FRws.snoc hown hall hP hn hA h1 hg hlie).set hbo _, ?_, ?_, ?_, ?_⟩
  · intro x hx
    simp [Value.ownBlock] at hx
    subst hx
    have hsz := h.size
    rcases hlie with e | e
    · exact h.own _ e
    · right; omega
  · intro x h2 h3
    have hne : some x ≠ v.ownBlock := fun e => by rcases h.own x e.symm with h4 | h4 <;> omega
    have hsz := h.size
    by_cases hxb : x = bo
    · omega
    · have e1 := gs.block x (by omega) (fun e => hxb (by simpa using e))
      have e2 := hg.block x (by simp; omega) hne
      have e3 := (World.grownBy_alloc wr (.cells #[.slice A n c] t) none).block x (by omega) (by simp)
      exact e1.trans (e2.trans (e3.trans (h.still x h2 h3)))
  · intro w0 h2 h3
    exact (KeepX.grown ((h.keep w0 h2 h3).step ((Keeps.refl wr).alloc _)) hg (fun k hk => Nat.le_trans h3 (hr k hk))).set _
  · have := gs.size; have := h.size; omega
theorem PutI.start {w : World} {B B2 bo : Nat} {v : Value} {LL : List (List Pt)} (hb : Boxed w bo 30 v) (hF : FRws w B v LL) (ho : ∀ g, v.ownBlock = some g → g < B2) : PutI w B B2 bo v LL w :=
  ⟨hb, hF, fun g h => .inl (ho g h), fun _ _ _ => rfl, fun _ h _ => h, Nat.le_refl _⟩
theorem RwsU.still {B2 : Nat} {w wr : World} {A : Option Addr} {m c : Nat} {PP : List (List Pt)} (h : RwsU B2 w A m c PP) (hs : w.heap.size ≤ wr.heap.size) (hG : ∀ g, B2 ≤ g → g < w.heap.size → wr.heap[g]? = w.heap[g]?) : RwsU B2 wr A m c PP :=
  h.step hs (fun p h1 h2 => by unfold World.cell?; rw [hG _ h1 h2]) (fun p h1 h2 => by unfold World.frozen?; rw [hG _ h1 h2])
theorem Pts.block {w : World} {A : Option Addr} {n c : Nat} {L : List Pt} (h : Pts w A n c L) (hn : 0 < n) : ∀ a, A = some a → a.block < w.heap.size := by
  obtain ⟨b, o, e, hb, _⟩ := h.2.2.2.2 hn
  intro a ha
  rw [e] at ha
  obtain rfl : (⟨b, o, none⟩ : Addr) = a := by simpa using ha
  exact hb
set_option maxRecDepth 100000 in
set_option maxHeartbeats 2000000 in
theorem put_any (B B2 bo : Nat) (v : Value) (LL PP : List (List Pt)) (A : Option Addr) (m c : Nat) (w : World) (hb : Boxed w bo 30 v) (hF : FRws w B v LL) (hbo : bo < B) (hBw : B ≤ w.heap.size) (hP : RwsU B2 w A m c PP) (hB2 : B ≤ B2) (ho : ∀ g, v.ownBlock = some g → g < B2) (hlen : LL.length + PP.length ≤ 1000000) :
    Calls Tryz.prog 29 #[.slice A m c, .pointer (some ⟨bo, 0, none⟩)] w fun e w' => e = .returned (.tuple #[]) ∧ ∃ v', PutI w B B2 bo v' (LL ++ putL PP) w' := by
  obtain ⟨j0, ji, jz0, jz1, jz2⟩ := info_parts rows_info
  have HJ0 := Lib.hid (And.intro ji (And.intro jz0 (And.intro jz1 jz2)))
  have hl := hP.1
  have hmi : (m : Int) ≤ 1000000 := by omega
  have H0 := Lib.hid (PutI.start hb hF ho)
  have HP := Lib.hid hP
  clear hb hF ho hP ji jz0 jz1 jz2
  go_enter Tryz.func29, Tryz.ntmps29
  go_wp2_with fail
  go_loopw [7] (fun i wr => ∃ (j : Nat) (v' : Value), j ≤ m ∧ i = .int .i64 j ∧ Hid (PutI w B B2 bo v' (LL ++ putL (PP.take j)) wr)) (fun i _ => m - (intOf i).toNat)
  case atStart => exact ⟨0, v, by omega, rfl, Lib.hid (by rw [List.take_zero]; show PutI w B B2 bo v (LL ++ []) w; rw [List.append_nil]; exact H0.out)⟩
  case round =>
    clear H0
    obtain ⟨j, v', hj, rfl, hI⟩ := hrel
    by_cases hlt : j < m
    · obtain ⟨b, o, rfl, hb1, hb2, hC⟩ := HP.out.2.2.2 (by omega)
      obtain ⟨Ak, nk, ck, e0, hPk, hnk, hfk⟩ := hC j hlt
      have hI0 := hI.out
      have hsz := hI0.size
      have hcell : ∀ p : Addr, B2 ≤ p.block → p.block < w.heap.size → wr.cell? p = w.cell? p := fun p h1 h2 => by unfold World.cell?; rw [hI0.still _ h1 h2]
      have c0 := (hcell ⟨b, o + j, none⟩ hb1 hb2).trans e0
      have hT := Lib.hid (show LL ++ putL (PP.take (j + 1)) = (LL ++ putL (PP.take j)) ++ wrapL (PP.getD j []) by rw [putL_take PP j (by omega), ← List.append_assoc])
      have hnl := hPk.1
      have hPr := hPk.step hsz hcell (fun a ha => (hfk a ha).1)
      have y0 := hI0.box.cell
      have y1 := hI0.box.frozen
      have hlt2 : (j : Int) < m := by omega
      have hlk := putL_len (PP.take j)
      rw [List.length_take] at hlk
      have hLn : (LL ++ putL (PP.take j)).length ≤ 1000000 := by rw [List.length_append]; omega
      have hni : (nk : Int) ≤ 4611686018427387904 := by omega
      by_cases h0 : 0 < nk
      · have h0i : (0 : Int) < nk := by omega
        have hbk := Pts.block hPk h0
        obtain ⟨VS, hv1, hv2, -⟩ := hI0.rows
        have hA := Lib.hid (show ∀ a, Ak = some a → Nw B wr a ∧ some a.block ≠ v'.ownBlock from fun a ha => ⟨⟨Nat.le_trans hB2 (hfk a ha).1, by have := (hfk a ha).2.1; omega, fun q => by
          have h3 := (hfk a ha).2.2 q
          unfold World.frozen? at h3 ⊢
          rw [hI0.still _ (hfk a ha).1 (hfk a ha).2.1]; exact h3⟩, fun e => by
          have h1 := (hfk a ha).1
          have h2 := (hfk a ha).2.1
          rcases hI0.own _ e.symm with h3 | h3 <;> omega⟩)
        have hW : wrapL (PP.getD j []) = [PP.getD j []] := by unfold wrapL; rw [if_neg (by omega)]
        rw [hW] at hT
        have hr := fun k (hk : v'.ownBlock = some k) => (hv1.lt k hk).1
        have hr := Lib.hid hr
        have hv1 := Lib.hid hv1
        have hv2 := Lib.hid hv2
        have hPr := Lib.hid hPr
        have hBs : B ≤ wr.heap.size + 1 := by omega
        have hbox := Lib.hid hI0.box
        generalize PP.getD j [] = X at *
        generalize LL ++ putL (PP.take j) = LT at *
        clear hC hPk e0 hcell hfk hbk hI0 hW hlk
        obtain ⟨ji, jz0, jz1, jz2⟩ := HJ0.out
        go_wp2_with (at_builtin; refine wpList_append_lies _ rfl _ _ 30 rfl B 22 j0 (.slice none 0 0) 1 24 Tryz.underlying30 ji jz0 jz1 jz2 rfl (by decide) _ _ VS rfl (hv1.out.alloc _) ⟨wr.heap.size, 0, none⟩ 1 1 [.slice Ak nk ck] rfl rfl (one_new _ _ _) (by intro u hu; simp at hu; subst hu; rfl) (by omega) (by unfold maxLen; omega) (by omega) (by simp; omega) (wr.heap.size + 1) (by simp) ?_; intro g cap w1 hown1 hgrow hlie hglt; have hbx := box_grown hbox.out hgrow hr.out hbo; have z0 := hbx.cell; have z1 := hbx.frozen; have hSN := Lib.hid (PutI.snoc hI.out hbo hB2 hv1.out hv2.out hPr.out hnk hA.out hown1 hgrow hlie); clear hbx hgrow hown1 hlie hglt)
        go_roundw
        case rel => exact ⟨j + 1, _, by omega, by go_num, Lib.hid (by rw [hT.out]; exact hSN.out)⟩
        case measure => simp [intOf]; omega
      · have h0i : ¬ (0 : Int) < nk := by omega
        obtain rfl : nk = 0 := by omega
        have hW : wrapL (PP.getD j []) = [] := by unfold wrapL; rw [if_pos (by omega)]
        rw [hW, List.append_nil] at hT
        clear hC hPk e0 hcell hfk hI0 hW hlk hPr
        go_wp2_with fail
        go_roundw
        case rel => exact ⟨j + 1, v', by omega, by go_num, Lib.hid (by rw [hT.out]; exact hI.out)⟩
        case measure => simp [intOf]; omega
    · obtain rfl : j = m := by omega
      rw [List.take_of_length_le (by omega)] at hI
      go_wp2_with fail
      go_end0
      exact ⟨rfl, v', hI.out⟩
end
end
end Go.Proofs.YtdodgnpjlicnoaaGreat
