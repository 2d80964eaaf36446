/- ColorMatrixIdentity of grisaillelaw27 returns true for all its arguments: every color and every byte; no condition. -/
import Derived.Test.YtjfimlcljbdglaaE27
import Derived.Test.YtjfimlcljbdglaaCz
import Derived.Test.YtjfimlcljbdglaaOp
import Derived.Test.YtjfimlcljbdglaaKk
namespace Go.Proofs.Ytjfimlcljbdglaa.colorMatrixIdentity
open Go.RowKit Go.ChangeShapes Go.WideShapes Go.ChangeAt
set_option linter.unusedVariables false
open Go.Proofs.Ytjfimlcljbdglaa
set_option linter.unusedSimpArgs false
theorem amR_one (M : Nat → Int) (i : Nat) (p q r t x : Int) (h : amN M i p q r t = 256 * x) (hx : u8b x) : amR M i p q r t = x := by
  obtain ⟨h0, h1⟩ := hx
  unfold amR
  rw [h, dvr_full 256 x (by omega) (by omega) (by omega) (by omega)]
  unfold clI; split <;> (try split) <;> omega
theorem keeps_setCells {w0 : World} (b : Nat) (hb : w0.heap.size ≤ b) : ∀ (vs : List Value) (o : Nat) (w : World), Keeps w0 w → Keeps w0 (w.setCells b o vs)
  | [], _, _, h => h
  | v :: vs, o, w, h => keeps_setCells b hb vs (o + 1) _ (h.setNew (p := ⟨b, o, none⟩) hb v)
theorem size_setCells (b : Nat) : ∀ (vs : List Value) (o : Nat) (w : World), (w.setCells b o vs).heap.size = w.heap.size
  | [], _, _ => rfl
  | v :: vs, o, w => by rw [World.setCells, size_setCells b vs (o + 1)]; simp
theorem there20 (w : World) : (w.alloc (.cells #[.int .i64 0, .int .i64 0, .int .i64 0, .int .i64 0, .int .i64 0, .int .i64 0, .int .i64 0, .int .i64 0, .int .i64 0, .int .i64 0, .int .i64 0, .int .i64 0, .int .i64 0, .int .i64 0, .int .i64 0, .int .i64 0, .int .i64 0, .int .i64 0, .int .i64 0, .int .i64 0] 42)).there w.heap.size 0 20 := by
  intro j hj
  have hq : j = 0 ∨ j = 1 ∨ j = 2 ∨ j = 3 ∨ j = 4 ∨ j = 5 ∨ j = 6 ∨ j = 7 ∨ j = 8 ∨ j = 9 ∨ j = 10 ∨ j = 11 ∨ j = 12 ∨ j = 13 ∨ j = 14 ∨ j = 15 ∨ j = 16 ∨ j = 17 ∨ j = 18 ∨ j = 19 := by omega
  rcases hq with rfl | rfl | rfl | rfl | rfl | rfl | rfl | rfl | rfl | rfl | rfl | rfl | rfl | rfl | rfl | rfl | rfl | rfl | rfl | rfl <;> simp [go_sem]
theorem new20 (w : World) (b : Nat) (X : List Value) (hz : w.heap.size = b) (hl : X.length = 20) :
    Keeps w ((w.alloc (.cells #[.int .i64 0, .int .i64 0, .int .i64 0, .int .i64 0, .int .i64 0, .int .i64 0, .int .i64 0, .int .i64 0, .int .i64 0, .int .i64 0, .int .i64 0, .int .i64 0, .int .i64 0, .int .i64 0, .int .i64 0, .int .i64 0, .int .i64 0, .int .i64 0, .int .i64 0, .int .i64 0] 42)).setCells b 0 X.toArray.toList) ∧ ((w.alloc (.cells #[.int .i64 0, .int .i64 0, .int .i64 0, .int .i64 0, .int .i64 0, .int .i64 0, .int .i64 0, .int .i64 0, .int .i64 0, .int .i64 0, .int .i64 0, .int .i64 0, .int .i64 0, .int .i64 0, .int .i64 0, .int .i64 0, .int .i64 0, .int .i64 0, .int .i64 0, .int .i64 0] 42)).setCells b 0 X.toArray.toList).rangeAt b 0 X ∧ ((w.alloc (.cells #[.int .i64 0, .int .i64 0, .int .i64 0, .int .i64 0, .int .i64 0, .int .i64 0, .int .i64 0, .int .i64 0, .int .i64 0, .int .i64 0, .int .i64 0, .int .i64 0, .int .i64 0, .int .i64 0, .int .i64 0, .int .i64 0, .int .i64 0, .int .i64 0, .int .i64 0, .int .i64 0] 42)).setCells b 0 X.toArray.toList).heap.size = b + 1 := by
  subst hz
  refine ⟨keeps_setCells _ (Nat.le_refl _) _ _ _ ((Keeps.refl _).alloc _), ?_, ?_⟩
  · exact World.rangeAt_setCells_same _ _ _ _ (by simpa [hl] using there20 w)
  · rw [size_setCells]; simp
theorem range_keep {w w' : World} {b : Nat} {X : List Value} (h : w.rangeAt b 0 X) (hk : Keeps w w') (hb : b < w.heap.size) : w'.rangeAt b 0 X := fun j v hv => (hk.cell hb).trans (h j v hv)
set_option maxRecDepth 100000 in
set_option maxHeartbeats 2000000 in
theorem walk (p q r t n : Int) (w : World) (l0 : 0 ≤ p) (u0 : p ≤ 255) (l1 : 0 ≤ q) (u1 : q ≤ 255) (l2 : 0 ≤ r) (u2 : r ≤ 255) (l3 : 0 ≤ t) (u3 : t ≤ 255) (l4 : 0 ≤ n) (u4 : n ≤ 255) :
    Calls Try.prog 9 #[.agg #[.int .u8 p, .int .u8 q, .int .u8 r, .int .u8 t], .int .u8 n] w fun e w' => e = .returned (.bool true) ∧ Below w.heap.size w w' := by
  have g3 := coGuard
  have g4 := coEql
  have q1 := eq4_refl p q r t
  have q2 := eq4_refl q r p t
  have q3 := eq4_refl n n n n
  have h0 : u8b p := ⟨l0, u0⟩
  have h1 : u8b q := ⟨l1, u1⟩
  have h2 : u8b r := ⟨l2, u2⟩
  have h3 : u8b t := ⟨l3, u3⟩
  have h4 : u8b n := ⟨l4, u4⟩
  have K9 := Lib.hid (fun w => example27_any w)
  have uu := Try.underlying42
  have A1 : ∀ w : World, Calls Try.prog 32 #[.agg #[.int .i64 256, .int .i64 0, .int .i64 0, .int .i64 0, .int .i64 0, .int .i64 0, .int .i64 256, .int .i64 0, .int .i64 0, .int .i64 0, .int .i64 0, .int .i64 0, .int .i64 256, .int .i64 0, .int .i64 0, .int .i64 0, .int .i64 0, .int .i64 0, .int .i64 256, .int .i64 0], .agg #[.int .u8 p, .int .u8 q, .int .u8 r, .int .u8 t]] w fun e w' => e = .returned (.tuple #[.agg #[.int .u8 p, .int .u8 q, .int .u8 r, .int .u8 t], .bool true]) ∧ Keeps w w' := fun w => by
    have h := apply_ok (fun k => ([256, 0, 0, 0, 0, 0, 256, 0, 0, 0, 0, 0, 256, 0, 0, 0, 0, 0, 256, 0] : List Int).getD k 0) p q r t w (by
      intro k hk
      have hq : k = 0 ∨ k = 1 ∨ k = 2 ∨ k = 3 ∨ k = 4 ∨ k = 5 ∨ k = 6 ∨ k = 7 ∨ k = 8 ∨ k = 9 ∨ k = 10 ∨ k = 11 ∨ k = 12 ∨ k = 13 ∨ k = 14 ∨ k = 15 ∨ k = 16 ∨ k = 17 ∨ k = 18 ∨ k = 19 := by omega
      rcases hq with rfl | rfl | rfl | rfl | rfl | rfl | rfl | rfl | rfl | rfl | rfl | rfl | rfl | rfl | rfl | rfl | rfl | rfl | rfl | rfl <;> (show -65536 ≤ _ ∧ _ ≤ _; simp only [List.getD_cons_zero, List.getD_cons_succ]; omega)) h0 h1 h2 h3
    rw [amR_one _ 0 p q r t p (by show 256 * p + 0 * q + 0 * r + 0 * t + 0 = 256 * p; omega) h0] at h
    rw [amR_one _ 1 p q r t q (by show 0 * p + 256 * q + 0 * r + 0 * t + 0 = 256 * q; omega) h1] at h
    rw [amR_one _ 2 p q r t r (by show 0 * p + 0 * q + 256 * r + 0 * t + 0 = 256 * r; omega) h2] at h
    rw [amR_one _ 3 p q r t t (by show 0 * p + 0 * q + 0 * r + 256 * t + 0 = 256 * t; omega) h3] at h
    exact h
  obtain ⟨X1, hX1⟩ : ∃ X : List Value, Hid (X = [.int .i64 256, .int .i64 0, .int .i64 0, .int .i64 0, .int .i64 0, .int .i64 0, .int .i64 256, .int .i64 0, .int .i64 0, .int .i64 0, .int .i64 0, .int .i64 0, .int .i64 256, .int .i64 0, .int .i64 0, .int .i64 0, .int .i64 0, .int .i64 0, .int .i64 256, .int .i64 0]) := ⟨_, Lib.hid rfl⟩
  have eX1 : Hid ((.agg #[.int .i64 256, .int .i64 0, .int .i64 0, .int .i64 0, .int .i64 0, .int .i64 0, .int .i64 256, .int .i64 0, .int .i64 0, .int .i64 0, .int .i64 0, .int .i64 0, .int .i64 256, .int .i64 0, .int .i64 0, .int .i64 0, .int .i64 0, .int .i64 0, .int .i64 256, .int .i64 0] : Value) = .agg X1.toArray) := Lib.hid (by rw [hX1.out])
  have z1 : X1.length = 20 := by rw [hX1.out]; rfl
  have o1 : X1.toArray.all (·.oneCell') = true := all_oneCell_toArray (by
    rw [show X1 = ([256, 0, 0, 0, 0, 0, 256, 0, 0, 0, 0, 0, 256, 0, 0, 0, 0, 0, 256, 0] : List Int).map (Value.int .i64) from hX1.out]
    intro v hv
    obtain ⟨_, _, rfl⟩ := List.mem_map.1 hv
    rfl)
  have v1 : (Try.prog.info? 42).map (·.size) = some X1.length := by rw [z1]; rfl
  have K1 := Lib.hid A1
  simp only [eX1.out] at K1
  clear A1 hX1
  have A2 : ∀ w : World, Calls Try.prog 32 #[.agg #[.int .i64 0, .int .i64 256, .int .i64 0, .int .i64 0, .int .i64 0, .int .i64 0, .int .i64 0, .int .i64 256, .int .i64 0, .int .i64 0, .int .i64 256, .int .i64 0, .int .i64 0, .int .i64 0, .int .i64 0, .int .i64 0, .int .i64 0, .int .i64 0, .int .i64 256, .int .i64 0], .agg #[.int .u8 p, .int .u8 q, .int .u8 r, .int .u8 t]] w fun e w' => e = .returned (.tuple #[.agg #[.int .u8 q, .int .u8 r, .int .u8 p, .int .u8 t], .bool true]) ∧ Keeps w w' := fun w => by
    have h := apply_ok (fun k => ([0, 256, 0, 0, 0, 0, 0, 256, 0, 0, 256, 0, 0, 0, 0, 0, 0, 0, 256, 0] : List Int).getD k 0) p q r t w (by
      intro k hk
      have hq : k = 0 ∨ k = 1 ∨ k = 2 ∨ k = 3 ∨ k = 4 ∨ k = 5 ∨ k = 6 ∨ k = 7 ∨ k = 8 ∨ k = 9 ∨ k = 10 ∨ k = 11 ∨ k = 12 ∨ k = 13 ∨ k = 14 ∨ k = 15 ∨ k = 16 ∨ k = 17 ∨ k = 18 ∨ k = 19 := by omega
      rcases hq with rfl | rfl | rfl | rfl | rfl | rfl | rfl | rfl | rfl | rfl | rfl | rfl | rfl | rfl | rfl | rfl | rfl | rfl | rfl | rfl <;> (show -65536 ≤ _ ∧ _ ≤ _; simp only [List.getD_cons_zero, List.getD_cons_succ]; omega)) h0 h1 h2 h3
    rw [amR_one _ 0 p q r t q (by show 0 * p + 256 * q + 0 * r + 0 * t + 0 = 256 * q; omega) h1] at h
    rw [amR_one _ 1 p q r t r (by show 0 * p + 0 * q + 256 * r + 0 * t + 0 = 256 * r; omega) h2] at h
    rw [amR_one _ 2 p q r t p (by show 256 * p + 0 * q + 0 * r + 0 * t + 0 = 256 * p; omega) h0] at h
    rw [amR_one _ 3 p q r t t (by show 0 * p + 0 * q + 0 * r + 256 * t + 0 = 256 * t; omega) h3] at h
    exact h
  obtain ⟨X2, hX2⟩ : ∃ X : List Value, Hid (X = [.int .i64 0, .int .i64 256, .int .i64 0, .int .i64 0, .int .i64 0, .int .i64 0, .int .i64 0, .int .i64 256, .int .i64 0, .int .i64 0, .int .i64 256, .int .i64 0, .int .i64 0, .int .i64 0, .int .i64 0, .int .i64 0, .int .i64 0, .int .i64 0, .int .i64 256, .int .i64 0]) := ⟨_, Lib.hid rfl⟩
  have eX2 : Hid ((.agg #[.int .i64 0, .int .i64 256, .int .i64 0, .int .i64 0, .int .i64 0, .int .i64 0, .int .i64 0, .int .i64 256, .int .i64 0, .int .i64 0, .int .i64 256, .int .i64 0, .int .i64 0, .int .i64 0, .int .i64 0, .int .i64 0, .int .i64 0, .int .i64 0, .int .i64 256, .int .i64 0] : Value) = .agg X2.toArray) := Lib.hid (by rw [hX2.out])
  have z2 : X2.length = 20 := by rw [hX2.out]; rfl
  have o2 : X2.toArray.all (·.oneCell') = true := all_oneCell_toArray (by
    rw [show X2 = ([0, 256, 0, 0, 0, 0, 0, 256, 0, 0, 256, 0, 0, 0, 0, 0, 0, 0, 256, 0] : List Int).map (Value.int .i64) from hX2.out]
    intro v hv
    obtain ⟨_, _, rfl⟩ := List.mem_map.1 hv
    rfl)
  have v2 : (Try.prog.info? 42).map (·.size) = some X2.length := by rw [z2]; rfl
  have K2 := Lib.hid A2
  simp only [eX2.out] at K2
  clear A2 hX2
  have A3 : ∀ w : World, Calls Try.prog 32 #[.agg #[.int .i64 0, .int .i64 0, .int .i64 0, .int .i64 0, .int .i64 (256 * n), .int .i64 0, .int .i64 0, .int .i64 0, .int .i64 0, .int .i64 (256 * n), .int .i64 0, .int .i64 0, .int .i64 0, .int .i64 0, .int .i64 (256 * n), .int .i64 0, .int .i64 0, .int .i64 0, .int .i64 0, .int .i64 (256 * n)], .agg #[.int .u8 p, .int .u8 q, .int .u8 r, .int .u8 t]] w fun e w' => e = .returned (.tuple #[.agg #[.int .u8 n, .int .u8 n, .int .u8 n, .int .u8 n], .bool true]) ∧ Keeps w w' := fun w => by
    have h := apply_ok (fun k => ([0, 0, 0, 0, (256 * n), 0, 0, 0, 0, (256 * n), 0, 0, 0, 0, (256 * n), 0, 0, 0, 0, (256 * n)] : List Int).getD k 0) p q r t w (by
      intro k hk
      have hq : k = 0 ∨ k = 1 ∨ k = 2 ∨ k = 3 ∨ k = 4 ∨ k = 5 ∨ k = 6 ∨ k = 7 ∨ k = 8 ∨ k = 9 ∨ k = 10 ∨ k = 11 ∨ k = 12 ∨ k = 13 ∨ k = 14 ∨ k = 15 ∨ k = 16 ∨ k = 17 ∨ k = 18 ∨ k = 19 := by omega
      rcases hq with rfl | rfl | rfl | rfl | rfl | rfl | rfl | rfl | rfl | rfl | rfl | rfl | rfl | rfl | rfl | rfl | rfl | rfl | rfl | rfl <;> (show -65536 ≤ _ ∧ _ ≤ _; simp only [List.getD_cons_zero, List.getD_cons_succ]; omega)) h0 h1 h2 h3
    rw [amR_one _ 0 p q r t n (by show 0 * p + 0 * q + 0 * r + 0 * t + (256 * n) = 256 * n; omega) h4] at h
    rw [amR_one _ 1 p q r t n (by show 0 * p + 0 * q + 0 * r + 0 * t + (256 * n) = 256 * n; omega) h4] at h
    rw [amR_one _ 2 p q r t n (by show 0 * p + 0 * q + 0 * r + 0 * t + (256 * n) = 256 * n; omega) h4] at h
    rw [amR_one _ 3 p q r t n (by show 0 * p + 0 * q + 0 * r + 0 * t + (256 * n) = 256 * n; omega) h4] at h
    exact h
  obtain ⟨X3, hX3⟩ : ∃ X : List Value, Hid (X = [.int .i64 0, .int .i64 0, .int .i64 0, .int .i64 0, .int .i64 (256 * n), .int .i64 0, .int .i64 0, .int .i64 0, .int .i64 0, .int .i64 (256 * n), .int .i64 0, .int .i64 0, .int .i64 0, .int .i64 0, .int .i64 (256 * n), .int .i64 0, .int .i64 0, .int .i64 0, .int .i64 0, .int .i64 (256 * n)]) := ⟨_, Lib.hid rfl⟩
  have eX3 : Hid ((.agg #[.int .i64 0, .int .i64 0, .int .i64 0, .int .i64 0, .int .i64 (256 * n), .int .i64 0, .int .i64 0, .int .i64 0, .int .i64 0, .int .i64 (256 * n), .int .i64 0, .int .i64 0, .int .i64 0, .int .i64 0, .int .i64 (256 * n), .int .i64 0, .int .i64 0, .int .i64 0, .int .i64 0, .int .i64 (256 * n)] : Value) = .agg X3.toArray) := Lib.hid (by rw [hX3.out])
  have z3 : X3.length = 20 := by rw [hX3.out]; rfl
  have o3 : X3.toArray.all (·.oneCell') = true := all_oneCell_toArray (by
    rw [show X3 = ([0, 0, 0, 0, (256 * n), 0, 0, 0, 0, (256 * n), 0, 0, 0, 0, (256 * n), 0, 0, 0, 0, (256 * n)] : List Int).map (Value.int .i64) from hX3.out]
    intro v hv
    obtain ⟨_, _, rfl⟩ := List.mem_map.1 hv
    rfl)
  have v3 : (Try.prog.info? 42).map (·.size) = some X3.length := by rw [z3]; rfl
  have K3 := Lib.hid A3
  simp only [eX3.out] at K3
  clear A3 hX3
  clear h0 h1 h2 h3 h4
  have HS := Lib.hid (show ∀ w', Keeps (w.alloc (.cells #[.int .u8 p, .int .u8 q, .int .u8 r, .int .u8 t] 23)) w' → w'.cell? ⟨w.heap.size, 0, none⟩ = some (.int .u8 p) ∧ w'.frozen? ⟨w.heap.size, 0, none⟩ = false ∧ w'.cell? ⟨w.heap.size, 1, none⟩ = some (.int .u8 q) ∧ w'.frozen? ⟨w.heap.size, 1, none⟩ = false ∧ w'.cell? ⟨w.heap.size, 2, none⟩ = some (.int .u8 r) ∧ w'.frozen? ⟨w.heap.size, 2, none⟩ = false ∧ w'.cell? ⟨w.heap.size, 3, none⟩ = some (.int .u8 t) ∧ w'.frozen? ⟨w.heap.size, 3, none⟩ = false from fun w' hk => ⟨(hk.cell (p := ⟨w.heap.size, 0, none⟩) (by first | (simp; done) | (simp; omega))).trans (by simp [go_sem]), (hk.frozen (p := ⟨w.heap.size, 0, none⟩) (by first | (simp; done) | (simp; omega))).trans (by simp [go_sem]), (hk.cell (p := ⟨w.heap.size, 1, none⟩) (by first | (simp; done) | (simp; omega))).trans (by simp [go_sem]), (hk.frozen (p := ⟨w.heap.size, 1, none⟩) (by first | (simp; done) | (simp; omega))).trans (by simp [go_sem]), (hk.cell (p := ⟨w.heap.size, 2, none⟩) (by first | (simp; done) | (simp; omega))).trans (by simp [go_sem]), (hk.frozen (p := ⟨w.heap.size, 2, none⟩) (by first | (simp; done) | (simp; omega))).trans (by simp [go_sem]), (hk.cell (p := ⟨w.heap.size, 3, none⟩) (by first | (simp; done) | (simp; omega))).trans (by simp [go_sem]), (hk.frozen (p := ⟨w.heap.size, 3, none⟩) (by first | (simp; done) | (simp; omega))).trans (by simp [go_sem])⟩)
  have HB := Lib.hid (show Keeps w (w.alloc (.cells #[.int .u8 p, .int .u8 q, .int .u8 r, .int .u8 t] 23)) from (by (repeat (first | (with_reducible exact Keeps.refl _) | (with_reducible assumption) | (with_reducible refine Keeps.drewN ?_ _) | (with_reducible refine Keeps.drew ?_) | (with_reducible refine Keeps.alloc ?_ _) | (with_reducible refine Keeps.setNew ?_ ?_ _))) <;> (dsimp only; omega)))
  have hk0 := Keeps.refl (w.alloc (.cells #[.int .u8 p, .int .u8 q, .int .u8 r, .int .u8 t] 23))
  have hz0 : ((w.alloc (.cells #[.int .u8 p, .int .u8 q, .int .u8 r, .int .u8 t] 23))).heap.size = w.heap.size + 1 := by simp
  go_enter Try.func9, Try.ntmps9
  go_upto_region 1 with fail
  generalize (w.alloc (.cells #[.int .u8 p, .int .u8 q, .int .u8 r, .int .u8 t] 23)) = W0 at *
  apply wp_region_lit
  refine wpList_plain rfl (fun K hK => ?_)
  replace hK := Lib.hid hK
  go_simp
  refine hK.out _ _ ?_
  clear hK K
  simp only [eX1.out]
  refine wpList_plain rfl (fun K hK => ?_)
  replace hK := Lib.hid hK
  go_simp
  refine hK.out _ _ ?_
  clear hK K
  refine wpList_store_mid rfl 42 _ _ rfl (w.heap.size + 1) 0 X1.toArray rfl rfl (by have h := there20 W0; rw [hz0] at h; simpa [z1] using h) (by simpa using v1) o1 ?_
  have HQ1 := new20 W0 (w.heap.size + 1) X1 hz0 z1
  simp only [Act.put, List.setIfInBounds_toArray, List.set_cons_zero, List.set_cons_succ]
  generalize (W0.alloc (.cells #[.int .i64 0, .int .i64 0, .int .i64 0, .int .i64 0, .int .i64 0, .int .i64 0, .int .i64 0, .int .i64 0, .int .i64 0, .int .i64 0, .int .i64 0, .int .i64 0, .int .i64 0, .int .i64 0, .int .i64 0, .int .i64 0, .int .i64 0, .int .i64 0, .int .i64 0, .int .i64 0] 42)).setCells (w.heap.size + 1) 0 X1.toArray.toList = W1 at *
  obtain ⟨hk1, hr1, hz1⟩ := HQ1
  clear eX1 o1
  go_upto_region 2 with fail
  apply wp_region_lit
  refine wpList_plain rfl (fun K hK => ?_)
  replace hK := Lib.hid hK
  go_simp
  refine hK.out _ _ ?_
  clear hK K
  simp only [eX2.out]
  refine wpList_plain rfl (fun K hK => ?_)
  replace hK := Lib.hid hK
  go_simp
  refine hK.out _ _ ?_
  clear hK K
  refine wpList_store_mid rfl 42 _ _ rfl (w.heap.size + 1 + 1) 0 X2.toArray rfl rfl (by have h := there20 W1; rw [hz1] at h; simpa [z2] using h) (by simpa using v2) o2 ?_
  have HQ2 := new20 W1 (w.heap.size + 1 + 1) X2 hz1 z2
  simp only [Act.put, List.setIfInBounds_toArray, List.set_cons_zero, List.set_cons_succ]
  generalize (W1.alloc (.cells #[.int .i64 0, .int .i64 0, .int .i64 0, .int .i64 0, .int .i64 0, .int .i64 0, .int .i64 0, .int .i64 0, .int .i64 0, .int .i64 0, .int .i64 0, .int .i64 0, .int .i64 0, .int .i64 0, .int .i64 0, .int .i64 0, .int .i64 0, .int .i64 0, .int .i64 0, .int .i64 0] 42)).setCells (w.heap.size + 1 + 1) 0 X2.toArray.toList = W2 at *
  obtain ⟨hk2, hr2, hz2⟩ := HQ2
  clear eX2 o2
  go_upto_region 3 with fail
  have wn1 : IntKind.i64.wrap n = n := (by simp [IntKind.wrap, IntKind.bits, IntKind.signed]; omega)
  have wn2 : IntKind.i64.wrap (256 * n) = 256 * n := (by simp [IntKind.wrap, IntKind.bits, IntKind.signed]; omega)
  apply wp_region_lit
  refine wpList_plain rfl (fun K hK => ?_)
  replace hK := Lib.hid hK
  go_simp
  refine hK.out _ _ ?_
  clear hK K
  refine wpList_plain rfl (fun K hK => ?_)
  replace hK := Lib.hid hK
  go_simp
  refine hK.out _ _ ?_
  clear hK K
  refine wpList_plain rfl (fun K hK => ?_)
  replace hK := Lib.hid hK
  go_simp
  refine hK.out _ _ ?_
  clear hK K
  refine wpList_plain rfl (fun K hK => ?_)
  replace hK := Lib.hid hK
  go_simp
  refine hK.out _ _ ?_
  clear hK K
  refine wpList_plain rfl (fun K hK => ?_)
  replace hK := Lib.hid hK
  go_simp
  refine hK.out _ _ ?_
  clear hK K
  refine wpList_plain rfl (fun K hK => ?_)
  replace hK := Lib.hid hK
  go_simp
  refine hK.out _ _ ?_
  clear hK K
  refine wpList_plain rfl (fun K hK => ?_)
  replace hK := Lib.hid hK
  go_simp
  refine hK.out _ _ ?_
  clear hK K
  refine wpList_plain rfl (fun K hK => ?_)
  replace hK := Lib.hid hK
  go_simp
  refine hK.out _ _ ?_
  clear hK K
  refine wpList_plain rfl (fun K hK => ?_)
  replace hK := Lib.hid hK
  go_simp
  refine hK.out _ _ ?_
  clear hK K
  refine wpList_plain rfl (fun K hK => ?_)
  replace hK := Lib.hid hK
  go_simp
  refine hK.out _ _ ?_
  clear hK K
  refine wpList_plain rfl (fun K hK => ?_)
  replace hK := Lib.hid hK
  go_simp
  refine hK.out _ _ ?_
  clear hK K
  refine wpList_plain rfl (fun K hK => ?_)
  replace hK := Lib.hid hK
  go_simp
  refine hK.out _ _ ?_
  clear hK K
  refine wpList_plain rfl (fun K hK => ?_)
  replace hK := Lib.hid hK
  go_simp
  refine hK.out _ _ ?_
  clear hK K
  simp only [eX3.out]
  refine wpList_plain rfl (fun K hK => ?_)
  replace hK := Lib.hid hK
  go_simp
  refine hK.out _ _ ?_
  clear hK K
  refine wpList_store_mid rfl 42 _ _ rfl (w.heap.size + 1 + 1 + 1) 0 X3.toArray rfl rfl (by have h := there20 W2; rw [hz2] at h; simpa [z3] using h) (by simpa using v3) o3 ?_
  have HQ3 := new20 W2 (w.heap.size + 1 + 1 + 1) X3 hz2 z3
  simp only [Act.put, List.setIfInBounds_toArray, List.set_cons_zero, List.set_cons_succ]
  generalize (W2.alloc (.cells #[.int .i64 0, .int .i64 0, .int .i64 0, .int .i64 0, .int .i64 0, .int .i64 0, .int .i64 0, .int .i64 0, .int .i64 0, .int .i64 0, .int .i64 0, .int .i64 0, .int .i64 0, .int .i64 0, .int .i64 0, .int .i64 0, .int .i64 0, .int .i64 0, .int .i64 0, .int .i64 0] 42)).setCells (w.heap.size + 1 + 1 + 1) 0 X3.toArray.toList = W3 at *
  obtain ⟨hk3, hr3, hz3⟩ := HQ3
  clear eX3 o3
  have HR1 := Lib.hid (fun w' (hk : Keeps W3 w') => range_keep hr1 ((hk2.trans hk3).trans hk) (by omega))
  have HR2 := Lib.hid (fun w' (hk : Keeps W3 w') => range_keep hr2 (hk3.trans hk) (by omega))
  have HR3 := Lib.hid (fun w' (hk : Keeps W3 w') => range_keep hr3 hk (by omega))
  have HC := Lib.hid (fun w' (hk : Keeps W3 w') => HS.out w' (((hk1.trans hk2).trans hk3).trans hk))
  have HB3 := Lib.hid (HB.out.trans ((hk1.trans hk2).trans hk3))
  clear hr1 hr2 hr3 HS hz0 hz1 hz2 hk1 hk2 hk3 HB hk0 z1 z2 z3
  go_upto_region 4 with fail
  obtain ⟨y0, y1, y2, y3, y4, y5, y6, y7⟩ := HC.out _ (Keeps.refl _)
  apply wp_region_lit
  refine wpList_load_mid rfl 42 _ rfl (w.heap.size + 1) 0 rfl X1 _ (HR1.out _ (Keeps.refl _)) uu rfl v1 ?_
  simp only [Act.put, List.setIfInBounds_toArray, List.set_cons_zero, List.set_cons_succ]
  go_upto_region 5 with (go_at_call 32; (with_reducible refine (K1.out _).mono ?_); rintro e w1 ⟨rfl, hk1⟩; have HE1 := Lib.hid (box4 w1 (.int .u8 p) (.int .u8 q) (.int .u8 r) (.int .u8 t) 23 w1.heap.size rfl); have HK1 := Lib.hid (Keeps.alloc hk1 (.cells #[.int .u8 p, .int .u8 q, .int .u8 r, .int .u8 t] 23)); have hs1 : w.heap.size < w1.heap.size := (by have h := hk1.size; omega))
  obtain ⟨d0, d1, d2, d3, d4, d5, d6, d7⟩ := HC.out _ hk1
  apply wp_region_lit
  refine wpList_load_mid rfl 42 _ rfl (w.heap.size + 1 + 1) 0 rfl X2 _ (HR2.out _ HK1.out) uu rfl v2 ?_
  simp only [Act.put, List.setIfInBounds_toArray, List.set_cons_zero, List.set_cons_succ]
  go_upto_region 6 with (go_at_call 32; (with_reducible refine (K2.out _).mono ?_); rintro e w2 ⟨rfl, hk2⟩; have HE2 := Lib.hid (box4 w2 (.int .u8 q) (.int .u8 r) (.int .u8 p) (.int .u8 t) 23 w2.heap.size rfl); have HD1 := Lib.hid (fun w' hk' => HE1.out w' ((Keeps.alloc hk2 (.cells #[.int .u8 q, .int .u8 r, .int .u8 p, .int .u8 t] 23)).trans hk')); have HK2 := Lib.hid ((HK1.out.trans hk2).alloc (.cells #[.int .u8 q, .int .u8 r, .int .u8 p, .int .u8 t] 23)); have hs2 : w1.heap.size < w2.heap.size := (by have h := hk2.size; simp at h; omega); have hs3 : w.heap.size < w2.heap.size := (by omega))
  obtain ⟨f0, f1, f2, f3, f4, f5, f6, f7⟩ := HC.out _ (HK1.out.trans hk2)
  apply wp_region_lit
  refine wpList_load_mid rfl 42 _ rfl (w.heap.size + 1 + 1 + 1) 0 rfl X3 _ (HR3.out _ HK2.out) uu rfl v3 ?_
  simp only [Act.put, List.setIfInBounds_toArray, List.set_cons_zero, List.set_cons_succ]
  go_wp2_with (first | (go_at_call 32; (with_reducible refine (K3.out _).mono ?_); rintro e w3 ⟨rfl, hk3⟩; obtain ⟨i0, i1, i2, i3, i4, i5, i6, i7⟩ := HC.out _ (HK2.out.trans hk3); obtain ⟨m0, m1, m2, m3⟩ := HD1.out _ hk3; obtain ⟨n0, n1, n2, n3⟩ := HE2.out _ hk3; have HK3 := Lib.hid ((HK2.out.trans hk3).alloc (.cells #[.int .u8 n, .int .u8 n, .int .u8 n, .int .u8 n] 23)); have hs4 : w2.heap.size < w3.heap.size := (by have h := hk3.size; simp at h; omega); have hs5 : w1.heap.size < w3.heap.size := (by omega); have hs6 : w.heap.size < w3.heap.size := (by omega)) | (go_at_call 16; (with_reducible refine (K9.out _).mono ?_); rintro e w4 ⟨rfl, hk4⟩))
  go_ret
  exact ⟨rfl, HB3.out.trans (HK3.out.trans hk4)⟩

set_option maxRecDepth 100000 in
theorem lifted (os : Os) (started : os.Started) (H : Type) (enc : TypeId × Value → H) :
    ReturnsInHanded {} Try.checked os 9 .any (Rows.colorMatrixIdentitySpec.pre6 enc Try.prog Try.f9 Rows.colorMatrixIdentityRow.domain false) (Rows.colorMatrixIdentitySpec.post enc Try.prog Try.f9 false true false false) := by
  refine returnsInHanded_of_change (C := Try.checked) Try.own started (by kernel_rfl) Try.func9
    (ChangeSpec.witness6 (enc := enc) (C := Try.checked) false ⟨#[], #[.agg #[.int .u8 0, .int .u8 0, .int .u8 0, .int .u8 0], .int .u8 0], []⟩ 8 (by kernel_rfl) (by kernel_rfl) (by kernel_rfl) (by kernel_rfl)) ?_
  intro W base args ds gs before hval0 hW hcnd _
  have hval : ∀ (j : Nat) t v, Try.f9.params[j]? = some t → args[j]? = some v → Value.okWide Try.prog W .any base t v := hval0
  have hW' := hW
  obtain ⟨p, q, hA0, hV, rfl, hfz, hnd⟩ := hW
  have hA : DataW.TrodAll enc Try.prog W 0 (fun _ => true) true Try.f9.params.toList args.toList ds p := hA0
  have hAll := hA
  rw [Try.params9] at hA hval
  obtain ⟨v0, vs0, d0, ds0, p0, q0, hargs, rfl, rfl, h0, r0⟩ := trodAll_cons hA
  obtain ⟨v1, vs1, d1, ds1, p1, q1, rfl, rfl, rfl, h1, r1⟩ := trodAll_cons r0
  obtain ⟨rfl, rfl, rfl⟩ := trodAll_nil r1
  obtain rfl : args = #[v0, v1] := by cases args; simp_all
  obtain ⟨rfl, rfl⟩ := trodVars_none hV
  obtain ⟨c0, rfl, L0_0⟩ := open_flat (ks := [some .u8, some .u8, some .u8, some .u8]) (by kernel_rfl) (by kernel_rfl) (hval 0 23 v0 rfl rfl) h0
  obtain ⟨_, c0_0, rfl, ⟨a0_0, rfl, w0_0⟩, L0_1⟩ := leafs_cons L0_0
  obtain ⟨l0_0, u0_0⟩ := bounds_u8 w0_0
  obtain ⟨_, c0_1, rfl, ⟨a0_1, rfl, w0_1⟩, L0_2⟩ := leafs_cons L0_1
  obtain ⟨l0_1, u0_1⟩ := bounds_u8 w0_1
  obtain ⟨_, c0_2, rfl, ⟨a0_2, rfl, w0_2⟩, L0_3⟩ := leafs_cons L0_2
  obtain ⟨l0_2, u0_2⟩ := bounds_u8 w0_2
  obtain ⟨_, c0_3, rfl, ⟨a0_3, rfl, w0_3⟩, L0_4⟩ := leafs_cons L0_3
  obtain ⟨l0_3, u0_3⟩ := bounds_u8 w0_3
  obtain rfl := leafs_nil L0_4
  obtain ⟨a1, rfl, _, _, w1⟩ := open_int Try.underlying5 (hval 1 5 v1 rfl rfl) h1
  obtain ⟨l1, u1⟩ := bounds_u8 w1
  clear hA0 hval0
  refine (walk a0_0 a0_1 a0_2 a0_3 a1 W l0_0 u0_0 l0_1 u0_1 l0_2 u0_2 l0_3 u0_3 l1 u1).mono fun e W' ⟨he, bel⟩ => ?_
  subst he
  exact ⟨_, rfl, _, _, _, [], _, [], hW', trodAll_mk1 (shut_bool Try.underlying4 _), below_trodAll Try.laidOut bel (reads_of (by kernel_rfl)) hAll, rfl, bel.frame _, fun h => by cases h⟩

theorem over : Rows.colorMatrixIdentityRow.holds Try.pinned (OpenSpec.ofChange Rows.colorMatrixIdentitySpec) :=
  OpenClaim.holds_of_wide 9 Try.f9 rfl rfl rfl rfl rfl rfl rfl ⟨rfl, rfl, rfl, rfl, rfl⟩ rfl rfl rfl rfl rfl (by kernel_rfl) Try.func9 (by kernel_rfl)
    (of_decide_eq_true (by kernel_rfl)) (by unfold Func.isWrapper; first | (rw [if_pos (by decide +kernel)]; kernel_rfl) | (rw [if_neg (by decide +kernel)]; exact ⟨rfl, rfl⟩))
    (fun os started H enc _ => lifted os started H enc)

/-- The statement. -/
theorem proved : Rows.ColorMatrixIdentitySaid := over
#print axioms proved
end Go.Proofs.Ytjfimlcljbdglaa.colorMatrixIdentity
