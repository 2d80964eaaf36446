/- Contracts of reference 08: MulDivRound, DivRound. -/
import Derived.Test.YtihmhpleiefodaaN12
import Derived.Deep.RegionHeld3
import Derived.Laws.BitsAllLaws
import Derived.Test.YtihmhpleiefodaaPq
namespace Go.Proofs.Ytihmhpleiefodaa
section
section
open Go.RowKit
set_option linter.unusedVariables false
set_option linter.unusedSimpArgs false

/-- An api.Int in new memory. -/
def RetBI (w0 : World) (b : Bool) (x : Nat) (e : Ending) (w' : World) : Prop :=
  ∃ A c, e = .returned (.agg #[.bool b, .slice A (dig x).length c]) ∧ Dg w' A (dig x).length c (dig x) ∧ Keeps w0 w' ∧ Fr w0 A
theorem RetBI.mono {w0 w1 w' : World} {b : Bool} {x : Nat} {e : Ending} (h : RetBI w1 b x e w') (hk : Keeps w0 w1) : RetBI w0 b x e w' := by
  obtain ⟨A, c, he, hd, hk1, hf⟩ := h
  exact ⟨A, c, he, hd, hk.trans hk1, hf.back hk⟩
theorem Fr.ne {w : World} {A : Option Addr} {g : Nat} (h : Fr w A) (hg : g < w.heap.size) : ∀ a, A = some a → a.block ≠ g := fun a e h2 => by have := h a e; omega
theorem Keeps.far2 {w w2 : World} {g : Nat} (hk : Keeps w w2) (hg : w.heap.size ≤ g) (u v : Value) : Keeps w ((w2.setCell ⟨g, 0, none⟩ u).setCell ⟨g, 1, none⟩ v) :=
  (hk.setNew hg u).setNew hg v
set_option maxRecDepth 100000 in
set_option maxHeartbeats 1000000 in
theorem new_any (neg : Bool) (D : List Nat) (A : Option Addr) (n c : Nat) (w : World) (h : Dg w A n c D) (hsm : n ≤ 1000) :
    Calls Try.prog 82 #[.bool neg, .slice A n c] w (RetBI w (neg && decide (nv D ≠ 0)) (nv D)) := by
  have HS := Lib.hid (show ∀ w', Keeps (w.alloc (.cells #[.bool false, .slice none 0 0] 97)) w' → w'.cell? ⟨w.heap.size, 0, none⟩ = some (.bool false) ∧ w'.frozen? ⟨w.heap.size, 0, none⟩ = false ∧ w'.cell? ⟨w.heap.size, 1, none⟩ = some (.slice none 0 0) ∧ w'.frozen? ⟨w.heap.size, 1, none⟩ = false from fun w' hk => ⟨(hk.cell (p := ⟨w.heap.size, 0, none⟩) (by first | (simp; done) | (simp; omega))).trans (by simp [go_sem]), (hk.frozen (p := ⟨w.heap.size, 0, none⟩) (by first | (simp; done) | (simp; omega))).trans (by simp [go_sem]), (hk.cell (p := ⟨w.heap.size, 1, none⟩) (by first | (simp; done) | (simp; omega))).trans (by simp [go_sem]), (hk.frozen (p := ⟨w.heap.size, 1, none⟩) (by first | (simp; done) | (simp; omega))).trans (by simp [go_sem])⟩)
  have HB := Lib.hid (show Keeps w (w.alloc (.cells #[.bool false, .slice none 0 0] 97)) from (by (repeat (first | (with_reducible exact Keeps.refl _) | (with_reducible assumption) | (with_reducible refine Keeps.drewN ?_ _) | (with_reducible refine Keeps.drew ?_) | (with_reducible refine Keeps.alloc ?_ _) | (with_reducible refine Keeps.setNew ?_ ?_ _))) <;> (dsimp only; omega)))
  have hk0 := Keeps.refl (w.alloc (.cells #[.bool false, .slice none 0 0] 97))
  have GN := Lib.hid (normalize_any D A n c _ (h.keep HB.out) (by omega))
  obtain ⟨k, hk⟩ : ∃ k, (dig (nv D)).length = k := ⟨_, rfl⟩
  unfold RetDg at GN
  unfold RetBI
  rw [hk] at GN
  rw [hk]
  have hk0' : k = 0 ↔ nv D = 0 := by
    rw [← hk]; exact ⟨fun e => dig_nil.1 (List.eq_nil_of_length_eq_zero e), fun e => by rw [dig_nil.2 e]; rfl⟩
  have hb : Hid ((neg && decide (nv D ≠ 0)) = (neg && decide (0 < k))) := by
    unfold Hid; congr 1; rw [Bool.eq_iff_iff, decide_eq_true_iff, decide_eq_true_iff]; omega
  rw [hb.out]
  clear hk hk0' h
  have hF' := fun {A : Option Addr} (h : Fr (w.alloc (.cells #[.bool false, .slice none 0 0] 97)) A) => h.ne (g := w.heap.size) (by simp)
  cases neg
  · go_enter Try.func82, Try.ntmps82
    go_wp2_with (go_at_call 88; (with_reducible refine GN.out.mono ?_); intro e w2 hret; obtain ⟨A2, c2, rfl, hD2, hk, hF2⟩ := hret; have hk := hk; obtain ⟨y0, y1, y2, y3⟩ := HS.out _ hk)
    have hkk := HB.out.trans hk
    exact bodyPost_ret (v := .agg #[.bool false, .slice A2 k c2]) (by simp [results, Try.results82, go_sem, *]) rfl ⟨A2, c2, by simp, (hD2.far (hF' hF2) _).far (hF' hF2) _, hkk.far2 (Nat.le_refl _) _ _, hF2.back HB.out⟩
  · by_cases h0 : 0 < k
    all_goals
      go_enter Try.func82, Try.ntmps82
      go_wp2_with (go_at_call 88; (with_reducible refine GN.out.mono ?_); intro e w2 hret; obtain ⟨A2, c2, rfl, hD2, hk, hF2⟩ := hret; have hk := hk; obtain ⟨y0, y1, y2, y3⟩ := HS.out _ hk)
      have hkk := HB.out.trans hk
      exact bodyPost_ret (v := .agg #[.bool (decide (0 < k)), .slice A2 k c2]) (by simp [results, Try.results82, go_sem, *]) rfl ⟨A2, c2, by simp, (hD2.far (hF' hF2) _).far (hF' hF2) _, hkk.far2 (Nat.le_refl _) _ _, hF2.back HB.out⟩
end

section
open Go.RowKit
set_option linter.unusedVariables false
set_option linter.unusedSimpArgs false

theorem two_digits (m : Nat) (h : m < 18446744073709551616) : isD [m % 4294967296, m / 4294967296] ∧ nv [m % 4294967296, m / 4294967296] = m :=
  ⟨isD_cons (by omega) (isD.one (by omega)), by simp [nv]; omega⟩
theorem lit2 (W : World) (T : TypeId) (x y g : Nat) (a b : Int) (ha : a = x) (hb : b = y) (hx : x < 4294967296) (hy : y < 4294967296) (hg : g = W.heap.size) :
    Dg (W.alloc (.cells #[.int .u32 a, .int .u32 b] T)) (some ⟨g, 0, none⟩) 2 2 [x, y] := by
  subst ha hb hg
  exact Dg.of_own' (D := [x, y]) (World.ownsRow_lit (base := 0) W #[.int .u32 (x : Int), .int .u32 (y : Int)] 2 (Nat.zero_le _) (by unfold maxLen; omega) (by simp)) (isD_cons hx (isD.one hy))
set_option maxRecDepth 100000 in
set_option maxHeartbeats 1000000 in
theorem fromint_any (n : Int) (w : World) (h0 : -9223372036854775808 ≤ n) (h1 : n ≤ 9223372036854775807) :
    Calls Try.prog 76 #[.int .i64 n] w (RetBI w (decide (n < 0)) n.natAbs) := by
  have HS := Lib.hid (show ∀ w', Keeps (w.alloc (.cells #[.bool false, .slice none 0 0] 97)) w' → w'.cell? ⟨w.heap.size, 0, none⟩ = some (.bool false) ∧ w'.frozen? ⟨w.heap.size, 0, none⟩ = false ∧ w'.cell? ⟨w.heap.size, 1, none⟩ = some (.slice none 0 0) ∧ w'.frozen? ⟨w.heap.size, 1, none⟩ = false from fun w' hk => ⟨(hk.cell (p := ⟨w.heap.size, 0, none⟩) (by first | (simp; done) | (simp; omega))).trans (by simp [go_sem]), (hk.frozen (p := ⟨w.heap.size, 0, none⟩) (by first | (simp; done) | (simp; omega))).trans (by simp [go_sem]), (hk.cell (p := ⟨w.heap.size, 1, none⟩) (by first | (simp; done) | (simp; omega))).trans (by simp [go_sem]), (hk.frozen (p := ⟨w.heap.size, 1, none⟩) (by first | (simp; done) | (simp; omega))).trans (by simp [go_sem])⟩)
  have HB := Lib.hid (show Keeps w (w.alloc (.cells #[.bool false, .slice none 0 0] 97)) from (by (repeat (first | (with_reducible exact Keeps.refl _) | (with_reducible assumption) | (with_reducible refine Keeps.drewN ?_ _) | (with_reducible refine Keeps.drew ?_) | (with_reducible refine Keeps.alloc ?_ _) | (with_reducible refine Keeps.setNew ?_ ?_ _))) <;> (dsimp only; omega)))
  have hk0 := Keeps.refl (w.alloc (.cells #[.bool false, .slice none 0 0] 97))
  obtain ⟨m, hm⟩ : ∃ m, n.natAbs = m := ⟨_, rfl⟩
  have hm2 : m ≤ 9223372036854775808 := by omega
  have T := Lib.hid (two_digits m (by omega))
  rw [hm]
  have T0 := T.out.1
  by_cases hn : n < 0
  · obtain rfl : n = -(m : Int) := by omega
    have f1 : IntKind.u64.wrap (-(m : Int)) = 18446744073709551616 - m := by rw [IntKind.wrap_u64]; omega
    have f2 : IntKind.u64.wrap (-(18446744073709551616 - (m : Int))) = m := by rw [IntKind.wrap_u64]; omega
    rw [decide_eq_true hn]
    have f3 : ¬ m = 0 := by omega
    have hp := Lib.hid (show (true && decide (nv [m % 4294967296, m / 4294967296] ≠ 0)) = true by rw [T.out.2]; simpa using f3)
    have GN := Lib.hid (fun W T g a b (ha : a = ((m % 4294967296 : Nat) : Int)) (hb : b = ((m / 4294967296 : Nat) : Int)) (hg : g = W.heap.size) => new_any true _ _ 2 2 _ (lit2 W T (m % 4294967296) (m / 4294967296) g a b ha hb (by omega) (by omega) hg) (by omega))
    rw [hp.out, T.out.2] at GN
    clear hm
    go_enter Try.func76, Try.ntmps76
    go_wp2_with (go_at_call 82; refine (GN.out _ _ _ _ _ (by omega) (by omega) (by simp)).mono ?_; intro e w2 hret; obtain ⟨A2, c2, rfl, hD2, hk, hF2⟩ := hret; have hk1 := Keeps.trans (Keeps.alloc (Keeps.refl _) _) hk; obtain ⟨y0, y1, y2, y3⟩ := HS.out _ hk1)
    exact bodyPost_ret (v := .agg #[.bool true, .slice A2 (dig m).length c2]) (by simp [results, Try.results76, go_sem, *]) rfl ⟨A2, c2, rfl, (hD2.far (hF2.ne (by simp; omega)) _).far (hF2.ne (by simp; omega)) _, (HB.out.trans hk1).far2 (Nat.le_refl _) _ _, (hF2.back (Keeps.alloc (Keeps.refl _) _)).back HB.out⟩
  · obtain rfl : n = (m : Int) := by omega
    rw [decide_eq_false hn]
    have f1 : IntKind.u64.wrap (m : Int) = m := by rw [IntKind.wrap_u64]; omega
    have hp := Lib.hid (show (false && decide (nv [m % 4294967296, m / 4294967296] ≠ 0)) = false from rfl)
    have GN := Lib.hid (fun W T g a b (ha : a = ((m % 4294967296 : Nat) : Int)) (hb : b = ((m / 4294967296 : Nat) : Int)) (hg : g = W.heap.size) => new_any false _ _ 2 2 _ (lit2 W T (m % 4294967296) (m / 4294967296) g a b ha hb (by omega) (by omega) hg) (by omega))
    rw [hp.out, T.out.2] at GN
    clear hm
    go_enter Try.func76, Try.ntmps76
    go_wp2_with (go_at_call 82; refine (GN.out _ _ _ _ _ (by omega) (by omega) (by simp)).mono ?_; intro e w2 hret; obtain ⟨A2, c2, rfl, hD2, hk, hF2⟩ := hret; have hk1 := Keeps.trans (Keeps.alloc (Keeps.refl _) _) hk; obtain ⟨y0, y1, y2, y3⟩ := HS.out _ hk1)
    exact bodyPost_ret (v := .agg #[.bool false, .slice A2 (dig m).length c2]) (by simp [results, Try.results76, go_sem, *]) rfl ⟨A2, c2, rfl, (hD2.far (hF2.ne (by simp; omega)) _).far (hF2.ne (by simp; omega)) _, (HB.out.trans hk1).far2 (Nat.le_refl _) _ _, (hF2.back (Keeps.alloc (Keeps.refl _) _)).back HB.out⟩
end

section
open Go.RowKit
set_option linter.unusedVariables false
set_option linter.unusedSimpArgs false

set_option maxRecDepth 100000 in
set_option maxHeartbeats 4000000 in
theorem mul2_any (b1 b2 : Bool) (D E : List Nat) (A B : Option Addr) (n c m c2 : Nat) (w : World) (h : Dg w A n c D) (h2 : Dg w B m c2 E) (hsm : n ≤ 100) (hsm2 : m ≤ 100) :
    Calls Try.prog 75 #[.agg #[.bool b1, .slice A n c], .agg #[.bool b2, .slice B m c2]] w (RetBI w ((b1 != b2) && decide (nv D * nv E ≠ 0)) (nv D * nv E)) := by
  have HS := Lib.hid (show ∀ w', Keeps (((w.alloc (.cells #[.bool b1, .slice A n c] 97)).alloc (.cells #[.bool b2, .slice B m c2] 97)).alloc (.cells #[.bool false, .slice none 0 0] 97)) w' → w'.cell? ⟨w.heap.size, 0, none⟩ = some (.bool b1) ∧ w'.frozen? ⟨w.heap.size, 0, none⟩ = false ∧ w'.cell? ⟨w.heap.size, 1, none⟩ = some (.slice A n c) ∧ w'.frozen? ⟨w.heap.size, 1, none⟩ = false ∧ w'.cell? ⟨w.heap.size + 1, 0, none⟩ = some (.bool b2) ∧ w'.frozen? ⟨w.heap.size + 1, 0, none⟩ = false ∧ w'.cell? ⟨w.heap.size + 1, 1, none⟩ = some (.slice B m c2) ∧ w'.frozen? ⟨w.heap.size + 1, 1, none⟩ = false ∧ w'.cell? ⟨w.heap.size + 1 + 1, 0, none⟩ = some (.bool false) ∧ w'.frozen? ⟨w.heap.size + 1 + 1, 0, none⟩ = false ∧ w'.cell? ⟨w.heap.size + 1 + 1, 1, none⟩ = some (.slice none 0 0) ∧ w'.frozen? ⟨w.heap.size + 1 + 1, 1, none⟩ = false from fun w' hk => ⟨(hk.cell (p := ⟨w.heap.size, 0, none⟩) (by first | (simp; done) | (simp; omega))).trans (by simp [go_sem]), (hk.frozen (p := ⟨w.heap.size, 0, none⟩) (by first | (simp; done) | (simp; omega))).trans (by simp [go_sem]), (hk.cell (p := ⟨w.heap.size, 1, none⟩) (by first | (simp; done) | (simp; omega))).trans (by simp [go_sem]), (hk.frozen (p := ⟨w.heap.size, 1, none⟩) (by first | (simp; done) | (simp; omega))).trans (by simp [go_sem]), (hk.cell (p := ⟨w.heap.size + 1, 0, none⟩) (by first | (simp; done) | (simp; omega))).trans (by simp [go_sem]), (hk.frozen (p := ⟨w.heap.size + 1, 0, none⟩) (by first | (simp; done) | (simp; omega))).trans (by simp [go_sem]), (hk.cell (p := ⟨w.heap.size + 1, 1, none⟩) (by first | (simp; done) | (simp; omega))).trans (by simp [go_sem]), (hk.frozen (p := ⟨w.heap.size + 1, 1, none⟩) (by first | (simp; done) | (simp; omega))).trans (by simp [go_sem]), (hk.cell (p := ⟨w.heap.size + 1 + 1, 0, none⟩) (by first | (simp; done) | (simp; omega))).trans (by simp [go_sem]), (hk.frozen (p := ⟨w.heap.size + 1 + 1, 0, none⟩) (by first | (simp; done) | (simp; omega))).trans (by simp [go_sem]), (hk.cell (p := ⟨w.heap.size + 1 + 1, 1, none⟩) (by first | (simp; done) | (simp; omega))).trans (by simp [go_sem]), (hk.frozen (p := ⟨w.heap.size + 1 + 1, 1, none⟩) (by first | (simp; done) | (simp; omega))).trans (by simp [go_sem])⟩)
  have HB := Lib.hid (show Keeps w (((w.alloc (.cells #[.bool b1, .slice A n c] 97)).alloc (.cells #[.bool b2, .slice B m c2] 97)).alloc (.cells #[.bool false, .slice none 0 0] 97)) from (by (repeat (first | (with_reducible exact Keeps.refl _) | (with_reducible assumption) | (with_reducible refine Keeps.drewN ?_ _) | (with_reducible refine Keeps.drew ?_) | (with_reducible refine Keeps.alloc ?_ _) | (with_reducible refine Keeps.setNew ?_ ?_ _))) <;> (dsimp only; omega)))
  have hk0 := Keeps.refl (((w.alloc (.cells #[.bool b1, .slice A n c] 97)).alloc (.cells #[.bool b2, .slice B m c2] 97)).alloc (.cells #[.bool false, .slice none 0 0] 97))
  have HS2 := Lib.hid (show ∀ w', Keeps ((w.alloc (.cells #[.bool b1, .slice A n c] 97)).alloc (.cells #[.bool b2, .slice B m c2] 97)) w' → w'.cell? ⟨w.heap.size, 0, none⟩ = some (.bool b1) ∧ w'.frozen? ⟨w.heap.size, 0, none⟩ = false ∧ w'.cell? ⟨w.heap.size, 1, none⟩ = some (.slice A n c) ∧ w'.frozen? ⟨w.heap.size, 1, none⟩ = false ∧ w'.cell? ⟨w.heap.size + 1, 0, none⟩ = some (.bool b2) ∧ w'.frozen? ⟨w.heap.size + 1, 0, none⟩ = false ∧ w'.cell? ⟨w.heap.size + 1, 1, none⟩ = some (.slice B m c2) ∧ w'.frozen? ⟨w.heap.size + 1, 1, none⟩ = false from fun w' hk => ⟨(hk.cell (p := ⟨w.heap.size, 0, none⟩) (by first | (simp; done) | (simp; omega))).trans (by simp [go_sem]), (hk.frozen (p := ⟨w.heap.size, 0, none⟩) (by first | (simp; done) | (simp; omega))).trans (by simp [go_sem]), (hk.cell (p := ⟨w.heap.size, 1, none⟩) (by first | (simp; done) | (simp; omega))).trans (by simp [go_sem]), (hk.frozen (p := ⟨w.heap.size, 1, none⟩) (by first | (simp; done) | (simp; omega))).trans (by simp [go_sem]), (hk.cell (p := ⟨w.heap.size + 1, 0, none⟩) (by first | (simp; done) | (simp; omega))).trans (by simp [go_sem]), (hk.frozen (p := ⟨w.heap.size + 1, 0, none⟩) (by first | (simp; done) | (simp; omega))).trans (by simp [go_sem]), (hk.cell (p := ⟨w.heap.size + 1, 1, none⟩) (by first | (simp; done) | (simp; omega))).trans (by simp [go_sem]), (hk.frozen (p := ⟨w.heap.size + 1, 1, none⟩) (by first | (simp; done) | (simp; omega))).trans (by simp [go_sem])⟩)
  have HB2 := Lib.hid (show Keeps w ((w.alloc (.cells #[.bool b1, .slice A n c] 97)).alloc (.cells #[.bool b2, .slice B m c2] 97)) from (by (repeat (first | (with_reducible exact Keeps.refl _) | (with_reducible assumption) | (with_reducible refine Keeps.drewN ?_ _) | (with_reducible refine Keeps.drew ?_) | (with_reducible refine Keeps.alloc ?_ _) | (with_reducible refine Keeps.setNew ?_ ?_ _))) <;> (dsimp only; omega)))
  have hk02 := Keeps.refl ((w.alloc (.cells #[.bool b1, .slice A n c] 97)).alloc (.cells #[.bool b2, .slice B m c2] 97))
  have hW : Keeps (((w.alloc (.cells #[.bool b1, .slice A n c] 97)).alloc (.cells #[.bool b2, .slice B m c2] 97))) ((((w.alloc (.cells #[.bool b1, .slice A n c] 97)).alloc (.cells #[.bool b2, .slice B m c2] 97)).alloc (.cells #[.bool false, .slice none 0 0] 97))) := (Keeps.refl _).alloc _
  have HT := Lib.hid (fun w' hk => HS2.out w' (hW.trans hk))
  have HU := Lib.hid (fun w' u v hk => HS2.out _ ((hW.trans (w1 := w') hk).far2 (g := w.heap.size + 1 + 1) (by simp) u v))
  clear hW hk02 HS2
  have GM := Lib.hid (fun w' hk => (mul1_any D E A B n c m c2 w' (h.keep (HB.out.trans hk)) (h2.keep (HB.out.trans hk)) (by omega) (by omega)).mono fun e w1 h => RetDg.mono h hk)
  have GW := Lib.hid (fun k A3 c3 w' (hk : Keeps (((w.alloc (.cells #[.bool b1, .slice A n c] 97)).alloc (.cells #[.bool b2, .slice B m c2] 97)).alloc (.cells #[.bool false, .slice none 0 0] 97)) w') (hd : Dg w' A3 k c3 (dig (nv D * nv E))) => (new_any (!(b1 == b2)) _ A3 k c3 w' hd (by
    rw [← hd.len]
    have h3 : nv D * nv E < 4294967296 ^ (n + m) := by rw [Nat.pow_add]; exact Nat.mul_lt_mul'' (by have := nv_lt h.2; rwa [h.len] at this) (by have := nv_lt h2.2; rwa [h2.len] at this)
    have := dig_length h3
    omega)).mono fun e w1 h => RetBI.mono h hk)
  rw [nv_dig] at GW
  generalize nv D * nv E = x at *
  rw [show (b1 != b2) = !(b1 == b2) from rfl]
  generalize ((!(b1 == b2)) && decide (x ≠ 0)) = bb at *
  clear h h2
  go_enter Try.func75, Try.ntmps75
  go_wp2_with fail
  go_region_held3 (fun w' => w'.cell? ⟨w.heap.size, 0, none⟩ = some (.bool b1) ∧ w'.frozen? ⟨w.heap.size, 0, none⟩ = false ∧ w'.cell? ⟨w.heap.size, 1, none⟩ = some (.slice A n c) ∧ w'.frozen? ⟨w.heap.size, 1, none⟩ = false ∧ w'.cell? ⟨w.heap.size + 1, 0, none⟩ = some (.bool b2) ∧ w'.frozen? ⟨w.heap.size + 1, 0, none⟩ = false ∧ w'.cell? ⟨w.heap.size + 1, 1, none⟩ = some (.slice B m c2) ∧ w'.frozen? ⟨w.heap.size + 1, 1, none⟩ = false) (first | exact HT.out _ (by assumption) | exact HT.out _ (Keeps.drew (by assumption)) | exact HU.out _ _ _ (by assumption) | fail "KEEP")
    (first | ((go_at_call 83; (with_reducible refine (GM.out _ (by first | assumption | exact Keeps.drew (by assumption) | exact Keeps.drewN (by assumption) _)).mono ?_); intro e w3 hret; obtain ⟨A3, c3, rfl, hD3, hk, hF3⟩ := hret)) | ((go_at_call 82; (with_reducible refine (GW.out _ _ _ _ (by first | assumption | exact Keeps.drew (by assumption) | exact Keeps.drewN (by assumption) _) (by assumption)).mono ?_); intro e w4 hret; obtain ⟨A4, c4, rfl, hD4, hk, hF4⟩ := hret); obtain ⟨y0, y1, y2, y3, y4, y5, y6, y7, y8, y9, y10, y11⟩ := HS.out _ hk) | fail "ARM")
  go_wp2
  exact bodyPost_ret (v := .agg #[.bool bb, .slice A4 (dig x).length c4]) (by simp [results, Try.results75, go_sem, *]) rfl ⟨A4, c4, rfl, (hD4.far (hF4.ne (by simp)) _).far (hF4.ne (by simp)) _, (HB.out.trans hk).far2 (by omega) _ _, hF4.back HB.out⟩
end

section
open Go.RowKit
set_option linter.unusedVariables false
set_option linter.unusedSimpArgs false

def sgnI (b : Bool) (x : Nat) : Int := if x = 0 then 0 else if b then -1 else 1
set_option maxRecDepth 100000 in
set_option maxHeartbeats 2000000 in
theorem sign2_any (b : Bool) (D : List Nat) (A : Option Addr) (n c : Nat) (w : World) (h : Dg w A n c D) (hsm : n ≤ 1000) :
    Calls Try.prog 79 #[.agg #[.bool b, .slice A n c]] w fun e w' => e = .returned (.int .i64 (sgnI b (nv D))) ∧ Keeps w w' := by
  have HS := Lib.hid (show ∀ w', Keeps (w.alloc (.cells #[.bool b, .slice A n c] 97)) w' → w'.cell? ⟨w.heap.size, 0, none⟩ = some (.bool b) ∧ w'.frozen? ⟨w.heap.size, 0, none⟩ = false ∧ w'.cell? ⟨w.heap.size, 1, none⟩ = some (.slice A n c) ∧ w'.frozen? ⟨w.heap.size, 1, none⟩ = false from fun w' hk => ⟨(hk.cell (p := ⟨w.heap.size, 0, none⟩) (by first | (simp; done) | (simp; omega))).trans (by simp [go_sem]), (hk.frozen (p := ⟨w.heap.size, 0, none⟩) (by first | (simp; done) | (simp; omega))).trans (by simp [go_sem]), (hk.cell (p := ⟨w.heap.size, 1, none⟩) (by first | (simp; done) | (simp; omega))).trans (by simp [go_sem]), (hk.frozen (p := ⟨w.heap.size, 1, none⟩) (by first | (simp; done) | (simp; omega))).trans (by simp [go_sem])⟩)
  have HB := Lib.hid (show Keeps w (w.alloc (.cells #[.bool b, .slice A n c] 97)) from (by (repeat (first | (with_reducible exact Keeps.refl _) | (with_reducible assumption) | (with_reducible refine Keeps.drewN ?_ _) | (with_reducible refine Keeps.drew ?_) | (with_reducible refine Keeps.alloc ?_ _) | (with_reducible refine Keeps.setNew ?_ ?_ _))) <;> (dsimp only; omega)))
  have hk0 := Keeps.refl (w.alloc (.cells #[.bool b, .slice A n c] 97))
  have GW := Lib.hid (fun w' hk => (new_any b D A n c w' (h.keep (HB.out.trans hk)) hsm).mono fun e w1 h => RetBI.mono h hk)
  by_cases h0 : nv D = 0
  · have e1 : (b && decide (nv D ≠ 0)) = false := by rw [h0]; simp
    rw [show sgnI b (nv D) = 0 by unfold sgnI; rw [if_pos h0]]
    rw [e1, h0] at GW
    unfold RetBI at GW
    rw [dig_zero, List.length_nil] at GW
    clear h h0 e1
    go_enter Try.func79, Try.ntmps79
    go_wp2_with ((go_at_call 82; (with_reducible refine (GW.out _ (by first | assumption | exact Keeps.drew (by assumption) | exact Keeps.drewN (by assumption) _)).mono ?_); intro e w3 hret; obtain ⟨A3, c3, rfl, hD3, hk, hF3⟩ := hret); obtain ⟨y0, y1, y2, y3⟩ := HS.out _ hk)
    go_ret
    exact ⟨rfl, HB.out.trans (by (repeat (first | (with_reducible exact Keeps.refl _) | (with_reducible assumption) | (with_reducible refine Keeps.drewN ?_ _) | (with_reducible refine Keeps.drew ?_) | (with_reducible refine Keeps.alloc ?_ _) | (with_reducible refine Keeps.setNew ?_ ?_ _))) <;> (dsimp only; omega))⟩
  · have e1 : (b && decide (nv D ≠ 0)) = b := by simp [h0]
    obtain ⟨k, hk, hk0⟩ : ∃ k, (dig (nv D)).length = k ∧ 0 < k := ⟨_, rfl, dig_one_le (Nat.pos_of_ne_zero h0) rfl⟩
    rw [e1] at GW
    unfold RetBI at GW
    rw [hk] at GW
    cases b
    · rw [show sgnI false (nv D) = 1 by unfold sgnI; rw [if_neg h0]; rfl]
      clear h h0 e1 hk
      go_enter Try.func79, Try.ntmps79
      go_wp2_with ((go_at_call 82; (with_reducible refine (GW.out _ (by first | assumption | exact Keeps.drew (by assumption) | exact Keeps.drewN (by assumption) _)).mono ?_); intro e w3 hret; obtain ⟨A3, c3, rfl, hD3, hk, hF3⟩ := hret); obtain ⟨y0, y1, y2, y3⟩ := HS.out _ hk)
      go_ret
      exact ⟨rfl, HB.out.trans (by (repeat (first | (with_reducible exact Keeps.refl _) | (with_reducible assumption) | (with_reducible refine Keeps.drewN ?_ _) | (with_reducible refine Keeps.drew ?_) | (with_reducible refine Keeps.alloc ?_ _) | (with_reducible refine Keeps.setNew ?_ ?_ _))) <;> (dsimp only; omega))⟩
    · rw [show sgnI true (nv D) = -1 by unfold sgnI; rw [if_neg h0]; rfl]
      clear h h0 e1 hk
      go_enter Try.func79, Try.ntmps79
      go_wp2_with ((go_at_call 82; (with_reducible refine (GW.out _ (by first | assumption | exact Keeps.drew (by assumption) | exact Keeps.drewN (by assumption) _)).mono ?_); intro e w3 hret; obtain ⟨A3, c3, rfl, hD3, hk, hF3⟩ := hret); obtain ⟨y0, y1, y2, y3⟩ := HS.out _ hk)
      go_ret
      exact ⟨rfl, HB.out.trans (by (repeat (first | (with_reducible exact Keeps.refl _) | (with_reducible assumption) | (with_reducible refine Keeps.drewN ?_ _) | (with_reducible refine Keeps.drew ?_) | (with_reducible refine Keeps.alloc ?_ _) | (with_reducible refine Keeps.setNew ?_ ?_ _))) <;> (dsimp only; omega))⟩
end
end

section
section
open Go.RowKit
set_option linter.unusedVariables false
set_option linter.unusedSimpArgs false

def sgz (b : Bool) (x : Nat) : Int := if b then -(x : Int) else x
def toB (z : Int) : Bool := decide (-9223372036854775808 ≤ z ∧ z ≤ 9223372036854775807)
def toN (z : Int) : Int := if toB z then z else 0
theorem toN_out {z : Int} (h : toB z = false) : toN z = 0 := by unfold toN; rw [h]; rfl
theorem toN_in {z : Int} (h : toB z = true) : toN z = z := by unfold toN; rw [h]; rfl
theorem toB_big {b : Bool} {x : Nat} (h : 9223372036854775808 < x) : toB (sgz b x) = false := by
  unfold toB sgz; cases b <;> exact decide_eq_false (by simp; omega)
theorem or_low (p q : Nat) (hp : p < 4294967296) (hq : q < 4294967296) : bits .or .u64 (p : Int) ((q : Int) * 4294967296) = ((p + 4294967296 * q : Nat) : Int) := by
  have := u64_or_nat p (q * 4294967296) (by omega) (by omega)
  rw [show (((q * 4294967296 : Nat)) : Int) = (q : Int) * 4294967296 by simp] at this
  have h2 := Nat.two_pow_add_eq_or_of_lt (i := 32) (show p < 2 ^ 32 from hp) q
  rw [this, Nat.or_comm, Nat.mul_comm q, show (4294967296 : Nat) * q = 2 ^ 32 * q from rfl, ← h2]
  congr 1
  omega
set_option maxRecDepth 100000 in
set_option maxHeartbeats 2000000 in
theorem toint_any (b : Bool) (D : List Nat) (A : Option Addr) (n c : Nat) (w : World) (h : Dg w A n c D) (hsm : n ≤ 1000) :
    Calls Try.prog 77 #[.agg #[.bool b, .slice A n c]] w fun e w' => e = .returned (.tuple #[.int .i64 (toN (sgz b (nv D))), .bool (toB (sgz b (nv D)))]) ∧ Keeps w w' := by
  have HS := Lib.hid (show ∀ w', Keeps (w.alloc (.cells #[.bool b, .slice A n c] 97)) w' → w'.cell? ⟨w.heap.size, 0, none⟩ = some (.bool b) ∧ w'.frozen? ⟨w.heap.size, 0, none⟩ = false ∧ w'.cell? ⟨w.heap.size, 1, none⟩ = some (.slice A n c) ∧ w'.frozen? ⟨w.heap.size, 1, none⟩ = false from fun w' hk => ⟨(hk.cell (p := ⟨w.heap.size, 0, none⟩) (by first | (simp; done) | (simp; omega))).trans (by simp [go_sem]), (hk.frozen (p := ⟨w.heap.size, 0, none⟩) (by first | (simp; done) | (simp; omega))).trans (by simp [go_sem]), (hk.cell (p := ⟨w.heap.size, 1, none⟩) (by first | (simp; done) | (simp; omega))).trans (by simp [go_sem]), (hk.frozen (p := ⟨w.heap.size, 1, none⟩) (by first | (simp; done) | (simp; omega))).trans (by simp [go_sem])⟩)
  have HB := Lib.hid (show Keeps w (w.alloc (.cells #[.bool b, .slice A n c] 97)) from (by (repeat (first | (with_reducible exact Keeps.refl _) | (with_reducible assumption) | (with_reducible refine Keeps.drewN ?_ _) | (with_reducible refine Keeps.drew ?_) | (with_reducible refine Keeps.alloc ?_ _) | (with_reducible refine Keeps.setNew ?_ ?_ _))) <;> (dsimp only; omega)))
  have hk0 := Keeps.refl (w.alloc (.cells #[.bool b, .slice A n c] 97))
  have GW := Lib.hid (fun w' hk => (new_any b D A n c w' (h.keep (HB.out.trans hk)) hsm).mono fun e w1 h => RetBI.mono h hk)
  have hkn := dig_length (nv_lt h.2)
  rw [h.len] at hkn
  have hs : Hid (sgz b (nv D) = sgz (b && decide (nv D ≠ 0)) (nv D)) := by
    unfold Hid
    by_cases h0 : nv D = 0
    · rw [h0]; cases b <;> rfl
    · simp [h0]
  rw [hs.out]
  have hb0 : Hid ((b && decide (nv D ≠ 0)) = true → nv D ≠ 0) := by unfold Hid; intro h; simp at h; exact h.2
  generalize (b && decide (nv D ≠ 0)) = bb at *
  generalize nv D = x at *
  obtain ⟨k, hk⟩ : ∃ k, (dig x).length = k := ⟨_, rfl⟩
  have hk' := Lib.hid hk
  have hx : Hid (k ≤ 2 ↔ x < 18446744073709551616) := by
    unfold Hid
    constructor
    · intro h1
      have := nv_lt (isD_dig x)
      rw [nv_dig, hk] at this
      exact Nat.lt_of_lt_of_le this (show (4294967296 : Nat) ^ k ≤ 4294967296 ^ 2 from Nat.pow_le_pow_right (by omega) h1)
    · intro h1
      rw [← hk]; exact dig_length h1
  unfold RetBI at GW
  rw [hk] at GW
  rw [hk] at hkn
  clear h hk hs
  go_enter Try.func77, Try.ntmps77
  go_wp2_with ((go_at_call 82; (with_reducible refine (GW.out _ (by first | assumption | exact Keeps.drew (by assumption) | exact Keeps.drewN (by assumption) _)).mono ?_); intro e w3 hret; obtain ⟨A3, c3, rfl, hD3, hk, hF3⟩ := hret); obtain ⟨y0, y1, y2, y3⟩ := HS.out _ hk)
  have hD3' := Lib.hid hD3
  have hk3 := HB.out.trans hk
  have hk3' := Lib.hid hk3
  clear hD3 hk hk3 y0 y1 y2 y3 GW
  go_loop [5, 6] (fun u i => ∃ j : Nat, j ≤ k ∧ j ≤ 2 ∧ i = .int .i64 j ∧ u = .int .u64 ((nv ((dig x).take j) : Nat) : Int)) (fun _ i => k - (intOf i).toNat)
  case atStart => exact ⟨0, by omega, by omega, rfl, rfl⟩
  case round =>
    obtain ⟨j, hj, hj2, rfl, rfl⟩ := hrel
    by_cases hlt : j < k
    · have hT := Lib.hid (nv_take_succ (dig x) j)
      have bz := isD.getD (isD_dig x) j
      have hz := nv_lt ((isD_dig x).take j)
      obtain ⟨b', o', rfl, hb', hc⟩ := hD3'.out.at_ (k := j) hlt
      generalize (dig x).getD j 0 = z at *
      generalize hU : nv ((dig x).take j) = U at *
      by_cases h2 : j = 2
      · subst h2
        have e1 : toB (sgz bb x) = false := toB_big (by have := hx.out; omega)
        have e2 := toN_out e1
        have E1 := Lib.hid e1
        have E2 := Lib.hid e2
        clear e1 e2
        clear hU hz
        go_wp2
        go_ret2
        exact ⟨by rw [E1.out, E2.out]; rfl, hk3'.out.alloc _⟩
      · by_cases h1 : j = 1
        · subst h1
          have hz' : U < 4294967296 := by
            rw [List.length_take] at hz
            exact Nat.lt_of_lt_of_le hz (show 4294967296 ^ min 1 (dig x).length ≤ 4294967296 ^ 1 from Nat.pow_le_pow_right (by omega) (by omega))
          have fo := or_low U z hz' bz
          clear hU hz
          go_wp2
          go_round
          case rel => exact ⟨2, by omega, by omega, rfl, by rw [hT.out]; go_num⟩
          case measure => simp [intOf]; omega
        · have h0 : j = 0 := by omega
          subst h0
          have hz' : U = 0 := by rw [← hU]; rfl
          subst hz'
          have fo : bits .or .u64 0 (z : Int) = (z : Int) := by have := u64_or_nat 0 z (by omega) (by omega); rwa [Nat.zero_or] at this
          rw [Nat.add_zero] at hc
          clear hU hz h1 h2
          go_wp2
          go_round
          case rel => exact ⟨1, by omega, by omega, rfl, by rw [hT.out]; go_num⟩
          case measure => simp [intOf]; omega
    · obtain rfl : j = k := by omega
      rw [nv_take_all _ (by rw [hk'.out]; exact Nat.le_refl _), nv_dig]
      have hx2 : x < 18446744073709551616 := hx.out.1 hj2
      cases bb
      · clear hx2
        by_cases hs : x < 9223372036854775808
        · have e1 : toB (sgz false x) = true := by unfold toB sgz; exact decide_eq_true (by simp; omega)
          have t1 : decide ((x : Int) < 9223372036854775808) = true := decide_eq_true (by omega)
          have t2 : decide (x < 9223372036854775808) = true := decide_eq_true (by omega)
          have f1 : IntKind.i64.wrap (x : Int) = x := by rw [IntKind.wrap_i64]; omega
          clear hs
          have e2 := toN_in e1
          have E1 := Lib.hid e1
          have E2 := Lib.hid (e2.trans (show sgz false x = (x : Int) from rfl))
          clear e1 e2
          go_wp2
          go_ret2
          exact ⟨by rw [E1.out, E2.out]; rfl, hk3'.out.alloc _⟩
        · have e1 : toB (sgz false x) = false := by unfold toB sgz; exact decide_eq_false (by simp; omega)
          have t1 : decide ((x : Int) < 9223372036854775808) = false := decide_eq_false (by omega)
          have t2 : decide (x < 9223372036854775808) = false := decide_eq_false (by omega)
          clear hs
          have e2 := toN_out e1
          have E1 := Lib.hid e1
          have E2 := Lib.hid e2
          clear e1 e2
          go_wp2
          go_ret2
          exact ⟨by rw [E1.out, E2.out]; rfl, hk3'.out.alloc _⟩
      · have hx0 : 0 < x := Nat.pos_of_ne_zero (hb0.out rfl)
        by_cases hs : x ≤ 9223372036854775808
        · have e1 : toB (sgz true x) = true := by unfold toB sgz; exact decide_eq_true (by simp; omega)
          have e2 := toN_in e1
          have E1 := Lib.hid e1
          have E2 := Lib.hid (e2.trans (show sgz true x = -(x : Int) from rfl))
          clear e1 e2
          have f1 : IntKind.u64.wrap (-(x : Int)) = 18446744073709551616 - x := by rw [IntKind.wrap_u64]; omega
          have f2 : IntKind.i64.wrap (18446744073709551616 - (x : Int)) = -x := by rw [IntKind.wrap_i64]; omega
          go_wp2
          go_ret2
          exact ⟨by rw [E1.out, E2.out]; rfl, hk3'.out.alloc _⟩
        · have e1 : toB (sgz true x) = false := toB_big (by omega)
          have e2 := toN_out e1
          have E1 := Lib.hid e1
          have E2 := Lib.hid e2
          clear e1 e2
          go_wp2
          go_ret2
          exact ⟨by rw [E1.out, E2.out]; rfl, hk3'.out.alloc _⟩
end

section
open Go.RowKit
set_option linter.unusedVariables false
set_option linter.unusedSimpArgs false

/-- An api.Int in new memory, and no error. -/
def RetBIE (w0 : World) (b : Bool) (x : Nat) (e : Ending) (w' : World) : Prop :=
  ∃ A c, e = .returned (.tuple #[.agg #[.bool b, .slice A (dig x).length c], .int .i64 0]) ∧ Dg w' A (dig x).length c (dig x) ∧ Keeps w0 w' ∧ Fr w0 A
theorem sgnI_ne {b : Bool} {x : Nat} (h : x ≠ 0) : (sgnI b x == 0) = false := by
  unfold sgnI; rw [if_neg h]; cases b <;> rfl
theorem add_len {D E : List Nat} {n m k : Nat} (hD : isD D) (hE : isD E) (hn : D.length = n) (hm : E.length = m) (h1 : n ≤ k) (h2 : m ≤ k) : (dig (nv D + nv E)).length ≤ k + 1 := by
  apply dig_length
  have a := nv_lt hD
  have b := nv_lt hE
  rw [hn] at a
  rw [hm] at b
  have c := Nat.pow_le_pow_right (show 0 < 4294967296 by omega) h1
  have d := Nat.pow_le_pow_right (show 0 < 4294967296 by omega) h2
  rw [pow_succ32]
  omega
set_option maxRecDepth 100000 in
set_option maxHeartbeats 4000000 in
theorem divround2_any (b1 b2 : Bool) (D E : List Nat) (A B : Option Addr) (n c m c2 : Nat) (w : World) (h : Dg w A n c D) (h2 : Dg w B m c2 E) (hsm : n ≤ 90) (hsm2 : m ≤ 90) (hE : nv E ≠ 0) :
    Calls Try.prog 74 #[.agg #[.bool b1, .slice A n c], .agg #[.bool b2, .slice B m c2]] w (RetBIE w ((b1 != b2) && decide ((2 * nv D + nv E) / (2 * nv E) ≠ 0)) ((2 * nv D + nv E) / (2 * nv E))) := by
  have HS := Lib.hid (show ∀ w', Keeps (((w.alloc (.cells #[.bool b1, .slice A n c] 97)).alloc (.cells #[.bool b2, .slice B m c2] 97)).alloc (.cells #[.bool false, .slice none 0 0] 97)) w' → w'.cell? ⟨w.heap.size, 0, none⟩ = some (.bool b1) ∧ w'.frozen? ⟨w.heap.size, 0, none⟩ = false ∧ w'.cell? ⟨w.heap.size, 1, none⟩ = some (.slice A n c) ∧ w'.frozen? ⟨w.heap.size, 1, none⟩ = false ∧ w'.cell? ⟨w.heap.size + 1, 0, none⟩ = some (.bool b2) ∧ w'.frozen? ⟨w.heap.size + 1, 0, none⟩ = false ∧ w'.cell? ⟨w.heap.size + 1, 1, none⟩ = some (.slice B m c2) ∧ w'.frozen? ⟨w.heap.size + 1, 1, none⟩ = false ∧ w'.cell? ⟨w.heap.size + 1 + 1, 0, none⟩ = some (.bool false) ∧ w'.frozen? ⟨w.heap.size + 1 + 1, 0, none⟩ = false ∧ w'.cell? ⟨w.heap.size + 1 + 1, 1, none⟩ = some (.slice none 0 0) ∧ w'.frozen? ⟨w.heap.size + 1 + 1, 1, none⟩ = false from fun w' hk => ⟨(hk.cell (p := ⟨w.heap.size, 0, none⟩) (by first | (simp; done) | (simp; omega))).trans (by simp [go_sem]), (hk.frozen (p := ⟨w.heap.size, 0, none⟩) (by first | (simp; done) | (simp; omega))).trans (by simp [go_sem]), (hk.cell (p := ⟨w.heap.size, 1, none⟩) (by first | (simp; done) | (simp; omega))).trans (by simp [go_sem]), (hk.frozen (p := ⟨w.heap.size, 1, none⟩) (by first | (simp; done) | (simp; omega))).trans (by simp [go_sem]), (hk.cell (p := ⟨w.heap.size + 1, 0, none⟩) (by first | (simp; done) | (simp; omega))).trans (by simp [go_sem]), (hk.frozen (p := ⟨w.heap.size + 1, 0, none⟩) (by first | (simp; done) | (simp; omega))).trans (by simp [go_sem]), (hk.cell (p := ⟨w.heap.size + 1, 1, none⟩) (by first | (simp; done) | (simp; omega))).trans (by simp [go_sem]), (hk.frozen (p := ⟨w.heap.size + 1, 1, none⟩) (by first | (simp; done) | (simp; omega))).trans (by simp [go_sem]), (hk.cell (p := ⟨w.heap.size + 1 + 1, 0, none⟩) (by first | (simp; done) | (simp; omega))).trans (by simp [go_sem]), (hk.frozen (p := ⟨w.heap.size + 1 + 1, 0, none⟩) (by first | (simp; done) | (simp; omega))).trans (by simp [go_sem]), (hk.cell (p := ⟨w.heap.size + 1 + 1, 1, none⟩) (by first | (simp; done) | (simp; omega))).trans (by simp [go_sem]), (hk.frozen (p := ⟨w.heap.size + 1 + 1, 1, none⟩) (by first | (simp; done) | (simp; omega))).trans (by simp [go_sem])⟩)
  have HB := Lib.hid (show Keeps w (((w.alloc (.cells #[.bool b1, .slice A n c] 97)).alloc (.cells #[.bool b2, .slice B m c2] 97)).alloc (.cells #[.bool false, .slice none 0 0] 97)) from (by (repeat (first | (with_reducible exact Keeps.refl _) | (with_reducible assumption) | (with_reducible refine Keeps.drewN ?_ _) | (with_reducible refine Keeps.drew ?_) | (with_reducible refine Keeps.alloc ?_ _) | (with_reducible refine Keeps.setNew ?_ ?_ _))) <;> (dsimp only; omega)))
  have hk0 := Keeps.refl (((w.alloc (.cells #[.bool b1, .slice A n c] 97)).alloc (.cells #[.bool b2, .slice B m c2] 97)).alloc (.cells #[.bool false, .slice none 0 0] 97))
  have HT := Lib.hid (fun w' hk => have T := HS.out w' hk; And.intro T.1 (And.intro T.2.1 (And.intro T.2.2.1 (And.intro T.2.2.2.1 (And.intro T.2.2.2.2.1 (And.intro T.2.2.2.2.2.1 (And.intro T.2.2.2.2.2.2.1 T.2.2.2.2.2.2.2.1)))))))
  have G0 := Lib.hid (fun w' hk => (sign2_any b2 E B m c2 w' (h2.keep (HB.out.trans hk)) (by omega)))
  have hsg := sgnI_ne (b := b2) hE
  generalize sgnI b2 (nv E) = sg at *
  have G1 := Lib.hid (fun w' hk => (add1_any D D A A n c n c w' (h.keep (HB.out.trans hk)) (h.keep (HB.out.trans hk)) (by omega) (by omega)))
  have L1 := add_len h.2 h.2 h.len h.len (show n ≤ 90 by omega) (show n ≤ 90 by omega)
  have G2 := Lib.hid (fun A3 k3 c3 w' (h3 : Dg w' A3 k3 c3 (dig (nv D + nv D))) hk => (add1_any _ E A3 B k3 c3 m c2 w' h3 (h2.keep (HB.out.trans hk)) (by rw [← h3.len]; omega) (by omega)))
  have L2 := add_len (isD_dig (nv D + nv D)) h2.2 rfl h2.len (show (dig (nv D + nv D)).length ≤ 91 by omega) (show m ≤ 91 by omega)
  have G3 := Lib.hid (fun w' hk => (add1_any E E B B m c2 m c2 w' (h2.keep (HB.out.trans hk)) (h2.keep (HB.out.trans hk)) (by omega) (by omega)))
  have L3 := add_len h2.2 h2.2 h2.len h2.len (show m ≤ 90 by omega) (show m ≤ 90 by omega)
  rw [nv_dig] at G2 L2
  have G4 := Lib.hid (fun A4 k4 c4 A5 k5 c5 w' (h4 : Dg w' A4 k4 c4 (dig (nv D + nv D + nv E))) (h5 : Dg w' A5 k5 c5 (dig (nv E + nv E))) => (divmod1_any _ _ A4 A5 k4 c4 k5 c5 w' h4 h5 (by rw [← h4.len]; omega) (by rw [← h5.len]; omega) (by rw [nv_dig]; omega)))
  simp only [nv_dig] at G4
  rw [show nv D + nv D + nv E = 2 * nv D + nv E by omega, show nv E + nv E = 2 * nv E by omega] at G4
  rw [show nv D + nv D + nv E = 2 * nv D + nv E by omega] at G2 L2
  rw [show nv E + nv E = 2 * nv E by omega] at G3 L3
  rw [show nv D + nv D = 2 * nv D by omega] at G1 G2 L1
  have L4 := Lib.hid (show (dig ((2 * nv D + nv E) / (2 * nv E))).length ≤ 92 by
    apply dig_length
    have := nv_lt (isD_dig (2 * nv D + nv E))
    rw [nv_dig] at this
    exact Nat.lt_of_le_of_lt (Nat.div_le_self _ _) (Nat.lt_of_lt_of_le this (Nat.pow_le_pow_right (by omega) (by omega))))
  generalize hq : (2 * nv D + nv E) / (2 * nv E) = q at *
  generalize (2 * nv D + nv E) % (2 * nv E) = r at *
  have G5 := Lib.hid (fun A6 k6 c6 w' (h6 : Dg w' A6 k6 c6 (dig q)) => new_any (!(b1 == b2)) _ A6 k6 c6 w' h6 (by rw [← h6.len]; have := L4.out; omega))
  rw [nv_dig] at G5
  rw [show (b1 != b2) = !(b1 == b2) from rfl]
  generalize ((!(b1 == b2)) && decide (q ≠ 0)) = bb at *
  generalize 2 * nv D + nv E = x at *
  generalize 2 * nv D = x2 at *
  generalize 2 * nv E = x3 at *
  clear h h2 hq hE L1 L2 L3 L4
  go_enter Try.func74, Try.ntmps74
  go_wp2_with (go_at_call 79; (with_reducible refine (G0.out _ (by first | assumption | exact Keeps.drew (by assumption) | exact Keeps.drewN (by assumption) _)).mono ?_); rintro e w1 ⟨rfl, hk1⟩; obtain ⟨y0, y1, y2, y3, y4, y5, y6, y7, y8, y9, y10, y11⟩ := HS.out _ hk1)
  go_region_held3 (fun w' => w'.cell? ⟨w.heap.size, 0, none⟩ = some (.bool b1) ∧ w'.frozen? ⟨w.heap.size, 0, none⟩ = false ∧ w'.cell? ⟨w.heap.size, 1, none⟩ = some (.slice A n c) ∧ w'.frozen? ⟨w.heap.size, 1, none⟩ = false ∧ w'.cell? ⟨w.heap.size + 1, 0, none⟩ = some (.bool b2) ∧ w'.frozen? ⟨w.heap.size + 1, 0, none⟩ = false ∧ w'.cell? ⟨w.heap.size + 1, 1, none⟩ = some (.slice B m c2) ∧ w'.frozen? ⟨w.heap.size + 1, 1, none⟩ = false) (first | exact HT.out _ (by assumption) | exact HT.out _ (Keeps.drew (by assumption)) | fail "KEEP")
    (first | (go_at_call 81; (with_reducible refine (G1.out _ (by first | assumption | exact Keeps.drew (by assumption) | exact Keeps.drewN (by assumption) _)).mono ?_); intro e w3 hret; obtain ⟨A3, c3, rfl, hD3, hk3, hF3⟩ := hret; have hk3 := Keeps.trans (Keeps.drew hk1) hk3)     | (go_at_call 81; (with_reducible refine (G2.out _ _ _ _ hD3 hk3).mono ?_); intro e w4 hret; obtain ⟨A4, c4, rfl, hD4, hk4, hF4⟩ := hret; have hk4 := Keeps.trans hk3 hk4)     | (go_at_call 81; (with_reducible refine (G3.out _ hk4).mono ?_); intro e w5 hret; obtain ⟨A5, c5, rfl, hD5, hk5, hF5⟩ := hret; have hD45 := hD4.keep hk5; have hk5 := Keeps.trans hk4 hk5)     | (go_at_call 80; (with_reducible refine (G4.out _ _ _ _ _ _ _ hD45 hD5).mono ?_); intro e w6 hret; obtain ⟨A6, c6, A7, c7, rfl, hD6, hD7, hk6⟩ := hret; have hk6 := Keeps.trans hk5 hk6; obtain ⟨z0, z1, z2, z3, z4, z5, z6, z7, z8, z9, z10, z11⟩ := HS.out _ hk6) | fail "ARM")
  go_wp2_with (go_at_call 82; (with_reducible refine (G5.out _ _ _ _ hD6).mono ?_); intro e w8 hret; obtain ⟨A8, c8, rfl, hD8, hk8, hF8⟩ := hret; have hk9 := Keeps.trans hk6 hk8; obtain ⟨v0, v1, v2, v3, v4, v5, v6, v7, v8, v9, v10, v11⟩ := HS.out _ hk9)
  have hF9 := hF8.back hk6
  exact bodyPost_ret (v := .tuple #[.agg #[.bool bb, .slice A8 (dig q).length c8], .int .i64 0]) (by simp [results, Try.results74, go_sem, *]) rfl ⟨A8, c8, rfl, (hD8.far (hF9.ne (by simp)) _).far (hF9.ne (by simp)) _, (HB.out.trans hk9).far2 (by omega) _ _, hF9.back HB.out⟩
end
end

section
open Go.RowKit
set_option linter.unusedVariables false
set_option linter.unusedSimpArgs false

theorem mdr_ref {a b c : Int} (hc : c ≠ 0) (bb : Bool) (q : Nat) (hq : (2 * (a.natAbs * b.natAbs) + c.natAbs) / (2 * c.natAbs) = q)
    (hb : ((((decide (a < 0) != decide (b < 0)) && decide (a.natAbs * b.natAbs ≠ 0)) != decide (c < 0)) && decide (q ≠ 0)) = bb) : sgz bb q = mdrQ a b c := by
  subst hb
  have e : rndN (a.natAbs * b.natAbs) c.natAbs = q := hq
  unfold mdrQ
  rw [e]
  by_cases h0 : q = 0
  · subst h0; unfold sgz; simp
  · have hp : a.natAbs * b.natAbs ≠ 0 := by
      intro h
      rw [h] at hq
      have : c.natAbs / (2 * c.natAbs) = 0 := Nat.div_eq_of_lt (by omega)
      rw [Nat.mul_zero, Nat.zero_add, this] at hq
      exact h0 hq.symm
    unfold sgz mdrNeg
    rw [decide_eq_true hp, decide_eq_true h0, Bool.and_true, Bool.and_true]
theorem mdrB_of {a b c : Int} (hc : c ≠ 0) : mdrB a b c = toB (mdrQ a b c) := by
  unfold mdrB toB; rw [Bool.eq_iff_iff, decide_eq_true_iff, decide_eq_true_iff]
  exact ⟨fun h => h.2, fun h => ⟨hc, h⟩⟩
set_option maxRecDepth 100000 in
set_option maxHeartbeats 4000000 in
theorem rmuldiv_any (a b c : Int) (w : World) (a0 : -9223372036854775808 ≤ a) (a1 : a ≤ 9223372036854775807) (b0 : -9223372036854775808 ≤ b) (b1 : b ≤ 9223372036854775807) (c0 : -9223372036854775808 ≤ c) (c1 : c ≤ 9223372036854775807) :
    Calls Try.prog 68 #[.int .i64 a, .int .i64 b, .int .i64 c] w fun e w' => e = .returned (.tuple #[.int .i64 (mdrN a b c), .bool (mdrB a b c)]) ∧ Keeps w w' := by
  have hk0 := Keeps.refl w
  by_cases hc : c = 0
  · subst hc
    rw [mdrB_zero a b, mdrN_no a b 0 (mdrB_zero a b)]
    go_enter Try.func68, Try.ntmps68
    go_wp2
    go_ret2
    exact ⟨rfl, hk0⟩
  · have la : (dig a.natAbs).length ≤ 2 := dig_length (show a.natAbs < 4294967296 ^ 2 by omega)
    have lb : (dig b.natAbs).length ≤ 2 := dig_length (show b.natAbs < 4294967296 ^ 2 by omega)
    have lc : (dig c.natAbs).length ≤ 2 := dig_length (show c.natAbs < 4294967296 ^ 2 by omega)
    have lp : (dig (a.natAbs * b.natAbs)).length ≤ 4 := dig_length (Nat.lt_of_lt_of_le (Nat.mul_lt_mul'' (show a.natAbs < 18446744073709551616 by omega) (show b.natAbs < 18446744073709551616 by omega)) (by decide))
    have lq : (dig ((2 * (a.natAbs * b.natAbs) + c.natAbs) / (2 * c.natAbs))).length ≤ 90 := by
      have hp := Nat.mul_lt_mul'' (show a.natAbs < 18446744073709551616 by omega) (show b.natAbs < 18446744073709551616 by omega)
      have := dig_length (n := (2 * (a.natAbs * b.natAbs) + c.natAbs) / (2 * c.natAbs)) (k := 5) (Nat.lt_of_le_of_lt (Nat.div_le_self _ _) (by
        have : (18446744073709551616 * 18446744073709551616 : Nat) * 4 ≤ 4294967296 ^ 5 := by decide
        omega))
      omega
    have G1 := Lib.hid (fun w' hk => (fromint_any a w' a0 a1).mono fun e w1 h => RetBI.mono (w0 := w) h hk)
    have G2 := Lib.hid (fun w' => fromint_any b w' b0 b1)
    have G3 := Lib.hid (fun w' => fromint_any c w' c0 c1)
    have G4 := Lib.hid (fun A1 c1 A2 c2 w' (h1 : Dg w' A1 (dig a.natAbs).length c1 (dig a.natAbs)) (h2 : Dg w' A2 (dig b.natAbs).length c2 (dig b.natAbs)) => mul2_any (decide (a < 0)) (decide (b < 0)) _ _ A1 A2 _ c1 _ c2 w' h1 h2 (by omega) (by omega))
    have G5 := Lib.hid (fun A3 c3 A4 c4 w' (h3 : Dg w' A3 (dig (a.natAbs * b.natAbs)).length c3 (dig (a.natAbs * b.natAbs))) (h4 : Dg w' A4 (dig c.natAbs).length c4 (dig c.natAbs)) => divround2_any ((decide (a < 0) != decide (b < 0)) && decide (a.natAbs * b.natAbs ≠ 0)) (decide (c < 0)) _ _ A3 A4 _ c3 _ c4 w' h3 h4 (by omega) (by omega) (by rw [nv_dig]; omega))
    simp only [nv_dig] at G4 G5
    have hR := mdrB_of (a := a) (b := b) hc
    obtain ⟨q, hq⟩ : ∃ q, (2 * (a.natAbs * b.natAbs) + c.natAbs) / (2 * c.natAbs) = q := ⟨_, rfl⟩
    obtain ⟨bb, hbb⟩ : ∃ bb, ((((decide (a < 0) != decide (b < 0)) && decide (a.natAbs * b.natAbs ≠ 0)) != decide (c < 0)) && decide (q ≠ 0)) = bb := ⟨_, rfl⟩
    have hS := mdr_ref hc bb q hq hbb
    rw [hq] at G5 lq
    rw [hbb] at G5
    have hN : mdrN a b c = toN (sgz bb q) := by unfold mdrN toN; rw [hR, hS]
    rw [hN, hR, ← hS]
    have G6 := Lib.hid (fun A5 c5 w' (h5 : Dg w' A5 (dig q).length c5 (dig q)) => toint_any bb _ A5 _ c5 w' h5 (by omega))
    rw [nv_dig] at G6
    generalize toN (sgz bb q) = vN at *
    generalize toB (sgz bb q) = vB at *
    have tc : (c == 0) = false := by simp [hc]
    generalize ((decide (a < 0) != decide (b < 0)) && decide (a.natAbs * b.natAbs ≠ 0)) = bM at *
    generalize decide (a < 0) = ba at *
    generalize decide (b < 0) = bq at *
    generalize decide (c < 0) = bc at *
    generalize a.natAbs * b.natAbs = p at *
    clear hq hbb hS hN hR hc la lb lc lp lq
    go_enter Try.func68, Try.ntmps68
    go_wp2_with (first | (go_at_call 76; (with_reducible refine (G1.out _ hk0).mono ?_); intro e w1 hret; obtain ⟨A1, c1', rfl, hD1, hk1, hF1⟩ := hret)       | (go_at_call 76; (with_reducible refine (G2.out _).mono ?_); intro e w2 hret; obtain ⟨A2, c2', rfl, hD2, hk2, hF2⟩ := hret; have hD12 := hD1.keep hk2; have hk2 := Keeps.trans hk1 hk2)       | (go_at_call 75; (with_reducible refine (G4.out _ _ _ _ _ hD12 hD2).mono ?_); intro e w3 hret; obtain ⟨A3, c3', rfl, hD3, hk3, hF3⟩ := hret; have hk3 := Keeps.trans hk2 hk3)       | (go_at_call 76; (with_reducible refine (G3.out _).mono ?_); intro e w4 hret; obtain ⟨A4, c4', rfl, hD4, hk4, hF4⟩ := hret; have hD34 := hD3.keep hk4; have hk4 := Keeps.trans hk3 hk4)       | (go_at_call 74; (with_reducible refine (G5.out _ _ _ _ _ hD34 hD4).mono ?_); intro e w5 hret; obtain ⟨A5, c5', rfl, hD5, hk5, hF5⟩ := hret; have hk5 := Keeps.trans hk4 hk5)       | (go_at_call 77; (with_reducible refine (G6.out _ _ _ (hD5.keep (Keeps.alloc (Keeps.refl _) _))).mono ?_); rintro e w6 ⟨rfl, hk6⟩; have hk7 := Keeps.trans (Keeps.alloc hk5 _) hk6))
    go_ret2
    exact ⟨rfl, by assumption⟩
theorem rdvr_any (a b : Int) (w : World) (a0 : -9223372036854775808 ≤ a) (a1 : a ≤ 9223372036854775807) (b0 : -9223372036854775808 ≤ b) (b1 : b ≤ 9223372036854775807) :
    Calls Try.prog 60 #[.int .i64 a, .int .i64 b] w fun e w' => e = .returned (.int .i64 (dvr a b)) ∧ Keeps w w' := by
  have G1 := Lib.hid (rmuldiv_any a 1 b w a0 a1 (by omega) (by omega) b0 b1)
  rw [show mdrN a 1 b = dvr a b from rfl] at G1
  go_enter Try.func60, Try.ntmps60
  go_wp2_with (go_at_call 68; (with_reducible refine G1.out.mono ?_); rintro e w1 ⟨rfl, hk⟩)
  go_ret
  exact ⟨rfl, by assumption⟩
end
end Go.Proofs.Ytihmhpleiefodaa
