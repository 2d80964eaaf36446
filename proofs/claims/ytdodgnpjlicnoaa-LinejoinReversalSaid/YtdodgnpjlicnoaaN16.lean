/- Contracts of reference 02: Sign. -/
import Derived.Test.YtdodgnpjlicnoaaN12
import Derived.Deep.RegionHeld3
namespace Go.Proofs.Ytdodgnpjlicnoaa
section
open Go.RowKit
set_option linter.unusedVariables false
set_option linter.unusedSimpArgs false

/-- An api.Int in new memory. -/
def RetBI (w0 : World) (b : Bool) (x : Nat) (e : Ending) (w' : World) : Prop :=
  ∃ A c, e = .returned (.agg #[.bool b, .slice A (dig x).length c]) ∧ Dg w' A (dig x).length c (dig x) ∧ Keeps w0 w' ∧ Fr w0 A
theorem RetBI.mono {w0 w1 w' : World} {b : Bool} {x : Nat} {e : Ending} (h : RetBI w1 b x e w') (hk : Keeps w0 w1) : RetBI w0 b x e w' := by
  obtain ⟨A, c, he, hd, hk1, hf⟩ := h
  exact ⟨A, c, he, hd, hk.trans hk1, hf.back hk⟩
theorem Fr.ne {w : World} {A : Option Addr} {g : Nat} (h : Fr w A) (hg : g < w.heap.size) : ∀ a, A = some a → a.block ≠ g := fun a e h2 => by have := h a e; omega
theorem Keeps.far2 {w w2 : World} {g : Nat} (hk : Keeps w w2) (hg : w.heap.size ≤ g) (u v : Value) : Keeps w ((w2.setCell ⟨g, 0, none⟩ u).setCell ⟨g, 1, none⟩ v) :=
  (hk.setNew hg u).setNew hg v
set_option maxRecDepth 100000 in
set_option maxHeartbeats 1000000 in
theorem new_any (neg : Bool) (D : List Nat) (A : Option Addr) (n c : Nat) (w : World) (h : Dg w A n c D) (hsm : n ≤ 1000) :
    Calls Try.prog 86 #[.bool neg, .slice A n c] w (RetBI w (neg && decide (nv D ≠ 0)) (nv D)) := by
  have HS := Lib.hid (show ∀ w', Keeps (w.alloc (.cells #[.bool false, .slice none 0 0] 74)) w' → w'.cell? ⟨w.heap.size, 0, none⟩ = some (.bool false) ∧ w'.frozen? ⟨w.heap.size, 0, none⟩ = false ∧ w'.cell? ⟨w.heap.size, 1, none⟩ = some (.slice none 0 0) ∧ w'.frozen? ⟨w.heap.size, 1, none⟩ = false from fun w' hk => ⟨(hk.cell (p := ⟨w.heap.size, 0, none⟩) (by first | (simp; done) | (simp; omega))).trans (by simp [go_sem]), (hk.frozen (p := ⟨w.heap.size, 0, none⟩) (by first | (simp; done) | (simp; omega))).trans (by simp [go_sem]), (hk.cell (p := ⟨w.heap.size, 1, none⟩) (by first | (simp; done) | (simp; omega))).trans (by simp [go_sem]), (hk.frozen (p := ⟨w.heap.size, 1, none⟩) (by first | (simp; done) | (simp; omega))).trans (by simp [go_sem])⟩)
  have HB := Lib.hid (show Keeps w (w.alloc (.cells #[.bool false, .slice none 0 0] 74)) from (by (repeat (first | (with_reducible exact Keeps.refl _) | (with_reducible assumption) | (with_reducible refine Keeps.drewN ?_ _) | (with_reducible refine Keeps.drew ?_) | (with_reducible refine Keeps.alloc ?_ _) | (with_reducible refine Keeps.setNew ?_ ?_ _))) <;> (dsimp only; omega)))
  have hk0 := Keeps.refl (w.alloc (.cells #[.bool false, .slice none 0 0] 74))
  have GN := Lib.hid (normalize_any D A n c _ (h.keep HB.out) (by omega))
  obtain ⟨k, hk⟩ : ∃ k, (dig (nv D)).length = k := ⟨_, rfl⟩
  unfold RetDg at GN
  unfold RetBI
  rw [hk] at GN
  rw [hk]
  have hk0' : k = 0 ↔ nv D = 0 := by
    rw [← hk]; exact ⟨fun e => dig_nil.1 (List.eq_nil_of_length_eq_zero e), fun e => by rw [dig_nil.2 e]; rfl⟩
  have hb : Hid ((neg && decide (nv D ≠ 0)) = (neg && decide (0 < k))) := by
    unfold Hid; congr 1; rw [Bool.eq_iff_iff, decide_eq_true_iff, decide_eq_true_iff]; omega
  rw [hb.out]
  clear hk hk0' h
  have hF' := fun {A : Option Addr} (h : Fr (w.alloc (.cells #[.bool false, .slice none 0 0] 74)) A) => h.ne (g := w.heap.size) (by simp)
  cases neg
  · go_enter Try.func86, Try.ntmps86
    go_wp2_with (go_at_call 113; (with_reducible refine GN.out.mono ?_); intro e w2 hret; obtain ⟨A2, c2, rfl, hD2, hk, hF2⟩ := hret; have hk := hk; obtain ⟨y0, y1, y2, y3⟩ := HS.out _ hk)
    have hkk := HB.out.trans hk
    exact bodyPost_ret (v := .agg #[.bool false, .slice A2 k c2]) (by simp [results, Try.results86, go_sem, *]) rfl ⟨A2, c2, by simp, (hD2.far (hF' hF2) _).far (hF' hF2) _, hkk.far2 (Nat.le_refl _) _ _, hF2.back HB.out⟩
  · by_cases h0 : 0 < k
    all_goals
      go_enter Try.func86, Try.ntmps86
      go_wp2_with (go_at_call 113; (with_reducible refine GN.out.mono ?_); intro e w2 hret; obtain ⟨A2, c2, rfl, hD2, hk, hF2⟩ := hret; have hk := hk; obtain ⟨y0, y1, y2, y3⟩ := HS.out _ hk)
      have hkk := HB.out.trans hk
      exact bodyPost_ret (v := .agg #[.bool (decide (0 < k)), .slice A2 k c2]) (by simp [results, Try.results86, go_sem, *]) rfl ⟨A2, c2, by simp, (hD2.far (hF' hF2) _).far (hF' hF2) _, hkk.far2 (Nat.le_refl _) _ _, hF2.back HB.out⟩
end

section
open Go.RowKit
set_option linter.unusedVariables false
set_option linter.unusedSimpArgs false

theorem two_digits (m : Nat) (h : m < 18446744073709551616) : isD [m % 4294967296, m / 4294967296] ∧ nv [m % 4294967296, m / 4294967296] = m :=
  ⟨isD_cons (by omega) (isD.one (by omega)), by simp [nv]; omega⟩
theorem lit2 (W : World) (T : TypeId) (x y g : Nat) (a b : Int) (ha : a = x) (hb : b = y) (hx : x < 4294967296) (hy : y < 4294967296) (hg : g = W.heap.size) :
    Dg (W.alloc (.cells #[.int .u32 a, .int .u32 b] T)) (some ⟨g, 0, none⟩) 2 2 [x, y] := by
  subst ha hb hg
  exact Dg.of_own' (D := [x, y]) (World.ownsRow_lit (base := 0) W #[.int .u32 (x : Int), .int .u32 (y : Int)] 2 (Nat.zero_le _) (by unfold maxLen; omega) (by simp)) (isD_cons hx (isD.one hy))
set_option maxRecDepth 100000 in
set_option maxHeartbeats 1000000 in
theorem fromint_any (n : Int) (w : World) (h0 : -9223372036854775808 ≤ n) (h1 : n ≤ 9223372036854775807) :
    Calls Try.prog 51 #[.int .i64 n] w (RetBI w (decide (n < 0)) n.natAbs) := by
  have HS := Lib.hid (show ∀ w', Keeps (w.alloc (.cells #[.bool false, .slice none 0 0] 74)) w' → w'.cell? ⟨w.heap.size, 0, none⟩ = some (.bool false) ∧ w'.frozen? ⟨w.heap.size, 0, none⟩ = false ∧ w'.cell? ⟨w.heap.size, 1, none⟩ = some (.slice none 0 0) ∧ w'.frozen? ⟨w.heap.size, 1, none⟩ = false from fun w' hk => ⟨(hk.cell (p := ⟨w.heap.size, 0, none⟩) (by first | (simp; done) | (simp; omega))).trans (by simp [go_sem]), (hk.frozen (p := ⟨w.heap.size, 0, none⟩) (by first | (simp; done) | (simp; omega))).trans (by simp [go_sem]), (hk.cell (p := ⟨w.heap.size, 1, none⟩) (by first | (simp; done) | (simp; omega))).trans (by simp [go_sem]), (hk.frozen (p := ⟨w.heap.size, 1, none⟩) (by first | (simp; done) | (simp; omega))).trans (by simp [go_sem])⟩)
  have HB := Lib.hid (show Keeps w (w.alloc (.cells #[.bool false, .slice none 0 0] 74)) from (by (repeat (first | (with_reducible exact Keeps.refl _) | (with_reducible assumption) | (with_reducible refine Keeps.drewN ?_ _) | (with_reducible refine Keeps.drew ?_) | (with_reducible refine Keeps.alloc ?_ _) | (with_reducible refine Keeps.setNew ?_ ?_ _))) <;> (dsimp only; omega)))
  have hk0 := Keeps.refl (w.alloc (.cells #[.bool false, .slice none 0 0] 74))
  obtain ⟨m, hm⟩ : ∃ m, n.natAbs = m := ⟨_, rfl⟩
  have hm2 : m ≤ 9223372036854775808 := by omega
  have T := Lib.hid (two_digits m (by omega))
  rw [hm]
  have T0 := T.out.1
  by_cases hn : n < 0
  · obtain rfl : n = -(m : Int) := by omega
    have f1 : IntKind.u64.wrap (-(m : Int)) = 18446744073709551616 - m := by rw [IntKind.wrap_u64]; omega
    have f2 : IntKind.u64.wrap (-(18446744073709551616 - (m : Int))) = m := by rw [IntKind.wrap_u64]; omega
    rw [decide_eq_true hn]
    have f3 : ¬ m = 0 := by omega
    have hp := Lib.hid (show (true && decide (nv [m % 4294967296, m / 4294967296] ≠ 0)) = true by rw [T.out.2]; simpa using f3)
    have GN := Lib.hid (fun W T g a b (ha : a = ((m % 4294967296 : Nat) : Int)) (hb : b = ((m / 4294967296 : Nat) : Int)) (hg : g = W.heap.size) => new_any true _ _ 2 2 _ (lit2 W T (m % 4294967296) (m / 4294967296) g a b ha hb (by omega) (by omega) hg) (by omega))
    rw [hp.out, T.out.2] at GN
    clear hm
    go_enter Try.func51, Try.ntmps51
    go_wp2_with (go_at_call 86; refine (GN.out _ _ _ _ _ (by omega) (by omega) (by simp)).mono ?_; intro e w2 hret; obtain ⟨A2, c2, rfl, hD2, hk, hF2⟩ := hret; have hk1 := Keeps.trans (Keeps.alloc (Keeps.refl _) _) hk; obtain ⟨y0, y1, y2, y3⟩ := HS.out _ hk1)
    exact bodyPost_ret (v := .agg #[.bool true, .slice A2 (dig m).length c2]) (by simp [results, Try.results51, go_sem, *]) rfl ⟨A2, c2, rfl, (hD2.far (hF2.ne (by simp; omega)) _).far (hF2.ne (by simp; omega)) _, (HB.out.trans hk1).far2 (Nat.le_refl _) _ _, (hF2.back (Keeps.alloc (Keeps.refl _) _)).back HB.out⟩
  · obtain rfl : n = (m : Int) := by omega
    rw [decide_eq_false hn]
    have f1 : IntKind.u64.wrap (m : Int) = m := by rw [IntKind.wrap_u64]; omega
    have hp := Lib.hid (show (false && decide (nv [m % 4294967296, m / 4294967296] ≠ 0)) = false from rfl)
    have GN := Lib.hid (fun W T g a b (ha : a = ((m % 4294967296 : Nat) : Int)) (hb : b = ((m / 4294967296 : Nat) : Int)) (hg : g = W.heap.size) => new_any false _ _ 2 2 _ (lit2 W T (m % 4294967296) (m / 4294967296) g a b ha hb (by omega) (by omega) hg) (by omega))
    rw [hp.out, T.out.2] at GN
    clear hm
    go_enter Try.func51, Try.ntmps51
    go_wp2_with (go_at_call 86; refine (GN.out _ _ _ _ _ (by omega) (by omega) (by simp)).mono ?_; intro e w2 hret; obtain ⟨A2, c2, rfl, hD2, hk, hF2⟩ := hret; have hk1 := Keeps.trans (Keeps.alloc (Keeps.refl _) _) hk; obtain ⟨y0, y1, y2, y3⟩ := HS.out _ hk1)
    exact bodyPost_ret (v := .agg #[.bool false, .slice A2 (dig m).length c2]) (by simp [results, Try.results51, go_sem, *]) rfl ⟨A2, c2, rfl, (hD2.far (hF2.ne (by simp; omega)) _).far (hF2.ne (by simp; omega)) _, (HB.out.trans hk1).far2 (Nat.le_refl _) _ _, (hF2.back (Keeps.alloc (Keeps.refl _) _)).back HB.out⟩
end

section
open Go.RowKit
set_option linter.unusedVariables false
set_option linter.unusedSimpArgs false

set_option maxRecDepth 100000 in
set_option maxHeartbeats 4000000 in
theorem mul2_any (b1 b2 : Bool) (D E : List Nat) (A B : Option Addr) (n c m c2 : Nat) (w : World) (h : Dg w A n c D) (h2 : Dg w B m c2 E) (hsm : n ≤ 100) (hsm2 : m ≤ 100) :
    Calls Try.prog 52 #[.agg #[.bool b1, .slice A n c], .agg #[.bool b2, .slice B m c2]] w (RetBI w ((b1 != b2) && decide (nv D * nv E ≠ 0)) (nv D * nv E)) := by
  have HS := Lib.hid (show ∀ w', Keeps (((w.alloc (.cells #[.bool b1, .slice A n c] 74)).alloc (.cells #[.bool b2, .slice B m c2] 74)).alloc (.cells #[.bool false, .slice none 0 0] 74)) w' → w'.cell? ⟨w.heap.size, 0, none⟩ = some (.bool b1) ∧ w'.frozen? ⟨w.heap.size, 0, none⟩ = false ∧ w'.cell? ⟨w.heap.size, 1, none⟩ = some (.slice A n c) ∧ w'.frozen? ⟨w.heap.size, 1, none⟩ = false ∧ w'.cell? ⟨w.heap.size + 1, 0, none⟩ = some (.bool b2) ∧ w'.frozen? ⟨w.heap.size + 1, 0, none⟩ = false ∧ w'.cell? ⟨w.heap.size + 1, 1, none⟩ = some (.slice B m c2) ∧ w'.frozen? ⟨w.heap.size + 1, 1, none⟩ = false ∧ w'.cell? ⟨w.heap.size + 1 + 1, 0, none⟩ = some (.bool false) ∧ w'.frozen? ⟨w.heap.size + 1 + 1, 0, none⟩ = false ∧ w'.cell? ⟨w.heap.size + 1 + 1, 1, none⟩ = some (.slice none 0 0) ∧ w'.frozen? ⟨w.heap.size + 1 + 1, 1, none⟩ = false from fun w' hk => ⟨(hk.cell (p := ⟨w.heap.size, 0, none⟩) (by first | (simp; done) | (simp; omega))).trans (by simp [go_sem]), (hk.frozen (p := ⟨w.heap.size, 0, none⟩) (by first | (simp; done) | (simp; omega))).trans (by simp [go_sem]), (hk.cell (p := ⟨w.heap.size, 1, none⟩) (by first | (simp; done) | (simp; omega))).trans (by simp [go_sem]), (hk.frozen (p := ⟨w.heap.size, 1, none⟩) (by first | (simp; done) | (simp; omega))).trans (by simp [go_sem]), (hk.cell (p := ⟨w.heap.size + 1, 0, none⟩) (by first | (simp; done) | (simp; omega))).trans (by simp [go_sem]), (hk.frozen (p := ⟨w.heap.size + 1, 0, none⟩) (by first | (simp; done) | (simp; omega))).trans (by simp [go_sem]), (hk.cell (p := ⟨w.heap.size + 1, 1, none⟩) (by first | (simp; done) | (simp; omega))).trans (by simp [go_sem]), (hk.frozen (p := ⟨w.heap.size + 1, 1, none⟩) (by first | (simp; done) | (simp; omega))).trans (by simp [go_sem]), (hk.cell (p := ⟨w.heap.size + 1 + 1, 0, none⟩) (by first | (simp; done) | (simp; omega))).trans (by simp [go_sem]), (hk.frozen (p := ⟨w.heap.size + 1 + 1, 0, none⟩) (by first | (simp; done) | (simp; omega))).trans (by simp [go_sem]), (hk.cell (p := ⟨w.heap.size + 1 + 1, 1, none⟩) (by first | (simp; done) | (simp; omega))).trans (by simp [go_sem]), (hk.frozen (p := ⟨w.heap.size + 1 + 1, 1, none⟩) (by first | (simp; done) | (simp; omega))).trans (by simp [go_sem])⟩)
  have HB := Lib.hid (show Keeps w (((w.alloc (.cells #[.bool b1, .slice A n c] 74)).alloc (.cells #[.bool b2, .slice B m c2] 74)).alloc (.cells #[.bool false, .slice none 0 0] 74)) from (by (repeat (first | (with_reducible exact Keeps.refl _) | (with_reducible assumption) | (with_reducible refine Keeps.drewN ?_ _) | (with_reducible refine Keeps.drew ?_) | (with_reducible refine Keeps.alloc ?_ _) | (with_reducible refine Keeps.setNew ?_ ?_ _))) <;> (dsimp only; omega)))
  have hk0 := Keeps.refl (((w.alloc (.cells #[.bool b1, .slice A n c] 74)).alloc (.cells #[.bool b2, .slice B m c2] 74)).alloc (.cells #[.bool false, .slice none 0 0] 74))
  have HS2 := Lib.hid (show ∀ w', Keeps ((w.alloc (.cells #[.bool b1, .slice A n c] 74)).alloc (.cells #[.bool b2, .slice B m c2] 74)) w' → w'.cell? ⟨w.heap.size, 0, none⟩ = some (.bool b1) ∧ w'.frozen? ⟨w.heap.size, 0, none⟩ = false ∧ w'.cell? ⟨w.heap.size, 1, none⟩ = some (.slice A n c) ∧ w'.frozen? ⟨w.heap.size, 1, none⟩ = false ∧ w'.cell? ⟨w.heap.size + 1, 0, none⟩ = some (.bool b2) ∧ w'.frozen? ⟨w.heap.size + 1, 0, none⟩ = false ∧ w'.cell? ⟨w.heap.size + 1, 1, none⟩ = some (.slice B m c2) ∧ w'.frozen? ⟨w.heap.size + 1, 1, none⟩ = false from fun w' hk => ⟨(hk.cell (p := ⟨w.heap.size, 0, none⟩) (by first | (simp; done) | (simp; omega))).trans (by simp [go_sem]), (hk.frozen (p := ⟨w.heap.size, 0, none⟩) (by first | (simp; done) | (simp; omega))).trans (by simp [go_sem]), (hk.cell (p := ⟨w.heap.size, 1, none⟩) (by first | (simp; done) | (simp; omega))).trans (by simp [go_sem]), (hk.frozen (p := ⟨w.heap.size, 1, none⟩) (by first | (simp; done) | (simp; omega))).trans (by simp [go_sem]), (hk.cell (p := ⟨w.heap.size + 1, 0, none⟩) (by first | (simp; done) | (simp; omega))).trans (by simp [go_sem]), (hk.frozen (p := ⟨w.heap.size + 1, 0, none⟩) (by first | (simp; done) | (simp; omega))).trans (by simp [go_sem]), (hk.cell (p := ⟨w.heap.size + 1, 1, none⟩) (by first | (simp; done) | (simp; omega))).trans (by simp [go_sem]), (hk.frozen (p := ⟨w.heap.size + 1, 1, none⟩) (by first | (simp; done) | (simp; omega))).trans (by simp [go_sem])⟩)
  have HB2 := Lib.hid (show Keeps w ((w.alloc (.cells #[.bool b1, .slice A n c] 74)).alloc (.cells #[.bool b2, .slice B m c2] 74)) from (by (repeat (first | (with_reducible exact Keeps.refl _) | (with_reducible assumption) | (with_reducible refine Keeps.drewN ?_ _) | (with_reducible refine Keeps.drew ?_) | (with_reducible refine Keeps.alloc ?_ _) | (with_reducible refine Keeps.setNew ?_ ?_ _))) <;> (dsimp only; omega)))
  have hk02 := Keeps.refl ((w.alloc (.cells #[.bool b1, .slice A n c] 74)).alloc (.cells #[.bool b2, .slice B m c2] 74))
  have hW : Keeps (((w.alloc (.cells #[.bool b1, .slice A n c] 74)).alloc (.cells #[.bool b2, .slice B m c2] 74))) ((((w.alloc (.cells #[.bool b1, .slice A n c] 74)).alloc (.cells #[.bool b2, .slice B m c2] 74)).alloc (.cells #[.bool false, .slice none 0 0] 74))) := (Keeps.refl _).alloc _
  have HT := Lib.hid (fun w' hk => HS2.out w' (hW.trans hk))
  have HU := Lib.hid (fun w' u v hk => HS2.out _ ((hW.trans (w1 := w') hk).far2 (g := w.heap.size + 1 + 1) (by simp) u v))
  clear hW hk02 HS2
  have GM := Lib.hid (fun w' hk => (mul1_any D E A B n c m c2 w' (h.keep (HB.out.trans hk)) (h2.keep (HB.out.trans hk)) (by omega) (by omega)).mono fun e w1 h => RetDg.mono h hk)
  have GW := Lib.hid (fun k A3 c3 w' (hk : Keeps (((w.alloc (.cells #[.bool b1, .slice A n c] 74)).alloc (.cells #[.bool b2, .slice B m c2] 74)).alloc (.cells #[.bool false, .slice none 0 0] 74)) w') (hd : Dg w' A3 k c3 (dig (nv D * nv E))) => (new_any (!(b1 == b2)) _ A3 k c3 w' hd (by
    rw [← hd.len]
    have h3 : nv D * nv E < 4294967296 ^ (n + m) := by rw [Nat.pow_add]; exact Nat.mul_lt_mul'' (by have := nv_lt h.2; rwa [h.len] at this) (by have := nv_lt h2.2; rwa [h2.len] at this)
    have := dig_length h3
    omega)).mono fun e w1 h => RetBI.mono h hk)
  rw [nv_dig] at GW
  generalize nv D * nv E = x at *
  rw [show (b1 != b2) = !(b1 == b2) from rfl]
  generalize ((!(b1 == b2)) && decide (x ≠ 0)) = bb at *
  clear h h2
  go_enter Try.func52, Try.ntmps52
  go_wp2_with fail
  go_region_held3 (fun w' => w'.cell? ⟨w.heap.size, 0, none⟩ = some (.bool b1) ∧ w'.frozen? ⟨w.heap.size, 0, none⟩ = false ∧ w'.cell? ⟨w.heap.size, 1, none⟩ = some (.slice A n c) ∧ w'.frozen? ⟨w.heap.size, 1, none⟩ = false ∧ w'.cell? ⟨w.heap.size + 1, 0, none⟩ = some (.bool b2) ∧ w'.frozen? ⟨w.heap.size + 1, 0, none⟩ = false ∧ w'.cell? ⟨w.heap.size + 1, 1, none⟩ = some (.slice B m c2) ∧ w'.frozen? ⟨w.heap.size + 1, 1, none⟩ = false) (first | exact HT.out _ (by assumption) | exact HT.out _ (Keeps.drew (by assumption)) | exact HU.out _ _ _ (by assumption) | fail "KEEP")
    (first | ((go_at_call 87; (with_reducible refine (GM.out _ (by first | assumption | exact Keeps.drew (by assumption) | exact Keeps.drewN (by assumption) _)).mono ?_); intro e w3 hret; obtain ⟨A3, c3, rfl, hD3, hk, hF3⟩ := hret)) | ((go_at_call 86; (with_reducible refine (GW.out _ _ _ _ (by first | assumption | exact Keeps.drew (by assumption) | exact Keeps.drewN (by assumption) _) (by assumption)).mono ?_); intro e w4 hret; obtain ⟨A4, c4, rfl, hD4, hk, hF4⟩ := hret); obtain ⟨y0, y1, y2, y3, y4, y5, y6, y7, y8, y9, y10, y11⟩ := HS.out _ hk) | fail "ARM")
  go_wp2
  exact bodyPost_ret (v := .agg #[.bool bb, .slice A4 (dig x).length c4]) (by simp [results, Try.results52, go_sem, *]) rfl ⟨A4, c4, rfl, (hD4.far (hF4.ne (by simp)) _).far (hF4.ne (by simp)) _, (HB.out.trans hk).far2 (by omega) _ _, hF4.back HB.out⟩
end

section
open Go.RowKit
set_option linter.unusedVariables false
set_option linter.unusedSimpArgs false

def sgnI (b : Bool) (x : Nat) : Int := if x = 0 then 0 else if b then -1 else 1
set_option maxRecDepth 100000 in
set_option maxHeartbeats 2000000 in
theorem sign2_any (b : Bool) (D : List Nat) (A : Option Addr) (n c : Nat) (w : World) (h : Dg w A n c D) (hsm : n ≤ 1000) :
    Calls Try.prog 84 #[.agg #[.bool b, .slice A n c]] w fun e w' => e = .returned (.int .i64 (sgnI b (nv D))) ∧ Keeps w w' := by
  have HS := Lib.hid (show ∀ w', Keeps (w.alloc (.cells #[.bool b, .slice A n c] 74)) w' → w'.cell? ⟨w.heap.size, 0, none⟩ = some (.bool b) ∧ w'.frozen? ⟨w.heap.size, 0, none⟩ = false ∧ w'.cell? ⟨w.heap.size, 1, none⟩ = some (.slice A n c) ∧ w'.frozen? ⟨w.heap.size, 1, none⟩ = false from fun w' hk => ⟨(hk.cell (p := ⟨w.heap.size, 0, none⟩) (by first | (simp; done) | (simp; omega))).trans (by simp [go_sem]), (hk.frozen (p := ⟨w.heap.size, 0, none⟩) (by first | (simp; done) | (simp; omega))).trans (by simp [go_sem]), (hk.cell (p := ⟨w.heap.size, 1, none⟩) (by first | (simp; done) | (simp; omega))).trans (by simp [go_sem]), (hk.frozen (p := ⟨w.heap.size, 1, none⟩) (by first | (simp; done) | (simp; omega))).trans (by simp [go_sem])⟩)
  have HB := Lib.hid (show Keeps w (w.alloc (.cells #[.bool b, .slice A n c] 74)) from (by (repeat (first | (with_reducible exact Keeps.refl _) | (with_reducible assumption) | (with_reducible refine Keeps.drewN ?_ _) | (with_reducible refine Keeps.drew ?_) | (with_reducible refine Keeps.alloc ?_ _) | (with_reducible refine Keeps.setNew ?_ ?_ _))) <;> (dsimp only; omega)))
  have hk0 := Keeps.refl (w.alloc (.cells #[.bool b, .slice A n c] 74))
  have GW := Lib.hid (fun w' hk => (new_any b D A n c w' (h.keep (HB.out.trans hk)) hsm).mono fun e w1 h => RetBI.mono h hk)
  by_cases h0 : nv D = 0
  · have e1 : (b && decide (nv D ≠ 0)) = false := by rw [h0]; simp
    rw [show sgnI b (nv D) = 0 by unfold sgnI; rw [if_pos h0]]
    rw [e1, h0] at GW
    unfold RetBI at GW
    rw [dig_zero, List.length_nil] at GW
    clear h h0 e1
    go_enter Try.func84, Try.ntmps84
    go_wp2_with ((go_at_call 86; (with_reducible refine (GW.out _ (by first | assumption | exact Keeps.drew (by assumption) | exact Keeps.drewN (by assumption) _)).mono ?_); intro e w3 hret; obtain ⟨A3, c3, rfl, hD3, hk, hF3⟩ := hret); obtain ⟨y0, y1, y2, y3⟩ := HS.out _ hk)
    go_ret
    exact ⟨rfl, HB.out.trans (by (repeat (first | (with_reducible exact Keeps.refl _) | (with_reducible assumption) | (with_reducible refine Keeps.drewN ?_ _) | (with_reducible refine Keeps.drew ?_) | (with_reducible refine Keeps.alloc ?_ _) | (with_reducible refine Keeps.setNew ?_ ?_ _))) <;> (dsimp only; omega))⟩
  · have e1 : (b && decide (nv D ≠ 0)) = b := by simp [h0]
    obtain ⟨k, hk, hk0⟩ : ∃ k, (dig (nv D)).length = k ∧ 0 < k := ⟨_, rfl, dig_one_le (Nat.pos_of_ne_zero h0) rfl⟩
    rw [e1] at GW
    unfold RetBI at GW
    rw [hk] at GW
    cases b
    · rw [show sgnI false (nv D) = 1 by unfold sgnI; rw [if_neg h0]; rfl]
      clear h h0 e1 hk
      go_enter Try.func84, Try.ntmps84
      go_wp2_with ((go_at_call 86; (with_reducible refine (GW.out _ (by first | assumption | exact Keeps.drew (by assumption) | exact Keeps.drewN (by assumption) _)).mono ?_); intro e w3 hret; obtain ⟨A3, c3, rfl, hD3, hk, hF3⟩ := hret); obtain ⟨y0, y1, y2, y3⟩ := HS.out _ hk)
      go_ret
      exact ⟨rfl, HB.out.trans (by (repeat (first | (with_reducible exact Keeps.refl _) | (with_reducible assumption) | (with_reducible refine Keeps.drewN ?_ _) | (with_reducible refine Keeps.drew ?_) | (with_reducible refine Keeps.alloc ?_ _) | (with_reducible refine Keeps.setNew ?_ ?_ _))) <;> (dsimp only; omega))⟩
    · rw [show sgnI true (nv D) = -1 by unfold sgnI; rw [if_neg h0]; rfl]
      clear h h0 e1 hk
      go_enter Try.func84, Try.ntmps84
      go_wp2_with ((go_at_call 86; (with_reducible refine (GW.out _ (by first | assumption | exact Keeps.drew (by assumption) | exact Keeps.drewN (by assumption) _)).mono ?_); intro e w3 hret; obtain ⟨A3, c3, rfl, hD3, hk, hF3⟩ := hret); obtain ⟨y0, y1, y2, y3⟩ := HS.out _ hk)
      go_ret
      exact ⟨rfl, HB.out.trans (by (repeat (first | (with_reducible exact Keeps.refl _) | (with_reducible assumption) | (with_reducible refine Keeps.drewN ?_ _) | (with_reducible refine Keeps.drew ?_) | (with_reducible refine Keeps.alloc ?_ _) | (with_reducible refine Keeps.setNew ?_ ?_ _))) <;> (dsimp only; omega))⟩
end
end Go.Proofs.Ytdodgnpjlicnoaa
