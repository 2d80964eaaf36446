/- Contract of slices.Insert of one stop into a row of the caller's own: at the end, in place, into a new row. -/
import Derived.Test.YtboomdbmeallfaaGs
import Derived.RegionTactic
import Derived.Deep.RegionWith
import Derived.Shelf.Spec.SlicesInsert
import Derived.Lib.AppendZerosOnto
import Derived.Lib.Overlaps
import Derived.Deep.RegionLaw
namespace Go.Proofs.Ytboomdbmeallfaa
section
open Go.RowKit
attribute [local go_sem ↓] Go.wp_at_zero Go.wp_at_succ
set_option linter.unusedVariables false
set_option linter.unusedSimpArgs false
theorem getD_set5 (X : List St) (a k : Nat) (p : St) (h : a < X.length) : (X.set a p).getD k st0 = if k = a then p else X.getD k st0 := by
  simp only [List.getD_eq_getElem?_getD, List.getElem?_set]
  by_cases e : a = k
  · subst e; simp [h]
  · rw [if_neg e, if_neg (fun h => e h.symm)]
def revAt5 (M : List St) (o m a k : Nat) : St := if o ≤ k ∧ k - o < m ∧ (k - o < a ∨ m - a ≤ k - o) then M.getD (o + (m - 1 - (k - o))) st0 else M.getD k st0
theorem rev_step5 (M X : List St) (o m a q : Nat) (hX : ∀ k, X.getD k st0 = revAt5 M o m a k) (hl : X.length = M.length) (hm : M.length = o + m) (hq : a + q + 1 = m) (hlt : a < q) :
    ∀ k, ((X.set (o + a) (X.getD (o + q) st0)).set (o + q) (X.getD (o + a) st0)).getD k st0 = revAt5 M o m (a + 1) k := by
  intro k
  rw [getD_set5 _ _ _ _ (by simp; omega), getD_set5 _ _ _ _ (by omega), hX, hX, hX]
  unfold revAt5
  by_cases h1 : k = o + q
  · subst h1
    rw [if_pos rfl, if_neg (by omega), if_pos (by omega)]
    congr 1; omega
  · rw [if_neg h1]
    by_cases h2 : k = o + a
    · subst h2
      rw [if_pos rfl, if_neg (by omega), if_pos (by omega)]
      congr 1; omega
    · rw [if_neg h2]
      by_cases h3 : o ≤ k ∧ k - o < m ∧ (k - o < a ∨ m - a ≤ k - o)
      · rw [if_pos h3, if_pos (by omega)]
      · rw [if_neg h3, if_neg (by omega)]
theorem rev_end5 (M X : List St) (o m a : Nat) (hX : ∀ k, X.getD k st0 = revAt5 M o m a k) (hl : X.length = M.length) (hm : M.length = o + m) (ha : m ≤ 2 * a + 1) (ha2 : a ≤ m) : X = M.take o ++ (M.drop o).reverse := by
  have e : (M.take o).length = o := by simp; omega
  have e2 : (M.drop o).length = m := by simp; omega
  apply List.ext_getElem?
  intro k
  by_cases hk : k < X.length
  · have h1 := hX k
    rw [List.getD_eq_getElem?_getD, List.getElem?_eq_getElem hk] at h1
    rw [List.getElem?_eq_getElem hk, ← Option.some_get (x := (M.take o ++ (M.drop o).reverse)[k]?) (h := by rw [List.getElem?_eq_getElem (by simp; omega)]; rfl)]
    congr 1
    simp only [Option.getD_some] at h1
    rw [h1]
    unfold revAt5
    by_cases hko : k < o
    · rw [if_neg (by omega)]
      have e4 : (M.take o ++ (M.drop o).reverse)[k]? = some (M.getD k st0) := by
        rw [List.getElem?_append_left (by omega), List.getElem?_take, if_pos hko, List.getD_eq_getElem?_getD, List.getElem?_eq_getElem (by omega)]; rfl
      simp only [e4, Option.get_some]
    · have hkm : k - o < m := by omega
      have e3 : (M.take o ++ (M.drop o).reverse)[k]? = some (M.getD (o + (m - 1 - (k - o))) st0) := by
        rw [List.getElem?_append_right (by omega), e, List.getElem?_reverse (by omega), e2, List.getElem?_drop, List.getD_eq_getElem?_getD, List.getElem?_eq_getElem (by omega)]; rfl
      simp only [e3, Option.get_some]
      by_cases hc : k - o < a ∨ m - a ≤ k - o
      · rw [if_pos ⟨by omega, hkm, hc⟩]
      · rw [if_neg (by omega)]
        congr 1; omega
  · rw [List.getElem?_eq_none (by omega), List.getElem?_eq_none (by simp; omega)]
/-- Two stops of an own row set: in both orders the same row. -/
theorem rev_two5 {w : World} {B g n cap : Nat} {X : List St} (h : w.ownsRow B 31 5 (.slice (some ⟨g, 0, none⟩) n cap) n (rowS X)) (i j : Nat) (y x : St) (hi : i < X.length) (hj : j < X.length) (hne : i < j) :
    (((((((((((w.setCell ⟨g, i * 5, none⟩ (.int .i64 y.1)).setCell ⟨g, i * 5 + 1, none⟩ (.int .u8 y.2.1)).setCell ⟨g, i * 5 + 2, none⟩ (.int .u8 y.2.2.1)).setCell ⟨g, i * 5 + 3, none⟩ (.int .u8 y.2.2.2.1)).setCell ⟨g, i * 5 + 4, none⟩ (.int .u8 y.2.2.2.2)).setCell ⟨g, j * 5, none⟩ (.int .i64 x.1)).setCell ⟨g, j * 5 + 1, none⟩ (.int .u8 x.2.1)).setCell ⟨g, j * 5 + 2, none⟩ (.int .u8 x.2.2.1)).setCell ⟨g, j * 5 + 3, none⟩ (.int .u8 x.2.2.2.1)).setCell ⟨g, j * 5 + 4, none⟩ (.int .u8 x.2.2.2.2))).drew.ownsRow B 31 5 (.slice (some ⟨g, 0, none⟩) n cap) n (rowS ((X.set i y).set j x)) ∧
    (((((((((((w.setCell ⟨g, j * 5, none⟩ (.int .i64 x.1)).setCell ⟨g, j * 5 + 1, none⟩ (.int .u8 x.2.1)).setCell ⟨g, j * 5 + 2, none⟩ (.int .u8 x.2.2.1)).setCell ⟨g, j * 5 + 3, none⟩ (.int .u8 x.2.2.2.1)).setCell ⟨g, j * 5 + 4, none⟩ (.int .u8 x.2.2.2.2)).setCell ⟨g, i * 5, none⟩ (.int .i64 y.1)).setCell ⟨g, i * 5 + 1, none⟩ (.int .u8 y.2.1)).setCell ⟨g, i * 5 + 2, none⟩ (.int .u8 y.2.2.1)).setCell ⟨g, i * 5 + 3, none⟩ (.int .u8 y.2.2.2.1)).setCell ⟨g, i * 5 + 4, none⟩ (.int .u8 y.2.2.2.2))).drew.ownsRow B 31 5 (.slice (some ⟨g, 0, none⟩) n cap) n (rowS ((X.set i y).set j x)) := by
  constructor
  · rw [← rowS_set _ x j (by simpa using hj), ← rowS_set _ y i hi]
    exact own_keep (World.ownsRow.stored (World.ownsRow.stored (World.ownsRow.stored (World.ownsRow.stored (World.ownsRow.stored (World.ownsRow.stored (World.ownsRow.stored (World.ownsRow.stored (World.ownsRow.stored (World.ownsRow.stored h _ _).1 _ _).1 _ _).1 _ _).1 _ _).1 _ _).1 _ _).1 _ _).1 _ _).1 _ _).1 ((Keeps.refl _).drew)
  · rw [List.set_comm _ _ (by omega), ← rowS_set _ y i (by simpa using hi), ← rowS_set _ x j hj]
    exact own_keep (World.ownsRow.stored (World.ownsRow.stored (World.ownsRow.stored (World.ownsRow.stored (World.ownsRow.stored (World.ownsRow.stored (World.ownsRow.stored (World.ownsRow.stored (World.ownsRow.stored (World.ownsRow.stored h _ _).1 _ _).1 _ _).1 _ _).1 _ _).1 _ _).1 _ _).1 _ _).1 _ _).1 _ _).1 ((Keeps.refl _).drew)
set_option maxRecDepth 100000 in
set_option maxHeartbeats 8000000 in
theorem rev5_any (B g cap n o m c : Nat) (M : List St) (w : World) (hown : w.ownsRow B 31 5 (.slice (some ⟨g, 0, none⟩) n cap) n (rowS M)) (hM : M.length = n) (ho : n = o + m) (hn : n ≤ 1000000000000) :
    Calls Try.prog 47 #[.slice (some ⟨g, o * 5, none⟩) m c] w fun e w' => e = .returned (.tuple #[]) ∧
      w'.ownsRow B 31 5 (.slice (some ⟨g, 0, none⟩) n cap) n (rowS (M.take o ++ (M.drop o).reverse)) ∧ ∀ w0, Keeps w0 w → w0.heap.size ≤ B → Keeps w0 w' := by
  have hmi : (m : Int) ≤ 1000000000000 := by omega
  have hRE := Lib.hid (rev_end5 M)
  have hRS := Lib.hid (rev_step5 M)
  have hO := Lib.hid hown
  clear hown
  go_enter Try.func47, Try.ntmps47
  go_wp2_with fail
  go_loopw [2, 3] (fun i j wr => ∃ (a : Nat) (X : List St), a ≤ m ∧ 2 * a ≤ m + 1 ∧ i = .int .i64 a ∧ j = .int .i64 ((m : Int) - 1 - a) ∧ X.length = n ∧ Hid (∀ k, X.getD k st0 = revAt5 M o m a k) ∧ Hid (wr.ownsRow B 31 5 (.slice (some ⟨g, 0, none⟩) n cap) n (rowS X)) ∧ Hid (∀ w0, Keeps w0 w → w0.heap.size ≤ B → Keeps w0 wr)) (fun i _ _ => m - (intOf i).toNat)
  case atStart => exact ⟨0, M, by omega, by omega, rfl, by go_num, hM, Lib.hid (fun k => by unfold revAt5; rw [if_neg (by omega)]), hO, Lib.hid (fun w0 hk _ => hk)⟩
  case round =>
    clear hO
    obtain ⟨a, X, ha, ha2, rfl, rfl, hXl, hX, hO, hK⟩ := hrel
    by_cases hlt : (a : Int) < (m : Int) - 1 - a
    · obtain ⟨q, hq⟩ : ∃ q : Nat, (m : Int) - 1 - a = q := ⟨m - 1 - a, by omega⟩
      rw [hq] at hlt ⊢
      have hq2 : a + q + 1 = m := by omega
      have hlt2 : a < q := by omega
      have hqm : (q : Int) < m := by omega
      have ham : (a : Int) < m := by omega
      have hS := Lib.hid (hRS.out X o m a q hX.out (by omega) (by omega) hq2 hlt2)
      clear hX
      have hOg := hO.out
      obtain ⟨hg1, hg2⟩ := rowBase hOg
      have rp : ∀ k i, k < n → i < 5 → wr.cell? ⟨g, k * 5 + i, none⟩ = (stV (X.getD k st0))[i]? ∧ wr.frozen? ⟨g, k * 5 + i, none⟩ = false := fun k i hk hi => by
        obtain ⟨_, e1, e2, _⟩ := rowAt hOg (k * 5 + i) (by omega)
        exact ⟨e1.trans (rowS_get X k i (by omega) hi), e2⟩
      obtain ⟨c0, f0⟩ := rp (o + a) 0 (by omega) (by omega)
      obtain ⟨c1, f1⟩ := rp (o + a) 1 (by omega) (by omega)
      obtain ⟨c2, f2⟩ := rp (o + a) 2 (by omega) (by omega)
      obtain ⟨c3, f3⟩ := rp (o + a) 3 (by omega) (by omega)
      obtain ⟨c4, f4⟩ := rp (o + a) 4 (by omega) (by omega)
      obtain ⟨d0, k0⟩ := rp (o + q) 0 (by omega) (by omega)
      obtain ⟨d1, k1⟩ := rp (o + q) 1 (by omega) (by omega)
      obtain ⟨d2, k2⟩ := rp (o + q) 2 (by omega) (by omega)
      obtain ⟨d3, k3⟩ := rp (o + q) 3 (by omega) (by omega)
      obtain ⟨d4, k4⟩ := rp (o + q) 4 (by omega) (by omega)
      rw [Nat.add_mul] at c0 c1 c2 c3 c4 f0 f1 f2 f3 f4 d0 d1 d2 d3 d4 k0 k1 k2 k3 k4
      rw [Nat.add_zero] at c0 f0 d0 k0
      have n1 := fun (w : World) (u : Value) => setOff w g (o * 5 + a * 5) (o * 5 + a * 5 + 1) u (by omega)
      have n2 := fun (w : World) (u : Value) => setOff w g (o * 5 + a * 5) (o * 5 + a * 5 + 2) u (by omega)
      have n3 := fun (w : World) (u : Value) => setOff w g (o * 5 + a * 5) (o * 5 + a * 5 + 3) u (by omega)
      have n4 := fun (w : World) (u : Value) => setOff w g (o * 5 + a * 5) (o * 5 + a * 5 + 4) u (by omega)
      have n5 := fun (w : World) (u : Value) => setOff w g (o * 5 + a * 5 + 1) (o * 5 + a * 5 + 2) u (by omega)
      have n6 := fun (w : World) (u : Value) => setOff w g (o * 5 + a * 5 + 1) (o * 5 + a * 5 + 3) u (by omega)
      have n7 := fun (w : World) (u : Value) => setOff w g (o * 5 + a * 5 + 1) (o * 5 + a * 5 + 4) u (by omega)
      have n8 := fun (w : World) (u : Value) => setOff w g (o * 5 + a * 5 + 2) (o * 5 + a * 5 + 3) u (by omega)
      have n9 := fun (w : World) (u : Value) => setOff w g (o * 5 + a * 5 + 2) (o * 5 + a * 5 + 4) u (by omega)
      have n10 := fun (w : World) (u : Value) => setOff w g (o * 5 + a * 5 + 3) (o * 5 + a * 5 + 4) u (by omega)
      have n11 := fun (w : World) (u : Value) => setOff w g (o * 5 + q * 5) (o * 5 + q * 5 + 1) u (by omega)
      have n12 := fun (w : World) (u : Value) => setOff w g (o * 5 + q * 5) (o * 5 + q * 5 + 2) u (by omega)
      have n13 := fun (w : World) (u : Value) => setOff w g (o * 5 + q * 5) (o * 5 + q * 5 + 3) u (by omega)
      have n14 := fun (w : World) (u : Value) => setOff w g (o * 5 + q * 5) (o * 5 + q * 5 + 4) u (by omega)
      have n15 := fun (w : World) (u : Value) => setOff w g (o * 5 + q * 5 + 1) (o * 5 + q * 5 + 2) u (by omega)
      have n16 := fun (w : World) (u : Value) => setOff w g (o * 5 + q * 5 + 1) (o * 5 + q * 5 + 3) u (by omega)
      have n17 := fun (w : World) (u : Value) => setOff w g (o * 5 + q * 5 + 1) (o * 5 + q * 5 + 4) u (by omega)
      have n18 := fun (w : World) (u : Value) => setOff w g (o * 5 + q * 5 + 2) (o * 5 + q * 5 + 3) u (by omega)
      have n19 := fun (w : World) (u : Value) => setOff w g (o * 5 + q * 5 + 2) (o * 5 + q * 5 + 4) u (by omega)
      have n20 := fun (w : World) (u : Value) => setOff w g (o * 5 + q * 5 + 3) (o * 5 + q * 5 + 4) u (by omega)
      have n21 := fun (w : World) (u : Value) => setOff w g (o * 5 + a * 5) (o * 5 + q * 5) u (by omega)
      have n22 := fun (w : World) (u : Value) => setOff w g (o * 5 + a * 5) (o * 5 + q * 5 + 1) u (by omega)
      have n23 := fun (w : World) (u : Value) => setOff w g (o * 5 + a * 5) (o * 5 + q * 5 + 2) u (by omega)
      have n24 := fun (w : World) (u : Value) => setOff w g (o * 5 + a * 5) (o * 5 + q * 5 + 3) u (by omega)
      have n25 := fun (w : World) (u : Value) => setOff w g (o * 5 + a * 5) (o * 5 + q * 5 + 4) u (by omega)
      have n26 := fun (w : World) (u : Value) => setOff w g (o * 5 + a * 5 + 1) (o * 5 + q * 5) u (by omega)
      have n27 := fun (w : World) (u : Value) => setOff w g (o * 5 + a * 5 + 1) (o * 5 + q * 5 + 1) u (by omega)
      have n28 := fun (w : World) (u : Value) => setOff w g (o * 5 + a * 5 + 1) (o * 5 + q * 5 + 2) u (by omega)
      have n29 := fun (w : World) (u : Value) => setOff w g (o * 5 + a * 5 + 1) (o * 5 + q * 5 + 3) u (by omega)
      have n30 := fun (w : World) (u : Value) => setOff w g (o * 5 + a * 5 + 1) (o * 5 + q * 5 + 4) u (by omega)
      have n31 := fun (w : World) (u : Value) => setOff w g (o * 5 + a * 5 + 2) (o * 5 + q * 5) u (by omega)
      have n32 := fun (w : World) (u : Value) => setOff w g (o * 5 + a * 5 + 2) (o * 5 + q * 5 + 1) u (by omega)
      have n33 := fun (w : World) (u : Value) => setOff w g (o * 5 + a * 5 + 2) (o * 5 + q * 5 + 2) u (by omega)
      have n34 := fun (w : World) (u : Value) => setOff w g (o * 5 + a * 5 + 2) (o * 5 + q * 5 + 3) u (by omega)
      have n35 := fun (w : World) (u : Value) => setOff w g (o * 5 + a * 5 + 2) (o * 5 + q * 5 + 4) u (by omega)
      have n36 := fun (w : World) (u : Value) => setOff w g (o * 5 + a * 5 + 3) (o * 5 + q * 5) u (by omega)
      have n37 := fun (w : World) (u : Value) => setOff w g (o * 5 + a * 5 + 3) (o * 5 + q * 5 + 1) u (by omega)
      have n38 := fun (w : World) (u : Value) => setOff w g (o * 5 + a * 5 + 3) (o * 5 + q * 5 + 2) u (by omega)
      have n39 := fun (w : World) (u : Value) => setOff w g (o * 5 + a * 5 + 3) (o * 5 + q * 5 + 3) u (by omega)
      have n40 := fun (w : World) (u : Value) => setOff w g (o * 5 + a * 5 + 3) (o * 5 + q * 5 + 4) u (by omega)
      have n41 := fun (w : World) (u : Value) => setOff w g (o * 5 + a * 5 + 4) (o * 5 + q * 5) u (by omega)
      have n42 := fun (w : World) (u : Value) => setOff w g (o * 5 + a * 5 + 4) (o * 5 + q * 5 + 1) u (by omega)
      have n43 := fun (w : World) (u : Value) => setOff w g (o * 5 + a * 5 + 4) (o * 5 + q * 5 + 2) u (by omega)
      have n44 := fun (w : World) (u : Value) => setOff w g (o * 5 + a * 5 + 4) (o * 5 + q * 5 + 3) u (by omega)
      have n45 := fun (w : World) (u : Value) => setOff w g (o * 5 + a * 5 + 4) (o * 5 + q * 5 + 4) u (by omega)
      have n46 := fun (w : World) (u : Value) => setOff w g (o * 5 + q * 5) (o * 5 + a * 5) u (by omega)
      have n47 := fun (w : World) (u : Value) => setOff w g (o * 5 + q * 5) (o * 5 + a * 5 + 1) u (by omega)
      have n48 := fun (w : World) (u : Value) => setOff w g (o * 5 + q * 5) (o * 5 + a * 5 + 2) u (by omega)
      have n49 := fun (w : World) (u : Value) => setOff w g (o * 5 + q * 5) (o * 5 + a * 5 + 3) u (by omega)
      have n50 := fun (w : World) (u : Value) => setOff w g (o * 5 + q * 5) (o * 5 + a * 5 + 4) u (by omega)
      have n51 := fun (w : World) (u : Value) => setOff w g (o * 5 + q * 5 + 1) (o * 5 + a * 5) u (by omega)
      have n52 := fun (w : World) (u : Value) => setOff w g (o * 5 + q * 5 + 1) (o * 5 + a * 5 + 1) u (by omega)
      have n53 := fun (w : World) (u : Value) => setOff w g (o * 5 + q * 5 + 1) (o * 5 + a * 5 + 2) u (by omega)
      have n54 := fun (w : World) (u : Value) => setOff w g (o * 5 + q * 5 + 1) (o * 5 + a * 5 + 3) u (by omega)
      have n55 := fun (w : World) (u : Value) => setOff w g (o * 5 + q * 5 + 1) (o * 5 + a * 5 + 4) u (by omega)
      have n56 := fun (w : World) (u : Value) => setOff w g (o * 5 + q * 5 + 2) (o * 5 + a * 5) u (by omega)
      have n57 := fun (w : World) (u : Value) => setOff w g (o * 5 + q * 5 + 2) (o * 5 + a * 5 + 1) u (by omega)
      have n58 := fun (w : World) (u : Value) => setOff w g (o * 5 + q * 5 + 2) (o * 5 + a * 5 + 2) u (by omega)
      have n59 := fun (w : World) (u : Value) => setOff w g (o * 5 + q * 5 + 2) (o * 5 + a * 5 + 3) u (by omega)
      have n60 := fun (w : World) (u : Value) => setOff w g (o * 5 + q * 5 + 2) (o * 5 + a * 5 + 4) u (by omega)
      have n61 := fun (w : World) (u : Value) => setOff w g (o * 5 + q * 5 + 3) (o * 5 + a * 5) u (by omega)
      have n62 := fun (w : World) (u : Value) => setOff w g (o * 5 + q * 5 + 3) (o * 5 + a * 5 + 1) u (by omega)
      have n63 := fun (w : World) (u : Value) => setOff w g (o * 5 + q * 5 + 3) (o * 5 + a * 5 + 2) u (by omega)
      have n64 := fun (w : World) (u : Value) => setOff w g (o * 5 + q * 5 + 3) (o * 5 + a * 5 + 3) u (by omega)
      have n65 := fun (w : World) (u : Value) => setOff w g (o * 5 + q * 5 + 3) (o * 5 + a * 5 + 4) u (by omega)
      have n66 := fun (w : World) (u : Value) => setOff w g (o * 5 + q * 5 + 4) (o * 5 + a * 5) u (by omega)
      have n67 := fun (w : World) (u : Value) => setOff w g (o * 5 + q * 5 + 4) (o * 5 + a * 5 + 1) u (by omega)
      have n68 := fun (w : World) (u : Value) => setOff w g (o * 5 + q * 5 + 4) (o * 5 + a * 5 + 2) u (by omega)
      have n69 := fun (w : World) (u : Value) => setOff w g (o * 5 + q * 5 + 4) (o * 5 + a * 5 + 3) u (by omega)
      have n70 := fun (w : World) (u : Value) => setOff w g (o * 5 + q * 5 + 4) (o * 5 + a * 5 + 4) u (by omega)
      have hP := Lib.hid (rev_two5 hOg (o + a) (o + q) (X.getD (o + q) st0) (X.getD (o + a) st0) (by omega) (by omega) (by omega))
      rw [Nat.add_mul, Nat.add_mul] at hP
      have hXL2 : ((X.set (o + a) (X.getD (o + q) st0)).set (o + q) (X.getD (o + a) st0)).length = n := by simp; exact hXl
      have qm1 : (q : Int) - 1 = (m : Int) - 1 - (a + 1 : Nat) := by omega
      generalize hx : X.getD (o + a) st0 = x at *
      generalize hy : X.getD (o + q) st0 = y at *
      simp only [stV, List.getElem?_cons_zero, List.getElem?_cons_succ] at c0 c1 c2 c3 c4 d0 d1 d2 d3 d4
      have Qm := Lib.hid (And.intro qm1 (And.intro hXL2 (And.intro ha (And.intro hx hy))))
      clear hx hy rp hOg hO hq qm1 hXL2
      go_wp2_with fail
      go_region_with (fail)
      all_goals
        have hKn := Lib.hid (fun w0 h1 h2 => ((((((((((((hK.out w0 h1 h2).setNew (p := ⟨g, o * 5 + a * 5, none⟩) (Nat.le_trans h2 hg1) (.int .i64 y.1)).setNew (p := ⟨g, o * 5 + a * 5 + 1, none⟩) (Nat.le_trans h2 hg1) (.int .u8 y.2.1)).setNew (p := ⟨g, o * 5 + a * 5 + 2, none⟩) (Nat.le_trans h2 hg1) (.int .u8 y.2.2.1)).setNew (p := ⟨g, o * 5 + a * 5 + 3, none⟩) (Nat.le_trans h2 hg1) (.int .u8 y.2.2.2.1)).setNew (p := ⟨g, o * 5 + a * 5 + 4, none⟩) (Nat.le_trans h2 hg1) (.int .u8 y.2.2.2.2)).setNew (p := ⟨g, o * 5 + q * 5, none⟩) (Nat.le_trans h2 hg1) (.int .i64 x.1)).setNew (p := ⟨g, o * 5 + q * 5 + 1, none⟩) (Nat.le_trans h2 hg1) (.int .u8 x.2.1)).setNew (p := ⟨g, o * 5 + q * 5 + 2, none⟩) (Nat.le_trans h2 hg1) (.int .u8 x.2.2.1)).setNew (p := ⟨g, o * 5 + q * 5 + 3, none⟩) (Nat.le_trans h2 hg1) (.int .u8 x.2.2.2.1)).setNew (p := ⟨g, o * 5 + q * 5 + 4, none⟩) (Nat.le_trans h2 hg1) (.int .u8 x.2.2.2.2))).drew)
        have hPn := Lib.hid hP.out.1
        clear hP hK n1 n2 n3 n4 n5 n6 n7 n8 n9 n10 n11 n12 n13 n14 n15 n16 n17 n18 n19 n20 n21 n22 n23 n24 n25 n26 n27 n28 n29 n30 n31 n32 n33 n34 n35 n36 n37 n38 n39 n40 n41 n42 n43 n44 n45 n46 n47 n48 n49 n50 n51 n52 n53 n54 n55 n56 n57 n58 n59 n60 n61 n62 n63 n64 n65 n66 n67 n68 n69 n70 c0 c1 c2 c3 c4 f0 f1 f2 f3 f4 d0 d1 d2 d3 d4 k0 k1 k2 k3 k4
        go_wp2_with fail
        go_roundw
        case rel => exact ⟨a + 1, _, by omega, by omega, by go_num, by rw [Qm.out.1], Qm.out.2.1, hS, hPn, hKn⟩
        case measure => simp [intOf]; omega
    · have hE := Lib.hid (hRE.out X o m a hX.out (by omega) (by omega) (by omega) ha)
      clear hX ho hM hXl
      go_wp2_with fail
      go_end0
      exact ⟨rfl, by rw [← hE.out]; exact hO.out, hK.out⟩
end

section
open Go.RowKit
attribute [local go_sem ↓] Go.wp_at_zero Go.wp_at_succ
set_option linter.unusedVariables false
set_option linter.unusedSimpArgs false
/-- a part P, then S, then T, whatever stood behind P -/
theorem cut3a {X P S T : List Value} {p s : Nat} (hP : X.take p = P) (hp : P.length = p) (hs : S.length = s) (hX : p + s + T.length ≤ X.length) :
    ((X.take (p + s) ++ T ++ X.drop (p + s + T.length)).take p ++ S ++ (X.take (p + s) ++ T ++ X.drop (p + s + T.length)).drop (p + S.length)).take (p + s + T.length) = P ++ S ++ T ∧
    ((X.take (p + s) ++ T ++ X.drop (p + s + T.length)).take p ++ S ++ (X.take (p + s) ++ T ++ X.drop (p + s + T.length)).drop (p + S.length)).length = X.length ∧
    (X.take (p + s) ++ T ++ X.drop (p + s + T.length)).length = X.length := by
  have h1 : (X.take (p + s)).length = p + s := by simp; omega
  have e1 : (X.take (p + s) ++ T ++ X.drop (p + s + T.length)).take p = P := by
    rw [List.append_assoc, List.take_append_of_le_length (by omega), List.take_take, Nat.min_eq_left (by omega), hP]
  have e2 : (X.take (p + s) ++ T ++ X.drop (p + s + T.length)).drop (p + S.length) = T ++ X.drop (p + s + T.length) := by
    rw [hs, List.append_assoc, List.drop_append, List.drop_of_length_le (by omega), h1, Nat.sub_self]; simp
  rw [e1, e2]
  refine ⟨?_, ?_, ?_⟩
  · rw [show P ++ S ++ (T ++ X.drop (p + s + T.length)) = (P ++ S ++ T) ++ X.drop (p + s + T.length) by simp, List.take_append_of_le_length (by simp; omega), List.take_of_length_le (by simp; omega)]
  · simp; omega
  · simp; omega
theorem cut3b {X P S T : List Value} {p s : Nat} (hP : X.take p = P) (hp : P.length = p) (hs : S.length = s) (hX : p + s + T.length ≤ X.length) :
    ((X.take p ++ S ++ X.drop (p + S.length)).take (p + s) ++ T ++ (X.take p ++ S ++ X.drop (p + S.length)).drop (p + s + T.length)).take (p + s + T.length) = P ++ S ++ T ∧
    ((X.take p ++ S ++ X.drop (p + S.length)).take (p + s) ++ T ++ (X.take p ++ S ++ X.drop (p + S.length)).drop (p + s + T.length)).length = X.length ∧
    (X.take p ++ S ++ X.drop (p + S.length)).length = X.length := by
  rw [hP]
  have e1 : (P ++ S ++ X.drop (p + S.length)).take (p + s) = P ++ S := by
    rw [List.take_append_of_le_length (by simp; omega), List.take_of_length_le (by simp; omega)]
  rw [e1]
  refine ⟨?_, ?_, ?_⟩
  · rw [List.take_append_of_le_length (by simp; omega), List.take_of_length_le (by simp; omega)]
  · simp; omega
  · simp; omega
theorem own_mk {w : World} {B g n cap : Nat} {e : TypeId} (xs : List Value) (cur : Array Value) (hB : B ≤ g) (hg : w.heap[g]? = some (.cells cur e (0, 0))) (hn : n ≤ cap) (hm : cap ≤ maxLen) (hc : cur.size = cap * 5) (ht : cur.toList.take (n * 5) = xs) (hx : xs.length = n * 5) :
    w.ownsRow B e 5 (.slice (some ⟨g, 0, none⟩) n cap) n xs := ⟨hx, .inr ⟨g, cap, cur, rfl, hB, hg, hn, hm, hc, ht⟩⟩
theorem row_parts5 {w : World} {B g n cap : Nat} {e : TypeId} {xs : List Value} (h : w.ownsRow B e 5 (.slice (some ⟨g, 0, none⟩) n cap) n xs) :
    ∃ cur : Array Value, w.heap[g]? = some (.cells cur e (0, 0)) ∧ n ≤ cap ∧ cap ≤ maxLen ∧ cur.size = cap * 5 ∧ cur.toList.take (n * 5) = xs ∧ B ≤ g := by
  rcases h.2 with ⟨h', _⟩ | ⟨g', cap', cur, h', hb, hg, hnc, hcm, hcs, htake⟩
  · simp at h'
  · simp only [Value.slice.injEq, Option.some.injEq, Addr.mk.injEq, and_true, true_and] at h'
    obtain ⟨rfl, rfl⟩ := h'
    exact ⟨cur, hg, hnc, hcm, hcs, htake, hb⟩
/-- the cells of a stop in a block of its own -/
theorem box5 {w : World} {vb : Nat} {s : St} {e : TypeId} {f : Nat × Nat} (hv : w.heap[vb]? = some (.cells (stV s).toArray e f)) : ∀ j u, (stV s)[j]? = some u → w.cell? ((⟨vb, 0, none⟩ : Addr).add j) = some u := by
  intro j u hu
  rw [Addr.add_lit, cell_of_row w vb _ _ _ _ hv]
  simpa using hu
set_option maxRecDepth 100000 in
set_option maxHeartbeats 4000000 in
/-- at the end: an append -/
theorem sinsE5_any (B n vb : Nat) (v : Value) (M : List St) (s : St) (w : World) (hown : w.ownsRow B 31 5 v n (rowS M)) (hM : M.length = n) (hn : n ≤ 1000) (hB : B ≤ w.heap.size)
    (hv : w.heap[vb]? = some (.cells (stV s).toArray 31 (0, 0))) :
    Calls Try.prog 45 #[v, .int .i64 n, .slice (some ⟨vb, 0, none⟩) 1 1] w fun e w' => ∃ v', e = .returned v' ∧ w'.ownsRow B 31 5 v' (n + 1) (rowS (M ++ [s])) ∧ ∀ w0, Keeps w0 w → w0.heap.size ≤ B → Keeps w0 w' := by
  obtain ⟨i0, hi, hz0, hz1, hz2⟩ := info_parts cs_info
  have hbx := box5 hv
  have hni : (n : Int) ≤ 1000 := by omega
  have hw63 : (n : Int) ≤ 9223372036854775807 := by omega
  by_cases h0 : 0 < n
  · obtain ⟨g, cap, rfl, hnc, hBg, -⟩ := own_slice hown h0
    have hO := Lib.hid hown
    have HX := Lib.hid hbx
    have q1 : ((n : Int) == 0) = false := by rw [beq_eq_false_iff_ne]; omega
    clear hown hv hbx
    go_enter Try.func45, Try.ntmps45
    go_wp2_with (at_builtin; refine wpList_append_own _ rfl _ _ 25 rfl B 31 i0 (.agg #[.int .i64 0, .int .u8 0, .int .u8 0, .int .u8 0, .int .u8 0]) 5 16 Try.underlying25 hi hz0 hz1 hz2 rfl (by decide) _ _ _ rfl hO.out ⟨vb, 0, none⟩ 1 1 (stV s) rfl rfl HX.out (oneCell_stV _) (by unfold maxLen; omega) (by omega) hB ?_; intro v1 w1 hown1 hgrow1 hz9; clear hz9; rw [← rowS_one, ← rowS_append] at hown1)
    all_goals
      go_ret
      exact ⟨_, rfl, hown1, fun w0 hk hb => Below.grown hk hgrow1 hk.size (fun k hk => by simp [Act.eval, Value.ownBlock] at hk <;> omega)⟩
  · obtain rfl : n = 0 := by omega
    obtain rfl : M = [] := List.length_eq_zero_iff.1 hM
    have hO := Lib.hid hown
    have HX := Lib.hid hbx
    rcases hown.2 with ⟨rfl, -⟩ | ⟨g, cap, cur, rfl, hBg, hg, -, hcm, hcs, -⟩
    all_goals
      clear hown hv hbx
      go_enter Try.func45, Try.ntmps45
      go_wp2_with (at_builtin; refine wpList_append_own _ rfl _ _ 25 rfl B 31 i0 (.agg #[.int .i64 0, .int .u8 0, .int .u8 0, .int .u8 0, .int .u8 0]) 5 16 Try.underlying25 hi hz0 hz1 hz2 rfl (by decide) _ _ _ rfl hO.out ⟨vb, 0, none⟩ 1 1 (stV s) rfl rfl HX.out (oneCell_stV _) (by unfold maxLen; omega) (by omega) hB ?_; intro v1 w1 hown1 hgrow1 hz9; clear hz9; rw [← rowS_one, ← rowS_append] at hown1)
      go_ret
      exact ⟨_, rfl, hown1, fun w0 hk hb => Below.grown hk hgrow1 hk.size (fun k hk => by simp [Act.eval, Value.ownBlock] at hk <;> omega)⟩
set_option maxRecDepth 100000 in
set_option maxHeartbeats 4000000 in
/-- in place -/
theorem sinsR5_any (B g cap n i vb : Nat) (M : List St) (s : St) (w : World) (hown : w.ownsRow B 31 5 (.slice (some ⟨g, 0, none⟩) n cap) n (rowS M)) (hM : M.length = n) (hn : n ≤ 1000) (hin : i < n) (hroom : n + 1 ≤ cap)
    (hv : w.heap[vb]? = some (.cells (stV s).toArray 31 (0, 0))) (hvg : vb ≠ g) :
    Calls Try.prog 45 #[.slice (some ⟨g, 0, none⟩) n cap, .int .i64 i, .slice (some ⟨vb, 0, none⟩) 1 1] w fun e w' => ∃ v', e = .returned v' ∧ w'.ownsRow B 31 5 v' (n + 1) (rowS (M.take i ++ s :: M.drop i)) ∧ ∀ w0, Keeps w0 w → w0.heap.size ≤ B → Keeps w0 w' := by
  obtain ⟨i0, hi, hz0, hz1, hz2⟩ := info_parts cs_info
  have hbx := box5 hv
  obtain ⟨cur, hg, hnc, hcm, hcs, htk, hBg⟩ := row_parts5 hown
  have hsz : (Try.prog.info? 31).map (·.size) = some 5 := by rw [hi]; simp [hz1]
  have hrs : ∀ w, (Go.sizeOf 31).run Try.prog w = .ok 5 w := fun w => by simp [sizeOf, typeInfo, hi, hz1]
  have hvl : (stV s).length = 5 := rfl
  have hgf : w.frozen? ⟨vb, 0, none⟩ = false := by simp [World.frozen?, hv]
  have hgf2 : w.frozen? ⟨vb, 5, none⟩ = false := by simp [World.frozen?, hv]
  have hov : ∀ lb cb, (callFunc 53 #[.slice (some ⟨vb, 0, none⟩) 1 1, .slice (some ⟨g, (i + 1) * 5, none⟩) lb cb]).run Try.prog w = .ok (.value (.bool false)) w := fun lb cb => by
    rw [run_callFunc_extern Try.func53 (by kernel_rfl) (by kernel_rfl) (by kernel_rfl) (e := Extern.SlicesOverlaps.overlaps #[25, 25] #[4]) (by kernel_rfl),
      Lib.run_overlaps_apart w 25 4 31 Try.underlying25 5 hrs ⟨vb, 0, none⟩ ⟨g, (i + 1) * 5, none⟩ 1 1 lb cb hvg 31 31 5 cur.size (by simp [World.shape?, hv, stV]) (by simp [World.shape?, hg]) (by omega) hgf hgf2]
    rfl
  have hTl : (rowS (M.drop i)).length = (n - i) * 5 := by rw [rowS_length, List.length_drop, hM]
  have hPl : (rowS (M.take i)).length = i * 5 := by rw [rowS_length, List.length_take, hM, Nat.min_eq_left (by omega)]
  have hcl : cur.toList.length = cap * 5 := by simpa using hcs
  have h5 : (n + 1) * 5 ≤ cap * 5 := Nat.mul_le_mul_right _ hroom
  have hPt : cur.toList.take (i * 5) = rowS (M.take i) := by
    rw [← rowS_take, ← htk, List.take_take, Nat.min_eq_left (by omega)]
  have hTt : ∀ j u, (rowS (M.drop i))[j]? = some u → w.cell? ((⟨g, i * 5, none⟩ : Addr).add j) = some u := fun j u hu => by
    rw [← rowS_drop, ← htk, List.getElem?_drop, List.getElem?_take] at hu
    rw [Addr.add_lit, cell_of_row w g _ _ _ _ hg]
    split at hu
    · simpa using hu
    · cases hu
  obtain ⟨c1, c2, c3⟩ := cut3a (S := stV s) (T := rowS (M.drop i)) hPt hPl hvl (by rw [hTl, hcl]; omega)
  have hi1 : i * 5 + 5 = (i + 1) * 5 := by omega
  rw [hi1] at c1 c2 c3
  have hcp1 : ∀ ty dc sc, (Builtin.copy_ #[25, 25] ty #[.slice (some ⟨g, (i + 1) * 5, none⟩) (n - i) dc, .slice (some ⟨g, i * 5, none⟩) (n + 1 - i) sc]).run Try.prog w.drew = .ok (goInt (Nat.min (n + 1 - i) (n - i))) (w.drew.setRow g (cur.toList.take ((i + 1) * 5) ++ rowS (M.drop i) ++ cur.toList.drop ((i + 1) * 5 + (rowS (M.drop i)).length)).toArray) := fun ty dc sc =>
    run_copy_rowN w.drew 25 25 ty 31 5 g ((i + 1) * 5) (n - i) dc ⟨g, i * 5, none⟩ (n + 1 - i) sc cur 31 (rowS (M.drop i)) Try.underlying25 hsz hg (by rw [hTl, show Nat.min (n + 1 - i) (n - i) = n - i from by show min _ _ = _; omega])
      hTt (by rw [hTl, hcs]; omega) (oneCell_rowS _)
  generalize hX1 : cur.toList.take ((i + 1) * 5) ++ rowS (M.drop i) ++ cur.toList.drop ((i + 1) * 5 + (rowS (M.drop i)).length) = X1 at *
  have hg1 : (w.drew.setRow g X1.toArray).heap[g]? = some (.cells X1.toArray 31 (0, 0)) := setRow_heap w.drew g cur X1.toArray 31 (0, 0) hg
  have hb1 : ∀ j u, (stV s)[j]? = some u → (w.drew.setRow g X1.toArray).cell? ((⟨vb, 0, none⟩ : Addr).add j) = some u := fun j u hu => by
    have h := hbx j u hu
    rw [Addr.add_lit] at h ⊢
    rw [cell_setRow_far _ _ _ _ _ hvg]
    exact h
  obtain ⟨W1, hW1⟩ : ∃ W1, W1 = w.drew.setRow g X1.toArray := ⟨_, rfl⟩
  rw [← hW1] at hcp1 hg1 hb1
  have hcp2 : ∀ ty dc, (Builtin.copy_ #[25, 25] ty #[.slice (some ⟨g, i * 5, none⟩) (n + 1 - i) dc, .slice (some ⟨vb, 0, none⟩) 1 1]).run Try.prog W1 = .ok (goInt (Nat.min 1 (n + 1 - i))) (W1.setRow g (X1.toArray.toList.take (i * 5) ++ stV s ++ X1.toArray.toList.drop (i * 5 + (stV s).length)).toArray) := fun ty dc =>
    run_copy_rowN W1 25 25 ty 31 5 g (i * 5) (n + 1 - i) dc ⟨vb, 0, none⟩ 1 1 X1.toArray 31 (stV s) Try.underlying25 hsz hg1 (by rw [hvl, show Nat.min 1 (n + 1 - i) = 1 from by show min _ _ = _; omega])
      hb1 (by simp only [List.size_toArray, c3, hcl, hvl]; omega) (oneCell_stV _)
  simp only [List.toList_toArray] at hcp2
  have hfin : (W1.setRow g (X1.take (i * 5) ++ stV s ++ X1.drop (i * 5 + (stV s).length)).toArray).ownsRow B 31 5 (.slice (some ⟨g, 0, none⟩) (n + 1) cap) (n + 1) (rowS (M.take i ++ s :: M.drop i)) := by
    refine own_mk _ _ hBg (setRow_heap W1 g _ _ _ _ hg1) hroom hcm (by simp only [List.size_toArray, c2]; exact hcl) ?_ ?_
    · rw [show (n + 1) * 5 = (i + 1) * 5 + (rowS (M.drop i)).length by rw [hTl]; omega]
      simp only [List.toList_toArray]
      rw [c1, rowS_append, rowS]; simp
    · rw [rowS_length]; simp; omega
  have hkp : ∀ w0, Keeps w0 w → w0.heap.size ≤ B → Keeps w0 (W1.setRow g (X1.take (i * 5) ++ stV s ++ X1.drop (i * 5 + (stV s).length)).toArray) := fun w0 hk hb => by
    refine Keeps.setRowNew ?_ (by omega) _
    rw [hW1]
    exact Keeps.setRowNew hk.drew (by omega) _
  generalize X1.take (i * 5) ++ stV s ++ X1.drop (i * 5 + (stV s).length) = X2 at *
  have hFin := Lib.hid hfin
  have hKp := Lib.hid hkp
  have hni : (n : Int) ≤ 1000 := by omega
  have q2 : ((i : Int) == (n : Int)) = false := by rw [beq_eq_false_iff_ne]; omega
  have q3 : ¬ ((cap : Int) < (n : Int) + 1) := by omega
  have q4 : decide ((cap : Int) < (n : Int) + 1) = false := decide_eq_false q3
  have w1a : IntKind.i64.wrap ((i : Int) + 1) = (i : Int) + 1 := i64_in _ (by omega)
  have w1n : IntKind.i64.wrap ((n : Int) + 1) = (n : Int) + 1 := i64_in _ (by omega)
  have w1b : ((i : Int) + 1).toNat = i + 1 := by omega
  have w1m : ((n : Int) + 1).toNat = n + 1 := by omega
  have w1c : (0 : Int) ≤ (i : Int) + 1 := by omega
  have w1k : (0 : Int) ≤ (n : Int) + 1 := by omega
  have w1d : (i : Int) + 1 ≤ (n : Int) + 1 := by omega
  have w1e : (i : Int) ≤ (n : Int) + 1 := by omega
  have w1j : (i : Int) ≤ (n : Int) := by omega
  have w1l : (n : Int) + 1 ≤ (cap : Int) := by omega
  have w1g : ¬ cap = i := by omega
  have w1h : ¬ cap = i + 1 := by omega
  clear hW1 hkp hfin hown hv hbx hg hPt hTt c1 c2 c3 hX1 hg1 hb1 hcs htk hcl hTl hPl h5 hgf hgf2 hrs hsz hi hz0 hz1 hz2 q3
  go_enter Try.func45, Try.ntmps45
  have mixed : Try.prog.follows Departure.mixedOrders = true := by kernel_rfl
  go_wp2_with (simp only [hov])
  go_region_law_o (refine step_copy_runI rfl _ _ 25 25 rfl _ _ (by simp [Act.eval, Act.put]) (by simp [Act.eval, Act.put]) (hcp1 _ _ _) ?_)
  go_wp2_with (at_builtin; refine wpList_copy_runI _ rfl _ _ 25 25 rfl _ _ rfl rfl (hcp2 _ _) ?_)
  go_ret
  exact ⟨_, rfl, hFin.out, hKp.out⟩
theorem getRow {w : World} {g : Nat} {cur : Array Value} {e : TypeId} {f : Nat × Nat} (hg : w.heap[g]? = some (.cells cur e f)) {w2 : World} (h : w2.heap = w.heap) : w2.heap[g]? = some (.cells cur e f) := by rw [h]; exact hg
set_option maxRecDepth 100000 in
set_option maxHeartbeats 4000000 in
/-- into a new row -/
theorem sinsG5_any (B g cap n i vb : Nat) (M : List St) (s : St) (w : World) (hown : w.ownsRow B 31 5 (.slice (some ⟨g, 0, none⟩) n cap) n (rowS M)) (hM : M.length = n) (hn : n ≤ 1000) (hin : i < n) (hroom : cap < n + 1) (hB : B ≤ w.heap.size)
    (hv : w.heap[vb]? = some (.cells (stV s).toArray 31 (0, 0))) :
    Calls Try.prog 45 #[.slice (some ⟨g, 0, none⟩) n cap, .int .i64 i, .slice (some ⟨vb, 0, none⟩) 1 1] w fun e w' => ∃ v', e = .returned v' ∧ w'.ownsRow B 31 5 v' (n + 1) (rowS (M.take i ++ s :: M.drop i)) ∧ ∀ w0, Keeps w0 w → w0.heap.size ≤ B → Keeps w0 w' := by
  obtain ⟨i0, hi, hz0, hz1, hz2⟩ := info_parts cs_info
  have hbx := box5 hv
  have hvw : vb < w.heap.size := by
    rcases Nat.lt_or_ge vb w.heap.size with h | h
    · exact h
    · rw [Array.getElem?_eq_none h] at hv; cases hv
  obtain ⟨cur, hg, hnc, hcm, hcs, htk, hBg⟩ := row_parts5 hown
  have hgw := (rowBase hown).2
  have hsz : (Try.prog.info? 31).map (·.size) = some 5 := by rw [hi]; simp [hz1]
  have hvl : (stV s).length = 5 := rfl
  have hTl : (rowS (M.drop i)).length = (n - i) * 5 := by rw [rowS_length, List.length_drop, hM]
  have hPl : (rowS (M.take i)).length = i * 5 := by rw [rowS_length, List.length_take, hM, Nat.min_eq_left (by omega)]
  have hcl : cur.toList.length = cap * 5 := by simpa using hcs
  have hTt : ∀ j u, (rowS (M.drop i))[j]? = some u → w.cell? ((⟨g, i * 5, none⟩ : Addr).add j) = some u := fun j u hu => by
    rw [← rowS_drop, ← htk, List.getElem?_drop, List.getElem?_take] at hu
    rw [Addr.add_lit, cell_of_row w g _ _ _ _ hg]
    split at hu
    · simpa using hu
    · cases hu
  have hPc : ∀ j u, (rowS (M.take i))[j]? = some u → w.cell? ((⟨g, 0, none⟩ : Addr).add j) = some u := fun j u hu => by
    rw [← rowS_take, ← htk, List.take_take, Nat.min_eq_left (by omega), List.getElem?_take] at hu
    rw [Addr.add_lit, cell_of_row w g _ _ _ _ hg]
    split at hu
    · simpa using hu
    · cases hu
  have hold : (Builtin.firstCells i0.size i (.slice (some ⟨g, 0, none⟩) i cap)).run Try.prog w.drew = .ok (rowS (M.take i)).toArray w.drew := by
    rw [hz1]
    exact run_firstCells_some w.drew 5 i ⟨g, 0, none⟩ i cap (rowS (M.take i)) hPl hPc
  have hik : i + (n + 1 - i) = n + 1 := by omega
  have hrz : ∀ ty, (Builtin.append_ #[25, 3] ty #[.slice (some ⟨g, 0, none⟩) i cap, .int .i64 ((n : Int) + 1 - (i : Int))]).run Try.prog w =
      .ok (.slice (some ⟨w.heap.size, 0, none⟩) (n + 1) (grownCap w (n + 1) cap 31)) (w.drew.alloc (.cells ((rowS (M.take i)).toArray ++ Builtin.zeroCells (Value.cells (.agg #[.int .i64 0, .int .u8 0, .int .u8 0, .int .u8 0, .int .u8 0])) (n + 1 - i) ++ Builtin.zeroCells (Value.cells (.agg #[.int .i64 0, .int .u8 0, .int .u8 0, .int .u8 0, .int .u8 0])) (grownCap w (n + 1) cap 31 - (n + 1))) 31)) := fun ty => by
    have h := Lib.run_append_grow_zeros w 25 3 ty 31 i0 _ .i64 .i64 Try.underlying25 Try.underlying3 hi hz0 (some ⟨g, 0, none⟩) i cap (rowS (M.take i)) hold (n + 1 - i) (by omega) (by rw [hz1]; omega) (by omega) (by omega) (by rw [hz2]; omega) (by rw [hz2, hik]; exact growslice_fits hroom (by omega))
    rw [hik] at h
    rw [show (n : Int) + 1 - (i : Int) = ((n + 1 - i : Nat) : Int) by omega]
    exact h
  obtain ⟨G, hG⟩ : ∃ G, G = grownCap w (n + 1) cap 31 := ⟨_, rfl⟩
  have hGn : n + 1 ≤ G := by rw [hG]; exact grownCap_ge w _ _ _
  have hGm : G ≤ maxLen := by rw [hG]; exact grownCap_le_maxLen w (n + 1) cap _ (by unfold maxLen; omega)
  have hG63 : (G : Int) ≤ 9223372036854775807 := by unfold maxLen at hGm; omega
  obtain ⟨R, hR⟩ : ∃ R : List Value, R = ((rowS (M.take i)).toArray ++ Builtin.zeroCells (Value.cells (.agg #[.int .i64 0, .int .u8 0, .int .u8 0, .int .u8 0, .int .u8 0])) (n + 1 - i) ++ Builtin.zeroCells (Value.cells (.agg #[.int .i64 0, .int .u8 0, .int .u8 0, .int .u8 0, .int .u8 0])) (G - (n + 1))).toList := ⟨_, rfl⟩
  have hRa : (rowS (M.take i)).toArray ++ Builtin.zeroCells (Value.cells (.agg #[.int .i64 0, .int .u8 0, .int .u8 0, .int .u8 0, .int .u8 0])) (n + 1 - i) ++ Builtin.zeroCells (Value.cells (.agg #[.int .i64 0, .int .u8 0, .int .u8 0, .int .u8 0, .int .u8 0])) (G - (n + 1)) = R.toArray := by rw [hR]
  have hRl : R.length = G * 5 := by
    rw [hR]
    simp only [Array.length_toList, Array.size_append, List.size_toArray, size_zeroCells, hPl]
    rw [show (Value.cells (.agg #[.int .i64 0, .int .u8 0, .int .u8 0, .int .u8 0, .int .u8 0])).size = 5 from rfl]
    omega
  have hRt : R.take (i * 5) = rowS (M.take i) := by
    rw [hR]
    simp only [Array.toList_append, List.append_assoc]
    rw [List.take_append_of_le_length (by omega), List.take_of_length_le (by omega)]
  rw [← hG] at hrz
  rw [hRa] at hrz
  clear hR hRa hold
  have h5 : (n + 1) * 5 ≤ G * 5 := Nat.mul_le_mul_right _ hGn
  obtain ⟨c1, c2, c3⟩ := cut3b (S := stV s) (T := rowS (M.drop i)) hRt hPl hvl (by rw [hTl, hRl]; omega)
  have hi1 : i * 5 + 5 = (i + 1) * 5 := by omega
  rw [hi1] at c1 c2
  obtain ⟨H, hH⟩ : ∃ H, H = w.heap.size := ⟨_, rfl⟩
  obtain ⟨X1, hX1⟩ : ∃ X1, X1 = R.take (i * 5) ++ stV s ++ R.drop (i * 5 + (stV s).length) := ⟨_, rfl⟩
  rw [← hX1] at c1 c2 c3
  obtain ⟨X2, hX2⟩ : ∃ X2, X2 = X1.take ((i + 1) * 5) ++ rowS (M.drop i) ++ X1.drop ((i + 1) * 5 + (rowS (M.drop i)).length) := ⟨_, rfl⟩
  rw [← hX2] at c1 c2
  have hcpA : ∀ W : World, W.heap[H]? = some (.cells R.toArray 31 (0, 0)) → W.heap[vb]? = some (.cells (stV s).toArray 31 (0, 0)) → ∀ ty dc, (Builtin.copy_ #[25, 25] ty #[.slice (some ⟨H, i * 5, none⟩) (n + 1 - i) dc, .slice (some ⟨vb, 0, none⟩) 1 1]).run Try.prog W = .ok (goInt (Nat.min 1 (n + 1 - i))) (W.setRow H X1.toArray) := fun W h1 h2 ty dc => by
    have h := run_copy_rowN (P := Try.prog) W 25 25 ty 31 5 H (i * 5) (n + 1 - i) dc ⟨vb, 0, none⟩ 1 1 R.toArray 31 (stV s) Try.underlying25 hsz h1 (by rw [hvl, show Nat.min 1 (n + 1 - i) = 1 from by show min _ _ = _; omega])
      (box5 h2) (by simp only [List.size_toArray, hRl, hvl]; omega) (oneCell_stV _)
    simp only [List.toList_toArray] at h
    rw [← hX1] at h
    exact h
  have hcpB : ∀ W : World, W.heap[H]? = some (.cells X1.toArray 31 (0, 0)) → W.heap[g]? = w.heap[g]? → ∀ ty dc sc, (Builtin.copy_ #[25, 25] ty #[.slice (some ⟨H, (i + 1) * 5, none⟩) (n - i) dc, .slice (some ⟨g, i * 5, none⟩) (n - i) sc]).run Try.prog W = .ok (goInt (Nat.min (n - i) (n - i))) (W.setRow H X2.toArray) := fun W h1 h2 ty dc sc => by
    have h := run_copy_rowN (P := Try.prog) W 25 25 ty 31 5 H ((i + 1) * 5) (n - i) dc ⟨g, i * 5, none⟩ (n - i) sc X1.toArray 31 (rowS (M.drop i)) Try.underlying25 hsz h1 (by rw [hTl, show Nat.min (n - i) (n - i) = n - i from by show min _ _ = _; omega])
      (fun j u hu => (World.cell?_of_block (a := (⟨g, i * 5, none⟩ : Addr).add j) (by rw [Addr.add_lit]; exact h2)).trans (hTt j u hu)) (by simp only [List.size_toArray, c3, hRl, hTl]; omega) (oneCell_rowS _)
    simp only [List.toList_toArray] at h
    rw [← hX2] at h
    exact h
  have hfin : ∀ W : World, W.heap[H]? = some (.cells X2.toArray 31 (0, 0)) → W.ownsRow B 31 5 (.slice (some ⟨H, 0, none⟩) (n + 1) G) (n + 1) (rowS (M.take i ++ s :: M.drop i)) := fun W h => by
    refine own_mk _ _ (by omega) h hGn hGm (by simp only [List.size_toArray, c2]; exact hRl) ?_ ?_
    · rw [show (n + 1) * 5 = (i + 1) * 5 + (rowS (M.drop i)).length by rw [hTl]; omega]
      simp only [List.toList_toArray]
      rw [c1, rowS_append, rowS]; simp
    · rw [rowS_length]; simp; omega
  have hgH : g ≠ H := by omega
  have hvH : vb ≠ H := by omega
  obtain ⟨W1, hW1⟩ : ∃ W1, W1 = w.drew.alloc (.cells R.toArray 31) := ⟨_, rfl⟩
  have a1 : W1.heap[H]? = some (.cells R.toArray 31 (0, 0)) := by rw [hW1, hH]; exact heap_alloc_new w.drew _
  have a2 : W1.heap[vb]? = some (.cells (stV s).toArray 31 (0, 0)) := by rw [hW1]; exact (Go.heap_alloc_old w.drew _ hvw).trans hv
  have a3 : W1.heap[g]? = w.heap[g]? := by rw [hW1]; exact (Go.heap_alloc_old w.drew _ hgw)
  rw [← hW1] at hrz
  have b1 : (W1.setRow H X1.toArray).heap[H]? = some (.cells X1.toArray 31 (0, 0)) := setRow_heap _ _ _ _ _ _ a1
  have b3 : (W1.setRow H X1.toArray).heap[g]? = w.heap[g]? := (setRow_other W1 H g _ hgH).trans a3
  have cA := hcpA W1 a1 a2
  obtain ⟨W2, hW2⟩ : ∃ W2, W2 = W1.setRow H X1.toArray := ⟨_, rfl⟩
  rw [← hW2] at b1 b3 cA
  have cB := hcpB W2.drew b1 b3
  have hF := Lib.hid (hfin (W2.drew.setRow H X2.toArray) (setRow_heap W2.drew H X1.toArray X2.toArray _ _ b1))
  have hKp := Lib.hid (show ∀ w0, Keeps w0 w → w0.heap.size ≤ B → Keeps w0 (W2.drew.setRow H X2.toArray) from fun w0 hk hb => by
    refine Keeps.setRowNew (Keeps.drew ?_) (by omega) _
    rw [hW2]
    refine Keeps.setRowNew ?_ (by omega) _
    rw [hW1]
    exact hk.drew.alloc _)
  have hni : (n : Int) ≤ 1000 := by omega
  have q2 : ((i : Int) == (n : Int)) = false := by rw [beq_eq_false_iff_ne]; omega
  have q3 : (cap : Int) < (n : Int) + 1 := by omega
  have q4 : decide ((cap : Int) < (n : Int) + 1) = true := decide_eq_true q3
  have w1a : IntKind.i64.wrap ((i : Int) + 1) = (i : Int) + 1 := i64_in _ (by omega)
  have w1n : IntKind.i64.wrap ((n : Int) + 1) = (n : Int) + 1 := i64_in _ (by omega)
  have w1s : IntKind.i64.wrap ((n : Int) + 1 - (i : Int)) = (n : Int) + 1 - (i : Int) := i64_in _ (by omega)
  have w1b : ((i : Int) + 1).toNat = i + 1 := by omega
  have w1c : (0 : Int) ≤ (i : Int) + 1 := by omega
  have w1d : (i : Int) + 1 ≤ (n : Int) + 1 := by omega
  have w1e : (i : Int) ≤ (n : Int) + 1 := by omega
  have w1j : (i : Int) ≤ (n : Int) := by omega
  have w1p : (i : Int) ≤ (cap : Int) := by omega
  have w1g : ¬ cap = i := by omega
  have w1h : ¬ G = i := by omega
  have w1i : ¬ G = i + 1 := by omega
  rw [← hH] at hrz
  clear hcpA hcpB hfin hW1 hW2 a1 a2 a3 b1 b3 hX1 hX2 c1 c2 c3 hown hv hbx hg hTt hPc hcs htk hcl hTl hPl h5 hsz hi hz0 hz1 hz2 hRl hRt hG hH hgw hvw hgH hvH q3
  go_enter Try.func45, Try.ntmps45
  have mixed : Try.prog.follows Departure.mixedOrders = true := by kernel_rfl
  go_wp2_with (first
    | (at_builtin; refine Lib.wpList_append_run _ rfl _ _ _ _ rfl _ _ rfl rfl _ _ (hrz _) ?_)
    | (at_builtin; refine wpList_copy_runI _ rfl _ _ 25 25 rfl _ _ rfl rfl (cA _ _) ?_))
  go_region_law_o (refine step_copy_runI rfl _ _ 25 25 rfl _ _ (by simp [Act.eval, Act.put]) (by simp [Act.eval, Act.put]) (cB _ _ _) ?_)
  go_wp2
  go_ret
  exact ⟨_, rfl, hF.out, hKp.out⟩
end
end Go.Proofs.Ytboomdbmeallfaa
