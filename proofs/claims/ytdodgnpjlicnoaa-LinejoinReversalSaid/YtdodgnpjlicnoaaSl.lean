/- Slices: what a slice value reads as, carried over what a call leaves alone; rows of the call's own, read as such. -/
import Derived.Test.YtdodgnpjlicnoaaWd
import Derived.OwnWalk
import Derived.Laws.OwnMore
namespace Go.Proofs.Ytdodgnpjlicnoaa
open Go.RowKit

/-- The slice '.slice A n c' reads as the cells xs, 'size' of them an element; where it has an element it lies in a block of w. -/
def SlA (w : World) (size : Nat) (A : Option Addr) (n c : Nat) (xs : List Value) : Prop :=
  n ≤ c ∧ c ≤ maxLen ∧ xs.length = n * size ∧ (0 < n → ∃ b o, A = some ⟨b, o, none⟩ ∧ b < w.heap.size ∧ ∀ j, j < n * size → w.cell? ⟨b, o + j, none⟩ = xs[j]?)

section
variable {w w' : World} {size n c : Nat} {A : Option Addr} {xs : List Value}
theorem SlA.keep (h : SlA w size A n c xs) (hk : Keeps w w') : SlA w' size A n c xs := by
  obtain ⟨h1, h2, h3, h4⟩ := h
  refine ⟨h1, h2, h3, fun hn => ?_⟩
  obtain ⟨b, o, e, hb, hc⟩ := h4 hn
  exact ⟨b, o, e, Nat.lt_of_lt_of_le hb hk.size, fun j hj => (hk.cell hb).trans (hc j hj)⟩
theorem SlA.at_ {k : Nat} (h : SlA w 1 A n c xs) (hk : k < n) : ∃ b o, A = some ⟨b, o, none⟩ ∧ b < w.heap.size ∧ w.cell? ⟨b, o + k, none⟩ = xs[k]? := by
  obtain ⟨b, o, e, hb, hc⟩ := h.2.2.2 (by omega)
  exact ⟨b, o, e, hb, hc k (by omega)⟩
theorem SlA.none_ (w : World) (size : Nat) : SlA w size none 0 0 [] := ⟨by omega, by unfold maxLen; omega, by simp, fun h => absurd h (by omega)⟩
theorem SlA.of_own {base : Nat} {e : TypeId} {v : Value} (h : w.ownsRow base e size v n xs) : ∃ A c, v = .slice A n c ∧ SlA w size A n c xs := by
  obtain ⟨h1, h2⟩ := h
  rcases h2 with ⟨rfl, rfl⟩ | ⟨g, cap, cur, rfl, hb, hg, hn, hm, hs, ht⟩
  · exact ⟨none, 0, rfl, by omega, by unfold maxLen; omega, h1, fun h => absurd h (by omega)⟩
  · refine ⟨_, _, rfl, hn, hm, h1, fun _ => ⟨g, 0, rfl, (Array.getElem?_eq_some_iff.1 hg).1, fun j hj => ?_⟩⟩
    rw [Nat.zero_add, cell_of_row w g j cur e (0, 0) hg, ← ht, List.getElem?_take, if_pos hj]
    simp
end

/-! ### Digits: a []uint32 -/
def d32 (D : List Nat) : List Value := D.map fun d : Nat => Value.int .u32 (d : Int)
def Dg (w : World) (A : Option Addr) (n c : Nat) (D : List Nat) : Prop := SlA w 1 A n c (d32 D) ∧ (∀ d ∈ D, d < 4294967296)
section
variable {w w' : World} {n c : Nat} {A : Option Addr} {D : List Nat}
theorem Dg.keep (h : Dg w A n c D) (hk : Keeps w w') : Dg w' A n c D := ⟨h.1.keep hk, h.2⟩
theorem Dg.len (h : Dg w A n c D) : D.length = n := by have := h.1.2.2.1; simpa [d32] using this
theorem Dg.cap (h : Dg w A n c D) : n ≤ c := h.1.1
theorem Dg.max (h : Dg w A n c D) : (n : Int) ≤ 9223372036854775807 := by have h1 := h.1.1; have h2 := h.1.2.1; unfold maxLen at h2; omega
theorem Dg.at_ {k : Nat} (h : Dg w A n c D) (hk : k < n) : ∃ b o, A = some ⟨b, o, none⟩ ∧ b < w.heap.size ∧ w.cell? ⟨b, o + k, none⟩ = some (.int .u32 ((D.getD k 0 : Nat) : Int)) := by
  obtain ⟨b, o, e, hb, hc⟩ := h.1.at_ hk
  refine ⟨b, o, e, hb, hc.trans ?_⟩
  have hl := h.len
  simp [d32, show k < D.length by omega]
theorem Dg.cellAt {b o k : Nat} (h : Dg w (some ⟨b, o, none⟩) n c D) (hk : k < n) : b < w.heap.size ∧ w.cell? ⟨b, o + k, none⟩ = some (.int .u32 ((D.getD k 0 : Nat) : Int)) := by
  obtain ⟨b', o', e, hb, hc⟩ := h.at_ hk
  obtain ⟨rfl, rfl⟩ : b = b' ∧ o = o' := by simpa using e
  exact ⟨hb, hc⟩
theorem Dg.of_own {base : Nat} {e : TypeId} {v : Value} (h : w.ownsRow base e 1 v n (d32 D)) (hD : ∀ d ∈ D, d < 4294967296) : ∃ A c, v = .slice A n c ∧ Dg w A n c D := by
  obtain ⟨A, c, e, hs⟩ := SlA.of_own h
  exact ⟨A, c, e, hs, hD⟩
end
theorem own_fresh {w : World} {base size n c : Nat} {e : TypeId} {A : Option Addr} {xs : List Value} (h : w.ownsRow base e size (.slice A n c) n xs) : ∀ a, A = some a → base ≤ a.block := by
  intro a ha
  subst ha
  exact (h.lt a.block rfl).1
/-- A result that is a []uint32 in new memory. -/
def Fr (w0 : World) (A : Option Addr) : Prop := ∀ a, A = some a → w0.heap.size ≤ a.block
theorem Fr.back {w0 w1 : World} {A : Option Addr} (h : Fr w1 A) (hk : Keeps w0 w1) : Fr w0 A := fun a e => Nat.le_trans hk.size (h a e)
theorem Fr.none_ (w : World) : Fr w none := fun _ e => by cases e
theorem Fr.at_ {w : World} {b o : Nat} (h : w.heap.size ≤ b) : Fr w (some ⟨b, o, none⟩) := fun a e => by cases e; exact h
def RetDg (w0 : World) (D : List Nat) (e : Ending) (w' : World) : Prop := ∃ A c, e = .returned (.slice A D.length c) ∧ Dg w' A D.length c D ∧ Keeps w0 w' ∧ Fr w0 A
theorem RetDg.mono {w0 w1 w' : World} {D : List Nat} {e : Ending} (h : RetDg w1 D e w') (hk : Keeps w0 w1) : RetDg w0 D e w' := by
  obtain ⟨A, c, he, hd, hk1, hf⟩ := h
  exact ⟨A, c, he, hd, hk.trans hk1, hf.back hk⟩
theorem d32_snoc (a : List Nat) (d : Nat) : d32 a ++ [Value.int .u32 (d : Int)] = d32 (a ++ [d]) := by simp [d32]
theorem d32_append (a b : List Nat) : d32 (a ++ b) = d32 a ++ d32 b := List.map_append
theorem d32_set (a : List Nat) (i x : Nat) : (d32 a).set i (.int .u32 x) = d32 (a.set i x) := by
  unfold d32; rw [List.map_set]
theorem d32_length (a : List Nat) : (d32 a).length = a.length := by simp [d32]
theorem d32_get {a : List Nat} {i : Nat} (h : i < a.length) : (d32 a)[i]? = some (.int .u32 ((a.getD i 0 : Nat) : Int)) := by
  simp [d32, h]
theorem oneCell_d32 (a : List Nat) : ∀ u ∈ d32 a, u.oneCell' = true := fun u hu => by
  obtain ⟨_, _, rfl⟩ := List.mem_map.1 hu
  rfl
/-- One new cell, laid ahead of an append. -/
theorem one_new (w : World) (u : Value) (t : TypeId) : ∀ j x, [u][j]? = some x → (w.alloc (.cells #[u] t)).cell? ((⟨w.heap.size, 0, none⟩ : Addr).add j) = some x := by
  intro j x hx
  match j, hx with
  | 0, hx => simp at hx; subst hx; simp [Addr.add]
theorem take_snoc' {D : List Nat} {j n : Nat} (hl : D.length = n) (h : j < n) : D.take (j + 1) = D.take j ++ [D.getD j 0] := by
  rw [List.take_succ_eq_append_getElem (by omega), List.getD_eq_getElem?_getD, List.getElem?_eq_getElem (by omega)]; rfl
theorem below_own {w wr w1 : World} {B : Nat} {e : TypeId} {size : Nat} {v : Value} {n : Nat} {xs : List Value} (hk : Below B w wr) (hw : B = w.heap.size) (hown : wr.ownsRow B e size v n xs) {o : Obj} (hg : (wr.alloc o).grownBy w1 v.ownBlock) : Below B w w1 := by
  subst hw
  exact (hk.alloc hk.size o).grown hg (by have := hk.size; simp; omega) (fun k hk' => (hown.lt k hk').1)
end Go.Proofs.Ytdodgnpjlicnoaa
