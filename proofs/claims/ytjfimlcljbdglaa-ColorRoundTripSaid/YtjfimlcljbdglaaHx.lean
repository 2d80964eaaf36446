/- Hexadecimal text, in plain lists of bytes. -/
import Derived.Test.YtjfimlcljbdglaaSl
import Derived.Laws.BytesArg
namespace Go.Proofs.Ytjfimlcljbdglaa
open Go.RowKit
/-- The digit of a value, the value of a digit. -/
def hexD (v : Nat) : Nat := if v < 10 then 48 + v else 87 + v
def hexV (c : Nat) : Int := if 97 ≤ c ∧ c ≤ 102 then (c : Int) - 87 else if 48 ≤ c ∧ c ≤ 57 then (c : Int) - 48 else -1
def hexS : List Nat → List Nat
  | [] => []
  | b :: l => hexD (b / 16) :: hexD (b % 16) :: hexS l
def unhex : List Nat → Option (List Nat)
  | [] => some []
  | [_] => none
  | a :: b :: l => if hexV a < 0 ∨ hexV b < 0 then none else (unhex l).map ((16 * hexV a + hexV b).toNat :: ·)
theorem hexD_bd {v : Nat} (h : v < 16) : hexD v < 256 := by unfold hexD; split <;> omega
theorem hexV_D {v : Nat} (h : v < 16) : hexV (hexD v) = v := by unfold hexV hexD; split <;> split <;> (try split) <;> omega
theorem hexV_is (c : Nat) : (97 ≤ c ∧ c ≤ 102 ∧ hexV c = (c : Int) - 87) ∨ (48 ≤ c ∧ c ≤ 57 ∧ hexV c = (c : Int) - 48) ∨ hexV c = -1 := by
  unfold hexV; split
  · left; exact ⟨by omega, by omega, rfl⟩
  · split
    · right; left; exact ⟨by omega, by omega, rfl⟩
    · right; right; rfl
theorem hexD_V {c : Nat} (h : 0 ≤ hexV c) : hexD (hexV c).toNat = c := by
  rcases hexV_is c with ⟨h1, h2, h3⟩ | ⟨h1, h2, h3⟩ | h3
  · rw [h3]; unfold hexD; rw [if_neg (by omega)]; omega
  · rw [h3]; unfold hexD; rw [if_pos (by omega)]; omega
  · omega
theorem hexV_lt (c : Nat) : hexV c < 16 := by unfold hexV; split <;> (try split) <;> omega
theorem hexV_ge (c : Nat) : -1 ≤ hexV c := by unfold hexV; split <;> (try split) <;> omega
theorem hexS_append (a b : List Nat) : hexS (a ++ b) = hexS a ++ hexS b := by
  induction a with
  | nil => rfl
  | cons x a ih => simp [hexS, ih]
theorem hexS_length (a : List Nat) : (hexS a).length = 2 * a.length := by
  induction a with
  | nil => rfl
  | cons x a ih => simp [hexS, ih]; omega
theorem hexS_bd {a : List Nat} (h : ∀ d ∈ a, d < 256) : ∀ d ∈ hexS a, d < 256 := by
  induction a with
  | nil => intro d hd; cases hd
  | cons x a ih =>
    have hx := h x (by simp)
    intro d hd
    simp only [hexS, List.mem_cons] at hd
    rcases hd with rfl | rfl | hd
    · exact hexD_bd (by omega)
    · exact hexD_bd (by omega)
    · exact ih (fun d hd => h d (by simp [hd])) d hd
theorem unhex_hexS {a : List Nat} (h : ∀ d ∈ a, d < 256) : unhex (hexS a) = some a := by
  induction a with
  | nil => rfl
  | cons x a ih =>
    have hx := h x (by simp)
    have h1 := hexV_D (v := x / 16) (by omega)
    have h2 := hexV_D (v := x % 16) (by omega)
    simp only [hexS, unhex]
    rw [ih fun d hd => h d (by simp [hd]), h1, h2, if_neg (by omega)]
    simp
    omega
theorem hexS_unhex {l a : List Nat} (h : unhex l = some a) : hexS a = l := by
  induction l using unhex.induct generalizing a with
  | case1 => simp [unhex] at h; subst h; rfl
  | case2 => simp [unhex] at h
  | case3 x y l hn => simp [unhex, hn] at h
  | case4 x y l hn ih =>
    simp only [unhex, if_neg hn] at h
    cases h1 : unhex l with
    | none => rw [h1] at h; simp at h
    | some b =>
      rw [h1] at h
      simp at h
      subst h
      have hx := hexV_lt y
      have e1 : (16 * hexV x + hexV y).toNat / 16 = (hexV x).toNat := by omega
      have e2 : (16 * hexV x + hexV y).toNat % 16 = (hexV y).toNat := by omega
      simp only [hexS]
      rw [e1, e2, hexD_V (by omega), hexD_V (by omega), ih h1]
theorem unhex_bd {l a : List Nat} (h : unhex l = some a) : ∀ d ∈ a, d < 256 := by
  induction l using unhex.induct generalizing a with
  | case1 => simp [unhex] at h; subst h; intro d hd; cases hd
  | case2 => simp [unhex] at h
  | case3 x y l hn => simp [unhex, hn] at h
  | case4 x y l hn ih =>
    simp only [unhex, if_neg hn] at h
    cases h1 : unhex l with
    | none => rw [h1] at h; simp at h
    | some b =>
      rw [h1] at h
      simp at h
      subst h
      have hx := hexV_lt x
      have hy := hexV_lt y
      intro d hd
      rcases List.mem_cons.1 hd with rfl | hd
      · omega
      · exact ih h1 d hd
theorem unhex_length {l a : List Nat} (h : unhex l = some a) : 2 * a.length = l.length := by rw [← hexS_length, hexS_unhex h]

/-! ### A []byte -/
def d8 (D : List Nat) : List Value := D.map fun d : Nat => Value.int .u8 (d : Int)
def By (w : World) (A : Option Addr) (n c : Nat) (D : List Nat) : Prop := SlA w 1 A n c (d8 D) ∧ (∀ d ∈ D, d < 256)
section
variable {w w' : World} {n c : Nat} {A : Option Addr} {D : List Nat}
theorem By.keep (h : By w A n c D) (hk : Keeps w w') : By w' A n c D := ⟨h.1.keep hk, h.2⟩
theorem By.len (h : By w A n c D) : D.length = n := by have := h.1.2.2.1; simpa [d8] using this
theorem By.max (h : By w A n c D) : (n : Int) ≤ 9223372036854775807 := by have h1 := h.1.1; have h2 := h.1.2.1; unfold maxLen at h2; omega
theorem By.at_ {k : Nat} (h : By w A n c D) (hk : k < n) : ∃ b o, A = some ⟨b, o, none⟩ ∧ b < w.heap.size ∧ w.cell? ⟨b, o + k, none⟩ = some (.int .u8 ((D.getD k 0 : Nat) : Int)) := by
  obtain ⟨b, o, e, hb, hc⟩ := h.1.at_ hk
  refine ⟨b, o, e, hb, hc.trans ?_⟩
  have hl := h.len
  simp [d8, show k < D.length by omega]
theorem By.of_own {base : Nat} {e : TypeId} {v : Value} (h : w.ownsRow base e 1 v n (d8 D)) (hD : ∀ d ∈ D, d < 256) : ∃ A c, v = .slice A n c ∧ By w A n c D := by
  obtain ⟨A, c, e, hs⟩ := SlA.of_own h
  exact ⟨A, c, e, hs, hD⟩
theorem by_getD (h : ∀ d ∈ D, d < 256) (i : Nat) : D.getD i 0 < 256 := by
  rw [List.getD_eq_getElem?_getD]
  cases e : D[i]? with
  | none => simp
  | some x => exact h x (List.mem_of_getElem? e)
end
theorem d8_append (a b : List Nat) : d8 (a ++ b) = d8 a ++ d8 b := List.map_append
theorem d8_snoc (a : List Nat) (d : Nat) : d8 a ++ [Value.int .u8 (d : Int)] = d8 (a ++ [d]) := by simp [d8]
/-- The string of these bytes. -/
def strB (D : List Nat) : ByteArray := strOfNums (D.map fun d : Nat => (d : Int))
theorem run_str {P : Program} (w : World) (src e dst : TypeId) (hs : P.underlying src = some (.slice e)) (he : P.underlying e = some (.int .u8)) (hd : P.underlying dst = some .string) {A : Option Addr} {n c : Nat} {D : List Nat}
    (h : By w A n c D) : (convert src dst (.slice A n c)).run P w = .ok (.string (strB D)) w := by
  rcases Nat.eq_zero_or_pos n with h0 | h0
  · subst h0
    have hD : D = [] := List.eq_nil_of_length_eq_zero h.len
    subst hD
    rw [run_convert_bytes_string w src dst e _ 0 c hs he hd]
    cases A with
    | none => simp [Conv.bytesToString, strB, strOfNums]; rfl
    | some a =>
      have hl := run_loadCells_list (P := P) w a [] (fun j v hj => by simp at hj)
      rw [run_bytesToString w a 0 c [] (by simpa using hl)]
      rfl
  · obtain ⟨b, o, e1, hb, hc⟩ := h.1.2.2.2 h0
    subst e1
    refine run_convert_bytes_arg (P := P) w src e hs he b o n c (D.map fun d : Nat => (d : Int)) (by rw [List.length_map]; exact h.len) (fun i hi => ?_) dst hd
    rw [hc i (by omega)]
    have hl := h.len
    simp [d8, show i < D.length by omega]
/-- The bytes of a string. -/
def bytesOf (s : ByteArray) : List Nat := s.data.toList.map (·.toNat)
theorem bytesOf_length (s : ByteArray) : (bytesOf s).length = s.size := by unfold bytesOf; rw [List.length_map]; rfl
theorem bytesOf_bd (s : ByteArray) : ∀ d ∈ bytesOf s, d < 256 := fun d hd => by
  obtain ⟨x, _, rfl⟩ := List.mem_map.1 hd
  exact x.toNat_lt
theorem bytesOf_strB {D : List Nat} (h : ∀ d ∈ D, d < 256) : bytesOf (strB D) = D := by
  unfold bytesOf strB strOfNums
  rw [List.map_map, List.map_map]
  conv => rhs; rw [← List.map_id D]
  refine List.map_congr_left fun d hd => ?_
  have := h d hd
  simp [Nat.mod_eq_of_lt this]
theorem strB_bytesOf (s : ByteArray) : strB (bytesOf s) = s := by
  unfold bytesOf strB strOfNums
  rw [List.map_map, List.map_map]
  have e : (((fun n : Int => UInt8.ofNat n.toNat) ∘ fun d : Nat => (d : Int)) ∘ fun x : UInt8 => x.toNat) = id := by
    funext x; simp
  rw [e, List.map_id]
theorem index_byte {P : Program} (w : World) (t : TypeId) (s : ByteArray) (k : Nat) (h : P.underlying t = some .string) (hk : k < s.size) :
    (Instr.index t (.string s) (.int .i64 (k : Int))).run P w = .ok (.int .u8 (((bytesOf s).getD k 0 : Nat) : Int)) w := by
  rw [run_index_string w t s .i64 k h, dif_pos ⟨by omega, by omega⟩]
  have e : (bytesOf s).getD k 0 = s[k].toNat := by
    unfold bytesOf
    rw [List.getD_eq_getElem?_getD, List.getElem?_map, List.getElem?_eq_getElem (by exact hk)]
    rfl
  rw [e]
  rfl
end Go.Proofs.Ytjfimlcljbdglaa
