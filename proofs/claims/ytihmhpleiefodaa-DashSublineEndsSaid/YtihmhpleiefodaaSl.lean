/- Slices: what a slice value reads as, carried over what a call leaves alone; rows of the call's own, read as such. -/
import Derived.Test.YtihmhpleiefodaaWd
import Derived.OwnWalk
import Derived.Laws.OwnMore
namespace Go.Proofs.Ytihmhpleiefodaa
section
/-- The number that a list of digits stands for. -/
def nv : List Nat → Nat
  | [] => 0
  | d :: l => d + 4294967296 * nv l
def isD (l : List Nat) : Prop := ∀ d ∈ l, d < 4294967296
/-- The digits of a number, without zeros at the top. -/
def dig (n : Nat) : List Nat := if n = 0 then [] else n % 4294967296 :: dig (n / 4294967296)
termination_by n
decreasing_by omega

theorem isD_nil : isD [] := fun _ h => by cases h
theorem isD_cons {d : Nat} {l : List Nat} (hd : d < 4294967296) (hl : isD l) : isD (d :: l) := fun x hx => by
  rcases List.mem_cons.1 hx with rfl | h
  · exact hd
  · exact hl x h
theorem isD.head {d : Nat} {l : List Nat} (h : isD (d :: l)) : d < 4294967296 := h d (by simp)
theorem isD.tail {d : Nat} {l : List Nat} (h : isD (d :: l)) : isD l := fun x hx => h x (by simp [hx])
theorem isD.append {a b : List Nat} (ha : isD a) (hb : isD b) : isD (a ++ b) := fun x hx => by
  rcases List.mem_append.1 hx with h | h
  · exact ha x h
  · exact hb x h
theorem isD.take {a : List Nat} (ha : isD a) (n : Nat) : isD (a.take n) := fun x hx => ha x (List.mem_of_mem_take hx)
theorem isD.drop {a : List Nat} (ha : isD a) (n : Nat) : isD (a.drop n) := fun x hx => ha x (List.mem_of_mem_drop hx)
theorem isD.one {d : Nat} (h : d < 4294967296) : isD [d] := isD_cons h isD_nil
theorem isD.getD {l : List Nat} (h : isD l) (i : Nat) : l.getD i 0 < 4294967296 := by
  rw [List.getD_eq_getElem?_getD]
  cases e : l[i]? with
  | none => simp
  | some x => exact h x (List.mem_of_getElem? e)
theorem isD.set {l : List Nat} (h : isD l) (i : Nat) {d : Nat} (hd : d < 4294967296) : isD (l.set i d) := fun x hx => by
  rcases List.mem_or_eq_of_mem_set hx with h1 | rfl
  · exact h x h1
  · exact hd
theorem isD_replicate (n : Nat) : isD (List.replicate n 0) := fun x hx => by rw [List.eq_of_mem_replicate hx]; omega
theorem dig_zero : dig 0 = [] := by rw [dig]; rfl
theorem dig_pos {n : Nat} (h : n ≠ 0) : dig n = n % 4294967296 :: dig (n / 4294967296) := by rw [dig, if_neg h]
theorem nv_dig (n : Nat) : nv (dig n) = n := by
  induction n using Nat.strongRecOn with
  | ind n ih =>
    by_cases h : n = 0
    · subst h; rw [dig_zero]; rfl
    · rw [dig_pos h, nv, ih _ (by omega)]; omega
theorem isD_dig (n : Nat) : isD (dig n) := by
  induction n using Nat.strongRecOn with
  | ind n ih =>
    by_cases h : n = 0
    · subst h; rw [dig_zero]; exact isD_nil
    · rw [dig_pos h]; exact isD_cons (by omega) (ih _ (by omega))
theorem nv_append (a b : List Nat) : nv (a ++ b) = nv a + 4294967296 ^ a.length * nv b := by
  induction a with
  | nil => simp [nv]
  | cons d a ih => simp only [List.cons_append, nv, ih, List.length_cons, Nat.pow_succ]; rw [Nat.mul_add, Nat.add_assoc, ← Nat.mul_assoc, Nat.mul_comm 4294967296 (4294967296 ^ a.length)]
theorem nv_snoc (a : List Nat) (d : Nat) : nv (a ++ [d]) = nv a + 4294967296 ^ a.length * d := by rw [nv_append]; simp [nv]
theorem nv_lt {l : List Nat} (h : isD l) : nv l < 4294967296 ^ l.length := by
  induction l with
  | nil => simp [nv]
  | cons d l ih =>
    have h1 := ih h.tail
    have h2 := h.head
    simp only [nv, List.length_cons, Nat.pow_succ]
    omega
theorem nv_zero {l : List Nat} (h : ∀ j, l.getD j 0 = 0) : nv l = 0 := by
  induction l with
  | nil => rfl
  | cons d l ih =>
    have h0 : d = 0 := h 0
    rw [nv, h0, ih fun j => h (j + 1)]
theorem nv_ext {a b : List Nat} (h : ∀ j, a.getD j 0 = b.getD j 0) : nv a = nv b := by
  induction a generalizing b with
  | nil => rw [nv, nv_zero fun j => (h j).symm.trans (by simp)]
  | cons d a ih =>
    cases b with
    | nil => rw [nv_zero h]; rfl
    | cons e b =>
      have h0 : d = e := h 0
      rw [nv, nv, h0, ih fun j => h (j + 1)]
theorem nv_split (l : List Nat) (i : Nat) : nv l = nv (l.take i) + 4294967296 ^ i * nv (l.drop i) := by
  rcases Nat.le_total l.length i with h | h
  · rw [List.take_of_length_le h, List.drop_of_length_le h]; simp [nv]
  · conv => lhs; rw [← List.take_append_drop i l]
    rw [nv_append, List.length_take, Nat.min_eq_left h]
theorem nv_take_succ (l : List Nat) (i : Nat) : nv (l.take (i + 1)) = nv (l.take i) + 4294967296 ^ i * l.getD i 0 := by
  rcases Nat.lt_or_ge i l.length with h | h
  · rw [List.take_succ_eq_append_getElem h, nv_snoc, List.length_take, Nat.min_eq_left (by omega), List.getD_eq_getElem?_getD, List.getElem?_eq_getElem h]; rfl
  · rw [List.take_of_length_le h, List.take_of_length_le (by omega), List.getD_eq_getElem?_getD, List.getElem?_eq_none h]; simp
theorem nv_take_all (l : List Nat) {i : Nat} (h : l.length ≤ i) : nv (l.take i) = nv l := by rw [List.take_of_length_le h]
/-- A list of digits without zeros at the top is the digits of its number. -/
theorem dig_nv {l : List Nat} (h : isD l) (ht : l ≠ [] → l.getD (l.length - 1) 0 ≠ 0) : dig (nv l) = l := by
  induction l with
  | nil => exact dig_zero
  | cons d l ih =>
    have h2 := h.head
    have hn : nv (d :: l) ≠ 0 := by
      cases l with
      | nil => have := ht (by simp); simp at this; simpa [nv] using this
      | cons e l =>
        have h3 := ih h.tail (fun _ => by have := ht (by simp); simpa using this)
        intro h0
        have h4 : nv (e :: l) = 0 := by simp only [nv] at h0 ⊢; omega
        rw [h4, dig_zero] at h3
        cases h3
    rw [dig_pos hn]
    have e1 : nv (d :: l) % 4294967296 = d := by rw [nv]; omega
    have e2 : nv (d :: l) / 4294967296 = nv l := by rw [nv]; omega
    rw [e1, e2, ih h.tail]
    intro hl
    have := ht (by simp)
    cases l with
    | nil => exact absurd rfl hl
    | cons e l => simpa using this
theorem dig_top (n : Nat) (h : dig n ≠ []) : (dig n).getD ((dig n).length - 1) 0 ≠ 0 := by
  induction n using Nat.strongRecOn with
  | ind n ih =>
    by_cases h0 : n = 0
    · subst h0; exact absurd dig_zero h
    · rw [dig_pos h0]
      by_cases h1 : n / 4294967296 = 0
      · rw [h1, dig_zero]; simp; omega
      · have h2 : dig (n / 4294967296) ≠ [] := by rw [dig_pos h1]; simp
        have := ih _ (by omega) h2
        have h3 : (dig (n / 4294967296)).length ≠ 0 := fun e => h2 (List.eq_nil_of_length_eq_zero e)
        rw [List.length_cons]
        obtain ⟨k, hk⟩ := Nat.exists_eq_succ_of_ne_zero h3
        rw [hk] at this ⊢
        simpa using this
/-- The zeros at the top cut off. -/
theorem take_dig {l : List Nat} (h : isD l) {n : Nat} (hn : n ≤ l.length) (hz : ∀ j, n ≤ j → l.getD j 0 = 0) (ht : n ≠ 0 → l.getD (n - 1) 0 ≠ 0) : l.take n = dig (nv l) := by
  have h1 : nv l = nv (l.take n) := by
    rw [nv_split l n, nv_zero (l := l.drop n), Nat.mul_zero, Nat.add_zero]
    intro j
    have := hz (n + j) (by omega)
    rw [List.getD_eq_getElem?_getD] at this ⊢
    rwa [List.getElem?_drop]
  rw [h1, dig_nv (h.take n)]
  intro hne
  rw [List.length_take, Nat.min_eq_left hn]
  have hn0 : n ≠ 0 := fun e => hne (by rw [e]; rfl)
  have := ht hn0
  rw [List.getD_eq_getElem?_getD] at this ⊢
  rwa [List.getElem?_take_of_lt (by omega)]
theorem dig_length {n k : Nat} (h : n < 4294967296 ^ k) : (dig n).length ≤ k := by
  induction k generalizing n with
  | zero => have : n = 0 := by simpa using h
            subst this; rw [dig_zero]; simp
  | succ k ih =>
    by_cases h0 : n = 0
    · subst h0; rw [dig_zero]; simp
    · rw [dig_pos h0, List.length_cons]
      have := ih (n := n / 4294967296) (by rw [Nat.pow_succ] at h; omega)
      omega
theorem dig_nil {n : Nat} : dig n = [] ↔ n = 0 := ⟨fun h => by rw [← nv_dig n, h]; rfl, fun h => by rw [h, dig_zero]⟩
theorem nv_set {l : List Nat} {i : Nat} (h : i < l.length) (y : Nat) : nv (l.set i y) + 4294967296 ^ i * l.getD i 0 = nv l + 4294967296 ^ i * y := by
  induction l generalizing i with
  | nil => simp at h
  | cons d l ih =>
    cases i with
    | zero => simp [nv]; omega
    | succ i =>
      have := ih (i := i) (by simpa using h)
      simp only [List.set_cons_succ, nv, Nat.pow_succ, List.getD_cons_succ]
      have e1 : 4294967296 ^ i * 4294967296 * l.getD i 0 = 4294967296 * (4294967296 ^ i * l.getD i 0) := by rw [Nat.mul_comm (4294967296 ^ i) 4294967296, Nat.mul_assoc]
      have e2 : 4294967296 ^ i * 4294967296 * y = 4294967296 * (4294967296 ^ i * y) := by rw [Nat.mul_comm (4294967296 ^ i) 4294967296, Nat.mul_assoc]
      rw [e1, e2]
      omega
theorem nv_replicate (n : Nat) : nv (List.replicate n 0) = 0 := nv_zero fun j => by
  rw [List.getD_eq_getElem?_getD, List.getElem?_replicate]; split <;> rfl
/-- Numbers are compared at the uppermost digit at which they differ. -/
theorem nv_cmp_lt {a b : List Nat} (ha : isD a) (i : Nat) (hz : ∀ j, i < j → a.getD j 0 = b.getD j 0) (hi : a.getD i 0 < b.getD i 0) : nv a < nv b := by
  have h1 := nv_split a (i + 1)
  have h2 := nv_split b (i + 1)
  have h3 : nv (a.drop (i + 1)) = nv (b.drop (i + 1)) := nv_ext fun j => by
    have := hz (i + 1 + j) (by omega)
    simp only [List.getD_eq_getElem?_getD, List.getElem?_drop] at this ⊢
    exact this
  rw [nv_take_succ] at h1 h2
  have h4 := nv_lt (ha.take i)
  have h5 : 4294967296 ^ (a.take i).length ≤ 4294967296 ^ i := Nat.pow_le_pow_right (by omega) (by rw [List.length_take]; omega)
  have h6 : 4294967296 ^ i * (a.getD i 0 + 1) ≤ 4294967296 ^ i * b.getD i 0 := Nat.mul_le_mul_left _ hi
  rw [Nat.mul_add, Nat.mul_one] at h6
  rw [h3] at h1
  omega
end

section
theorem pow_succ32 (i : Nat) : 4294967296 ^ (i + 1) = 4294967296 * 4294967296 ^ i := by rw [Nat.pow_succ, Nat.mul_comm]
/-! ### Add -/
def AddR (a b : List Nat) (i : Nat) (L : List Nat) (c : Nat) : Prop := L.length = i ∧ isD L ∧ c ≤ 1 ∧ nv L + 4294967296 ^ i * c = nv (a.take i) + nv (b.take i)
theorem AddR.zero (a b : List Nat) : AddR a b 0 [] 0 := ⟨rfl, isD_nil, by omega, by simp [nv]⟩
theorem AddR.step {a b : List Nat} {i c : Nat} {L : List Nat} (ha : isD a) (hb : isD b) (h : AddR a b i L c) :
    AddR a b (i + 1) (L ++ [(a.getD i 0 + b.getD i 0 + c) % 4294967296]) ((a.getD i 0 + b.getD i 0 + c) / 4294967296) := by
  obtain ⟨hl, hd, hc, he⟩ := h
  have h1 := ha.getD i
  have h2 := hb.getD i
  refine ⟨by simp [hl], hd.append (.one (by omega)), by omega, ?_⟩
  rw [nv_snoc, hl, nv_take_succ, nv_take_succ, pow_succ32, Nat.mul_comm 4294967296 (4294967296 ^ i), Nat.mul_assoc, Nat.add_assoc, ← Nat.mul_add]
  rw [show (a.getD i 0 + b.getD i 0 + c) % 4294967296 + 4294967296 * ((a.getD i 0 + b.getD i 0 + c) / 4294967296) = a.getD i 0 + b.getD i 0 + c by omega]
  rw [Nat.mul_add, Nat.mul_add]
  omega
theorem AddR.done {a b L : List Nat} {c : Nat} (h : AddR a b (max a.length b.length) L c) : isD (L ++ [c]) ∧ nv (L ++ [c]) = nv a + nv b := by
  obtain ⟨hl, hd, hc, he⟩ := h
  refine ⟨hd.append (.one (by omega)), ?_⟩
  rw [nv_snoc, hl, he, nv_take_all _ (by omega), nv_take_all _ (by omega)]
/-! ### Sub -/
def SubR (a b : List Nat) (i : Nat) (L : List Nat) (c : Nat) : Prop := L.length = i ∧ isD L ∧ c ≤ 1 ∧ nv L + nv (b.take i) = nv (a.take i) + 4294967296 ^ i * c
theorem SubR.zero (a b : List Nat) : SubR a b 0 [] 0 := ⟨rfl, isD_nil, by omega, by simp [nv]⟩
theorem SubR.step {a b : List Nat} {i c : Nat} {L : List Nat} (ha : isD a) (hb : isD b) (h : SubR a b i L c) :
    SubR a b (i + 1) (L ++ [(4294967296 + a.getD i 0 - b.getD i 0 - c) % 4294967296]) (1 - (4294967296 + a.getD i 0 - b.getD i 0 - c) / 4294967296) := by
  obtain ⟨hl, hd, hc, he⟩ := h
  have h1 := ha.getD i
  have h2 := hb.getD i
  refine ⟨by simp [hl], hd.append (.one (by omega)), by omega, ?_⟩
  rw [nv_snoc, hl, nv_take_succ, nv_take_succ, pow_succ32]
  generalize nv L = x at *
  generalize nv (List.take i a) = ta at *
  generalize nv (List.take i b) = tb at *
  generalize a.getD i 0 = p at *
  generalize b.getD i 0 = q at *
  have e1 : (4294967296 + p - q - c) % 4294967296 + q + c = p + 4294967296 * (1 - (4294967296 + p - q - c) / 4294967296) := by omega
  have e2 := congrArg (4294967296 ^ i * ·) e1
  simp only [Nat.mul_add] at e2
  rw [← Nat.mul_assoc, Nat.mul_comm (4294967296 ^ i) 4294967296] at e2
  omega
theorem SubR.done {a b L : List Nat} {c : Nat} (ha : isD a) (hle : nv b ≤ nv a) (h : SubR a b a.length L c) : nv L = nv a - nv b := by
  obtain ⟨hl, hd, hc, he⟩ := h
  have h1 := nv_lt ha
  have h2 := nv_lt hd
  have h3 := nv_split b a.length
  rw [hl] at h2
  rw [nv_take_all a (Nat.le_refl _)] at he
  have h4 : nv (b.drop a.length) = 0 := by
    rcases Nat.eq_zero_or_pos (nv (b.drop a.length)) with h | h
    · exact h
    · have := Nat.mul_le_mul_left (4294967296 ^ a.length) h
      omega
  rw [h4, Nat.mul_zero, Nat.add_zero] at h3
  have h5 : c = 0 := by
    rcases Nat.eq_zero_or_pos c with h | h
    · exact h
    · have : c = 1 := by omega
      subst this
      omega
  subst h5
  omega
/-! ### Times -/
def TimesR (a : List Nat) (d i : Nat) (L : List Nat) (c : Nat) : Prop := L.length = i ∧ isD L ∧ c < 4294967296 ∧ nv L + 4294967296 ^ i * c = nv (a.take i) * d
theorem TimesR.zero (a : List Nat) (d : Nat) : TimesR a d 0 [] 0 := ⟨rfl, isD_nil, by omega, by simp [nv]⟩
theorem mul_digits {x y c d : Nat} (hx : x < 4294967296) (hy : y < 4294967296) (hc : c < 4294967296) (hd : d < 4294967296) : x * y + d + c < 18446744073709551616 := by
  have := Nat.mul_le_mul (show x ≤ 4294967295 by omega) (show y ≤ 4294967295 by omega)
  omega
theorem TimesR.step {a : List Nat} {d i c : Nat} {L : List Nat} (ha : isD a) (hd : d < 4294967296) (h : TimesR a d i L c) :
    TimesR a d (i + 1) (L ++ [(a.getD i 0 * d + c) % 4294967296]) ((a.getD i 0 * d + c) / 4294967296) := by
  obtain ⟨hl, hD, hc, he⟩ := h
  have h1 := ha.getD i
  have h2 := mul_digits h1 hd hc (show 0 < 4294967296 by omega)
  refine ⟨by simp [hl], hD.append (.one (by omega)), by omega, ?_⟩
  rw [nv_snoc, hl, nv_take_succ, pow_succ32, Nat.mul_comm 4294967296 (4294967296 ^ i), Nat.mul_assoc, Nat.add_assoc, ← Nat.mul_add]
  rw [show (a.getD i 0 * d + c) % 4294967296 + 4294967296 * ((a.getD i 0 * d + c) / 4294967296) = a.getD i 0 * d + c by omega]
  rw [Nat.mul_add, Nat.add_mul, ← Nat.mul_assoc]
  omega
theorem TimesR.done {a L : List Nat} {d c : Nat} (h : TimesR a d a.length L c) : isD (L ++ [c]) ∧ nv (L ++ [c]) = nv a * d := by
  obtain ⟨hl, hd, hc, he⟩ := h
  exact ⟨hd.append (.one hc), by rw [nv_snoc, hl, he, nv_take_all _ (Nat.le_refl _)]⟩
/-! ### Mul -/
/-- After i rows: the cells behind are still zero. -/
def MulR (a b : List Nat) (i : Nat) (L : List Nat) : Prop := L.length = a.length + b.length + 1 ∧ isD L ∧ (∀ j, i + b.length ≤ j → L.getD j 0 = 0) ∧ nv L = nv (a.take i) * nv b
/-- Inside row i, after k digits. -/
def MulI (a b : List Nat) (i k : Nat) (L : List Nat) (c : Nat) : Prop := L.length = a.length + b.length + 1 ∧ isD L ∧ (∀ j, i + b.length ≤ j → L.getD j 0 = 0) ∧ c < 4294967296 ∧
  nv L + 4294967296 ^ (i + k) * c = nv (a.take i) * nv b + 4294967296 ^ i * (a.getD i 0 * nv (b.take k))
theorem MulR.zero (a b : List Nat) : MulR a b 0 (List.replicate (a.length + b.length + 1) 0) := ⟨by simp, isD_replicate _, fun j _ => by
  rw [List.getD_eq_getElem?_getD, List.getElem?_replicate]; split <;> rfl, by rw [nv_replicate]; simp [nv]⟩
theorem MulI.zero {a b L : List Nat} {i : Nat} (h : MulR a b i L) : MulI a b i 0 L 0 := by
  obtain ⟨hl, hd, hz, he⟩ := h
  exact ⟨hl, hd, hz, by omega, by simp [nv, he]⟩
theorem MulI.step {a b L : List Nat} {i k c : Nat} (ha : isD a) (hb : isD b) (hi : i < a.length) (hk : k < b.length) (h : MulI a b i k L c) :
    MulI a b i (k + 1) (L.set (i + k) ((a.getD i 0 * b.getD k 0 + L.getD (i + k) 0 + c) % 4294967296)) ((a.getD i 0 * b.getD k 0 + L.getD (i + k) 0 + c) / 4294967296) := by
  obtain ⟨hl, hd, hz, hc, he⟩ := h
  have h1 := ha.getD i
  have h2 := hb.getD k
  have h3 := hd.getD (i + k)
  have h4 := mul_digits h1 h2 hc h3
  have h5 := nv_set (l := L) (i := i + k) (by omega) ((a.getD i 0 * b.getD k 0 + L.getD (i + k) 0 + c) % 4294967296)
  refine ⟨by simp [hl], hd.set _ (by omega), ?_, by omega, ?_⟩
  · intro j hj
    rw [List.getD_eq_getElem?_getD, List.getElem?_set_ne (by omega), ← List.getD_eq_getElem?_getD]
    exact hz j hj
  · generalize hn : a.getD i 0 * b.getD k 0 + L.getD (i + k) 0 + c = n at *
    have e1 : n % 4294967296 + 4294967296 * (n / 4294967296) = n := by omega
    have e2 := congrArg (4294967296 ^ (i + k) * ·) e1
    have e3 := congrArg (4294967296 ^ (i + k) * ·) hn
    simp only [Nat.mul_add] at e2 e3
    rw [nv_take_succ, ← Nat.add_assoc i k 1, pow_succ32, Nat.mul_comm 4294967296 (4294967296 ^ (i + k)), Nat.mul_assoc]
    have e4 : 4294967296 ^ i * (a.getD i 0 * (nv (b.take k) + 4294967296 ^ k * b.getD k 0)) = 4294967296 ^ i * (a.getD i 0 * nv (b.take k)) + 4294967296 ^ (i + k) * (a.getD i 0 * b.getD k 0) := by
      rw [Nat.mul_add, Nat.mul_add, Nat.pow_add]
      congr 1
      rw [Nat.mul_assoc, Nat.mul_left_comm (a.getD i 0)]
    rw [e4]
    omega
theorem MulR.step {a b L : List Nat} {i c : Nat} (hi : i < a.length) (h : MulI a b i b.length L c) : MulR a b (i + 1) (L.set (i + b.length) c) := by
  obtain ⟨hl, hd, hz, hc, he⟩ := h
  have h5 := nv_set (l := L) (i := i + b.length) (by omega) c
  rw [hz _ (Nat.le_refl _)] at h5
  refine ⟨by simp [hl], hd.set _ hc, ?_, ?_⟩
  · intro j hj
    rw [List.getD_eq_getElem?_getD, List.getElem?_set_ne (by omega), ← List.getD_eq_getElem?_getD]
    exact hz j (by omega)
  · rw [nv_take_all b (Nat.le_refl _)] at he
    rw [nv_take_succ, Nat.add_mul, Nat.mul_assoc (4294967296 ^ i)]
    omega
theorem MulR.done {a b L : List Nat} (h : MulR a b a.length L) : nv L = nv a * nv b := by rw [h.2.2.2, nv_take_all _ (Nat.le_refl _)]
/-! ### up: a shift to the left -/
def UpR (a : List Nat) (n s : Nat) (i : Nat) (L : List Nat) (c : Nat) : Prop := L.length = n + i ∧ isD L ∧ c < 2 ^ s ∧ nv L + 4294967296 ^ (n + i) * c = 4294967296 ^ n * (nv (a.take i) * 2 ^ s)
theorem UpR.zero (a : List Nat) (n s : Nat) : UpR a n s 0 (List.replicate n 0) 0 := ⟨by simp, isD_replicate _, Nat.two_pow_pos s, by rw [nv_replicate]; simp [nv]⟩
theorem UpR.step {a L : List Nat} {n s i c : Nat} (ha : isD a) (h : UpR a n s i L c) :
    UpR a n s (i + 1) (L ++ [(a.getD i 0 * 2 ^ s + c) % 4294967296]) ((a.getD i 0 * 2 ^ s + c) / 4294967296) := by
  obtain ⟨hl, hD, hc, he⟩ := h
  have h1 := ha.getD i
  refine ⟨by simp [hl, Nat.add_assoc], hD.append (.one (by omega)), ?_, ?_⟩
  · refine (Nat.div_lt_iff_lt_mul (by omega)).2 ?_
    have := Nat.mul_le_mul_right (2 ^ s) (show a.getD i 0 + 1 ≤ 4294967296 by omega)
    rw [Nat.add_mul, Nat.one_mul] at this
    rw [Nat.mul_comm (2 ^ s)]
    omega
  · generalize hn : a.getD i 0 * 2 ^ s + c = m at *
    have e1 : m % 4294967296 + 4294967296 * (m / 4294967296) = m := by omega
    have e2 := congrArg (4294967296 ^ (n + i) * ·) e1
    have e3 := congrArg (4294967296 ^ (n + i) * ·) hn
    simp only [Nat.mul_add] at e2 e3
    rw [nv_snoc, hl, nv_take_succ, ← Nat.add_assoc n i 1, pow_succ32, Nat.mul_comm 4294967296 (4294967296 ^ (n + i)), Nat.mul_assoc, Nat.add_mul, Nat.mul_add]
    have e4 : 4294967296 ^ n * (4294967296 ^ i * a.getD i 0 * 2 ^ s) = 4294967296 ^ (n + i) * (a.getD i 0 * 2 ^ s) := by rw [Nat.pow_add, Nat.mul_assoc, Nat.mul_assoc]
    rw [e4]
    omega
theorem UpR.done {a L : List Nat} {n s c : Nat} (hs : s < 32) (h : UpR a n s a.length L c) : isD (L ++ [c]) ∧ nv (L ++ [c]) = nv a * 2 ^ (32 * n + s) := by
  obtain ⟨hl, hd, hc, he⟩ := h
  have hb : (2 : Nat) ^ s ≤ 2 ^ 32 := Nat.pow_le_pow_right (by omega) (by omega)
  refine ⟨hd.append (.one (by omega)), ?_⟩
  rw [nv_snoc, hl, he, nv_take_all _ (Nat.le_refl _), Nat.pow_add, Nat.pow_mul, show (2 : Nat) ^ 32 = 4294967296 from rfl, Nat.mul_left_comm]
/-! ### A shift to the right -/
theorem nv_div (l : List Nat) (i : Nat) (h : isD l) : nv l / 4294967296 ^ i = nv (l.drop i) := by
  rw [nv_split l i]
  have h1 := nv_lt (h.take i)
  have h2 : 4294967296 ^ (l.take i).length ≤ 4294967296 ^ i := Nat.pow_le_pow_right (by omega) (by rw [List.length_take]; omega)
  rw [Nat.add_comm, Nat.mul_add_div (Nat.pow_pos (by omega)), Nat.div_eq_of_lt (by omega), Nat.add_zero]
/-- L: the lower i digits of nv a / 2^s. -/
def DownR (a : List Nat) (s i : Nat) (L : List Nat) : Prop := L.length = i ∧ isD L ∧ nv L = nv a / 2 ^ s % 4294967296 ^ i
theorem DownR.zero (a : List Nat) (s : Nat) : DownR a s 0 [] := ⟨rfl, isD_nil, by simp [nv, Nat.mod_one]⟩
theorem nv_drop (l : List Nat) (i : Nat) : nv (l.drop i) = l.getD i 0 + 4294967296 * nv (l.drop (i + 1)) := by
  rcases Nat.lt_or_ge i l.length with h | h
  · rw [List.drop_eq_getElem_cons h, nv, List.getD_eq_getElem?_getD, List.getElem?_eq_getElem h]; rfl
  · rw [List.drop_of_length_le h, List.drop_of_length_le (by omega), List.getD_eq_getElem?_getD, List.getElem?_eq_none h]; simp [nv]
theorem mod_pow_succ (x i : Nat) : x % 4294967296 ^ (i + 1) = x % 4294967296 ^ i + 4294967296 ^ i * (x / 4294967296 ^ i % 4294967296) := by rw [Nat.pow_succ, Nat.mod_mul]
theorem DownR.step {a L : List Nat} {s i : Nat} (ha : isD a) (hs : s < 32) (h : DownR a s i L) :
    DownR a s (i + 1) (L ++ [(a.getD (i + 1) 0 * 4294967296 + a.getD i 0) / 2 ^ s % 4294967296]) := by
  obtain ⟨hl, hD, he⟩ := h
  refine ⟨by simp [hl], hD.append (.one (by omega)), ?_⟩
  rw [nv_snoc, hl, he, mod_pow_succ]
  congr 2
  rw [Nat.div_div_eq_div_mul, Nat.mul_comm (2 ^ s), ← Nat.div_div_eq_div_mul, nv_div a i ha, nv_drop, nv_drop]
  have hp : (4294967296 : Nat) = 2 ^ (32 - s) * 2 ^ s := by rw [← Nat.pow_add, show 32 - s + s = 32 by omega]
  have e : a.getD i 0 + 4294967296 * (a.getD (i + 1) 0 + 4294967296 * nv (a.drop (i + 1 + 1))) =
      (a.getD (i + 1) 0 * 4294967296 + a.getD i 0) + 2 ^ s * (4294967296 * (2 ^ (32 - s) * nv (a.drop (i + 1 + 1)))) := by
    have : 2 ^ s * (4294967296 * (2 ^ (32 - s) * nv (a.drop (i + 1 + 1)))) = 4294967296 * (4294967296 * nv (a.drop (i + 1 + 1))) := by
      rw [Nat.mul_left_comm, ← Nat.mul_assoc (2 ^ s), Nat.mul_comm (2 ^ s) (2 ^ (32 - s)), ← hp]
    omega
  rw [e, Nat.add_mul_div_left _ _ (Nat.two_pow_pos s), Nat.add_mul_mod_self_left]
theorem DownR.done {a L : List Nat} {s : Nat} (ha : isD a) (h : DownR a s a.length L) : nv L = nv a / 2 ^ s := by
  rw [h.2.2, Nat.mod_eq_of_lt]
  exact Nat.lt_of_le_of_lt (Nat.div_le_self _ _) (nv_lt ha)
/-! ### BitLen -/
def bl (n : Nat) : Nat := if n = 0 then 0 else Nat.log2 n + 1
theorem bl_half {n : Nat} (h : n ≠ 0) : bl n = bl (n / 2) + 1 := by
  unfold bl
  rw [if_neg h]
  by_cases h1 : n / 2 = 0
  · rw [if_pos h1]
    have : n = 1 := by omega
    subst this; rfl
  · rw [if_neg h1, Nat.log2_def n, if_pos (by omega)]
theorem bl_lt {n k : Nat} : n < 2 ^ k ↔ bl n ≤ k := by
  unfold bl
  by_cases h : n = 0
  · subst h; simp [Nat.two_pow_pos]
  · rw [if_neg h, ← Nat.log2_lt h]; omega
theorem bl_top {l : List Nat} {k : Nat} (h : isD l) (hl : l.length = k + 1) (ht : l.getD k 0 ≠ 0) : bl (nv l) = 32 * k + bl (l.getD k 0) := by
  have h1 := nv_split l k
  have h2 := nv_lt (h.take k)
  have h3 : (l.take k).length = k := by rw [List.length_take]; omega
  rw [h3] at h2
  rw [nv_drop, List.drop_of_length_le (by omega)] at h1
  simp only [nv, Nat.mul_zero, Nat.add_zero] at h1
  generalize l.getD k 0 = t at *
  have hp : (4294967296 : Nat) ^ k = 2 ^ (32 * k) := by rw [Nat.pow_mul]
  rw [hp] at h1 h2
  have hb0 : bl t ≠ 0 := by unfold bl; rw [if_neg ht]; omega
  apply Nat.le_antisymm
  · rw [← bl_lt]
    have h4 := bl_lt.2 (Nat.le_refl (bl t))
    have h5 := Nat.mul_le_mul_left (2 ^ (32 * k)) (show t + 1 ≤ 2 ^ bl t from h4)
    rw [← Nat.pow_add, Nat.mul_add] at h5
    omega
  · have h4 : ¬ t < 2 ^ (bl t - 1) := fun h => by have := bl_lt.1 h; omega
    have h5 := Nat.mul_le_mul_left (2 ^ (32 * k)) (show 2 ^ (bl t - 1) ≤ t by omega)
    rw [← Nat.pow_add] at h5
    have h6 : ¬ bl (nv l) ≤ 32 * k + (bl t - 1) := fun h => by have := bl_lt.2 h; omega
    omega
/-! ### Long division -/
def DivR (u : List Nat) (v i : Nat) (q : List Nat) (r : Nat) : Prop := q.length = u.length ∧ isD q ∧ nv (u.drop i) = nv (q.drop i) * v + r ∧ r < v
theorem DivR.zero {u : List Nat} {v : Nat} (hv : 0 < v) : DivR u v u.length (List.replicate u.length 0) 0 := ⟨by simp, isD_replicate _, by simp [nv], hv⟩
theorem digit_lt {d v r : Nat} (hd : d < 4294967296) (hr : r < v) : d + 4294967296 * r < 4294967296 * v := by omega
theorem DivR.step {u q : List Nat} {v i r : Nat} (hu : isD u) (hi : i < u.length) (h : DivR u v (i + 1) q r) :
    DivR u v i (q.set i ((u.getD i 0 + 4294967296 * r) / v)) ((u.getD i 0 + 4294967296 * r) % v) := by
  obtain ⟨hl, hD, he, hr⟩ := h
  have h1 := hu.getD i
  have h2 := digit_lt h1 hr
  have hv : 0 < v := by omega
  refine ⟨by simp [hl], hD.set _ ((Nat.div_lt_iff_lt_mul hv).2 h2), ?_, Nat.mod_lt _ hv⟩
  rw [nv_drop u i, he]
  have e : (q.set i ((u.getD i 0 + 4294967296 * r) / v)).drop i = (u.getD i 0 + 4294967296 * r) / v :: q.drop (i + 1) := by
    rw [List.drop_set, if_neg (by omega), Nat.sub_self, List.drop_eq_getElem_cons (by omega)]; rfl
  rw [e, nv, Nat.add_mul, Nat.mul_add, Nat.mul_assoc]
  have := Nat.div_add_mod (u.getD i 0 + 4294967296 * r) v
  rw [Nat.mul_comm v] at this
  omega
theorem DivR.done {u q : List Nat} {v r : Nat} (h : DivR u v 0 q r) : nv q = nv u / v ∧ r = nv u % v := by
  obtain ⟨hl, hD, he, hr⟩ := h
  rw [List.drop_zero, List.drop_zero] at he
  rw [he, Nat.mul_comm, Nat.mul_add_div (by omega), Nat.mul_add_mod, Nat.div_eq_of_lt hr, Nat.mod_eq_of_lt hr]
  exact ⟨rfl, rfl⟩
/-- The guess at a quotient's digit is not too small. -/
theorem often_ge {r b : List Nat} {n : Nat} (hr : isD r) (hb : isD b) (hn : b.length = n + 1) (hlt : nv r < 4294967296 * nv b) (ht : 0 < b.getD n 0) :
    nv r / nv b ≤ (r.getD (n + 1) 0 * 4294967296 + r.getD n 0) / b.getD n 0 := by
  have h1 := nv_div r n hr
  have h2 := nv_div r (n + 1 + 1) hr
  have h3 := nv_lt hb
  rw [hn] at h3
  have h4 : nv r / 4294967296 ^ (n + 1 + 1) = 0 := Nat.div_eq_of_lt (by rw [Nat.pow_succ]; omega)
  rw [h4] at h2
  rw [nv_drop, nv_drop, ← h2] at h1
  have h5 : 4294967296 ^ n * b.getD n 0 ≤ nv b := by
    have := nv_split b n
    rw [nv_drop b n, Nat.mul_add] at this
    omega
  refine (Nat.le_div_iff_mul_le ht).2 ?_
  rw [show r.getD (n + 1) 0 * 4294967296 + r.getD n 0 = nv r / 4294967296 ^ n by rw [h1]; omega]
  refine (Nat.le_div_iff_mul_le (Nat.pow_pos (by omega))).2 ?_
  have h6 := Nat.mul_le_mul_left (nv r / nv b) h5
  have h7 := Nat.div_mul_le_self (nv r) (nv b)
  rw [Nat.mul_comm (4294967296 ^ n), ← Nat.mul_assoc] at h6
  omega
theorem often_step {d q b r : Nat} (hq : q = r / b) (hd : q ≤ d) (h : r < d * b) : q ≤ d - 1 ∧ d ≠ 0 := by
  have h1 : d ≠ q := by
    rintro rfl
    have := Nat.div_mul_le_self r b
    rw [← hq] at this
    omega
  omega
theorem often_done {d q b r : Nat} (hq : q = r / b) (hb : 0 < b) (hd : q ≤ d) (h : d * b ≤ r) : d = r / b ∧ r - d * b = r % b := by
  have h1 : d ≤ r / b := (Nat.le_div_iff_mul_le hb).2 h
  have h2 : d = r / b := by omega
  refine ⟨h2, ?_⟩
  have := Nat.div_add_mod r b
  rw [Nat.mul_comm] at this
  rw [h2]
  omega
end

section
open Go.RowKit

/-- The slice '.slice A n c' reads as the cells xs, 'size' of them an element; where it has an element it lies in a block of w. -/
def SlA (w : World) (size : Nat) (A : Option Addr) (n c : Nat) (xs : List Value) : Prop :=
  n ≤ c ∧ c ≤ maxLen ∧ xs.length = n * size ∧ (0 < n → ∃ b o, A = some ⟨b, o, none⟩ ∧ b < w.heap.size ∧ ∀ j, j < n * size → w.cell? ⟨b, o + j, none⟩ = xs[j]?)

section
variable {w w' : World} {size n c : Nat} {A : Option Addr} {xs : List Value}
theorem SlA.keep (h : SlA w size A n c xs) (hk : Keeps w w') : SlA w' size A n c xs := by
  obtain ⟨h1, h2, h3, h4⟩ := h
  refine ⟨h1, h2, h3, fun hn => ?_⟩
  obtain ⟨b, o, e, hb, hc⟩ := h4 hn
  exact ⟨b, o, e, Nat.lt_of_lt_of_le hb hk.size, fun j hj => (hk.cell hb).trans (hc j hj)⟩
theorem SlA.at_ {k : Nat} (h : SlA w 1 A n c xs) (hk : k < n) : ∃ b o, A = some ⟨b, o, none⟩ ∧ b < w.heap.size ∧ w.cell? ⟨b, o + k, none⟩ = xs[k]? := by
  obtain ⟨b, o, e, hb, hc⟩ := h.2.2.2 (by omega)
  exact ⟨b, o, e, hb, hc k (by omega)⟩
theorem SlA.none_ (w : World) (size : Nat) : SlA w size none 0 0 [] := ⟨by omega, by unfold maxLen; omega, by simp, fun h => absurd h (by omega)⟩
theorem SlA.of_own {base : Nat} {e : TypeId} {v : Value} (h : w.ownsRow base e size v n xs) : ∃ A c, v = .slice A n c ∧ SlA w size A n c xs := by
  obtain ⟨h1, h2⟩ := h
  rcases h2 with ⟨rfl, rfl⟩ | ⟨g, cap, cur, rfl, hb, hg, hn, hm, hs, ht⟩
  · exact ⟨none, 0, rfl, by omega, by unfold maxLen; omega, h1, fun h => absurd h (by omega)⟩
  · refine ⟨_, _, rfl, hn, hm, h1, fun _ => ⟨g, 0, rfl, (Array.getElem?_eq_some_iff.1 hg).1, fun j hj => ?_⟩⟩
    rw [Nat.zero_add, cell_of_row w g j cur e (0, 0) hg, ← ht, List.getElem?_take, if_pos hj]
    simp
end

/-! ### Digits: a []uint32 -/
def d32 (D : List Nat) : List Value := D.map fun d : Nat => Value.int .u32 (d : Int)
def Dg (w : World) (A : Option Addr) (n c : Nat) (D : List Nat) : Prop := SlA w 1 A n c (d32 D) ∧ (∀ d ∈ D, d < 4294967296)
section
variable {w w' : World} {n c : Nat} {A : Option Addr} {D : List Nat}
theorem Dg.keep (h : Dg w A n c D) (hk : Keeps w w') : Dg w' A n c D := ⟨h.1.keep hk, h.2⟩
theorem Dg.len (h : Dg w A n c D) : D.length = n := by have := h.1.2.2.1; simpa [d32] using this
theorem Dg.cap (h : Dg w A n c D) : n ≤ c := h.1.1
theorem Dg.max (h : Dg w A n c D) : (n : Int) ≤ 9223372036854775807 := by have h1 := h.1.1; have h2 := h.1.2.1; unfold maxLen at h2; omega
theorem Dg.at_ {k : Nat} (h : Dg w A n c D) (hk : k < n) : ∃ b o, A = some ⟨b, o, none⟩ ∧ b < w.heap.size ∧ w.cell? ⟨b, o + k, none⟩ = some (.int .u32 ((D.getD k 0 : Nat) : Int)) := by
  obtain ⟨b, o, e, hb, hc⟩ := h.1.at_ hk
  refine ⟨b, o, e, hb, hc.trans ?_⟩
  have hl := h.len
  simp [d32, show k < D.length by omega]
theorem Dg.cellAt {b o k : Nat} (h : Dg w (some ⟨b, o, none⟩) n c D) (hk : k < n) : b < w.heap.size ∧ w.cell? ⟨b, o + k, none⟩ = some (.int .u32 ((D.getD k 0 : Nat) : Int)) := by
  obtain ⟨b', o', e, hb, hc⟩ := h.at_ hk
  obtain ⟨rfl, rfl⟩ : b = b' ∧ o = o' := by simpa using e
  exact ⟨hb, hc⟩
theorem Dg.of_own {base : Nat} {e : TypeId} {v : Value} (h : w.ownsRow base e 1 v n (d32 D)) (hD : ∀ d ∈ D, d < 4294967296) : ∃ A c, v = .slice A n c ∧ Dg w A n c D := by
  obtain ⟨A, c, e, hs⟩ := SlA.of_own h
  exact ⟨A, c, e, hs, hD⟩
end
theorem own_fresh {w : World} {base size n c : Nat} {e : TypeId} {A : Option Addr} {xs : List Value} (h : w.ownsRow base e size (.slice A n c) n xs) : ∀ a, A = some a → base ≤ a.block := by
  intro a ha
  subst ha
  exact (h.lt a.block rfl).1
/-- A result that is a []uint32 in new memory. -/
def Fr (w0 : World) (A : Option Addr) : Prop := ∀ a, A = some a → w0.heap.size ≤ a.block
theorem Fr.back {w0 w1 : World} {A : Option Addr} (h : Fr w1 A) (hk : Keeps w0 w1) : Fr w0 A := fun a e => Nat.le_trans hk.size (h a e)
theorem Fr.none_ (w : World) : Fr w none := fun _ e => by cases e
theorem Fr.at_ {w : World} {b o : Nat} (h : w.heap.size ≤ b) : Fr w (some ⟨b, o, none⟩) := fun a e => by cases e; exact h
def RetDg (w0 : World) (D : List Nat) (e : Ending) (w' : World) : Prop := ∃ A c, e = .returned (.slice A D.length c) ∧ Dg w' A D.length c D ∧ Keeps w0 w' ∧ Fr w0 A
theorem RetDg.mono {w0 w1 w' : World} {D : List Nat} {e : Ending} (h : RetDg w1 D e w') (hk : Keeps w0 w1) : RetDg w0 D e w' := by
  obtain ⟨A, c, he, hd, hk1, hf⟩ := h
  exact ⟨A, c, he, hd, hk.trans hk1, hf.back hk⟩
theorem d32_snoc (a : List Nat) (d : Nat) : d32 a ++ [Value.int .u32 (d : Int)] = d32 (a ++ [d]) := by simp [d32]
theorem d32_append (a b : List Nat) : d32 (a ++ b) = d32 a ++ d32 b := List.map_append
theorem d32_set (a : List Nat) (i x : Nat) : (d32 a).set i (.int .u32 x) = d32 (a.set i x) := by
  unfold d32; rw [List.map_set]
theorem d32_length (a : List Nat) : (d32 a).length = a.length := by simp [d32]
theorem d32_get {a : List Nat} {i : Nat} (h : i < a.length) : (d32 a)[i]? = some (.int .u32 ((a.getD i 0 : Nat) : Int)) := by
  simp [d32, h]
theorem oneCell_d32 (a : List Nat) : ∀ u ∈ d32 a, u.oneCell' = true := fun u hu => by
  obtain ⟨_, _, rfl⟩ := List.mem_map.1 hu
  rfl
/-- One new cell, laid ahead of an append. -/
theorem one_new (w : World) (u : Value) (t : TypeId) : ∀ j x, [u][j]? = some x → (w.alloc (.cells #[u] t)).cell? ((⟨w.heap.size, 0, none⟩ : Addr).add j) = some x := by
  intro j x hx
  match j, hx with
  | 0, hx => simp at hx; subst hx; simp [Addr.add]
theorem take_snoc' {D : List Nat} {j n : Nat} (hl : D.length = n) (h : j < n) : D.take (j + 1) = D.take j ++ [D.getD j 0] := by
  rw [List.take_succ_eq_append_getElem (by omega), List.getD_eq_getElem?_getD, List.getElem?_eq_getElem (by omega)]; rfl
theorem below_own {w wr w1 : World} {B : Nat} {e : TypeId} {size : Nat} {v : Value} {n : Nat} {xs : List Value} (hk : Below B w wr) (hw : B = w.heap.size) (hown : wr.ownsRow B e size v n xs) {o : Obj} (hg : (wr.alloc o).grownBy w1 v.ownBlock) : Below B w w1 := by
  subst hw
  exact (hk.alloc hk.size o).grown hg (by have := hk.size; simp; omega) (fun k hk' => (hown.lt k hk').1)
end
end Go.Proofs.Ytihmhpleiefodaa
