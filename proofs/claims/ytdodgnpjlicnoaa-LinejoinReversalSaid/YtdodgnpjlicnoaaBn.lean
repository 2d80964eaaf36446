/- Plain arithmetic: natural numbers in base 2^32, the least significant digit first; no program in sight. -/
namespace Go.Proofs.Ytdodgnpjlicnoaa

/-- The number that a list of digits stands for. -/
def nv : List Nat → Nat
  | [] => 0
  | d :: l => d + 4294967296 * nv l
def isD (l : List Nat) : Prop := ∀ d ∈ l, d < 4294967296
/-- The digits of a number, without zeros at the top. -/
def dig (n : Nat) : List Nat := if n = 0 then [] else n % 4294967296 :: dig (n / 4294967296)
termination_by n
decreasing_by omega

theorem isD_nil : isD [] := fun _ h => by cases h
theorem isD_cons {d : Nat} {l : List Nat} (hd : d < 4294967296) (hl : isD l) : isD (d :: l) := fun x hx => by
  rcases List.mem_cons.1 hx with rfl | h
  · exact hd
  · exact hl x h
theorem isD.head {d : Nat} {l : List Nat} (h : isD (d :: l)) : d < 4294967296 := h d (by simp)
theorem isD.tail {d : Nat} {l : List Nat} (h : isD (d :: l)) : isD l := fun x hx => h x (by simp [hx])
theorem isD.append {a b : List Nat} (ha : isD a) (hb : isD b) : isD (a ++ b) := fun x hx => by
  rcases List.mem_append.1 hx with h | h
  · exact ha x h
  · exact hb x h
theorem isD.take {a : List Nat} (ha : isD a) (n : Nat) : isD (a.take n) := fun x hx => ha x (List.mem_of_mem_take hx)
theorem isD.drop {a : List Nat} (ha : isD a) (n : Nat) : isD (a.drop n) := fun x hx => ha x (List.mem_of_mem_drop hx)
theorem isD.one {d : Nat} (h : d < 4294967296) : isD [d] := isD_cons h isD_nil
theorem isD.getD {l : List Nat} (h : isD l) (i : Nat) : l.getD i 0 < 4294967296 := by
  rw [List.getD_eq_getElem?_getD]
  cases e : l[i]? with
  | none => simp
  | some x => exact h x (List.mem_of_getElem? e)
theorem isD.set {l : List Nat} (h : isD l) (i : Nat) {d : Nat} (hd : d < 4294967296) : isD (l.set i d) := fun x hx => by
  rcases List.mem_or_eq_of_mem_set hx with h1 | rfl
  · exact h x h1
  · exact hd
theorem isD_replicate (n : Nat) : isD (List.replicate n 0) := fun x hx => by rw [List.eq_of_mem_replicate hx]; omega
theorem dig_zero : dig 0 = [] := by rw [dig]; rfl
theorem dig_pos {n : Nat} (h : n ≠ 0) : dig n = n % 4294967296 :: dig (n / 4294967296) := by rw [dig, if_neg h]
theorem nv_dig (n : Nat) : nv (dig n) = n := by
  induction n using Nat.strongRecOn with
  | ind n ih =>
    by_cases h : n = 0
    · subst h; rw [dig_zero]; rfl
    · rw [dig_pos h, nv, ih _ (by omega)]; omega
theorem isD_dig (n : Nat) : isD (dig n) := by
  induction n using Nat.strongRecOn with
  | ind n ih =>
    by_cases h : n = 0
    · subst h; rw [dig_zero]; exact isD_nil
    · rw [dig_pos h]; exact isD_cons (by omega) (ih _ (by omega))
theorem nv_append (a b : List Nat) : nv (a ++ b) = nv a + 4294967296 ^ a.length * nv b := by
  induction a with
  | nil => simp [nv]
  | cons d a ih => simp only [List.cons_append, nv, ih, List.length_cons, Nat.pow_succ]; rw [Nat.mul_add, Nat.add_assoc, ← Nat.mul_assoc, Nat.mul_comm 4294967296 (4294967296 ^ a.length)]
theorem nv_snoc (a : List Nat) (d : Nat) : nv (a ++ [d]) = nv a + 4294967296 ^ a.length * d := by rw [nv_append]; simp [nv]
theorem nv_lt {l : List Nat} (h : isD l) : nv l < 4294967296 ^ l.length := by
  induction l with
  | nil => simp [nv]
  | cons d l ih =>
    have h1 := ih h.tail
    have h2 := h.head
    simp only [nv, List.length_cons, Nat.pow_succ]
    omega
theorem nv_zero {l : List Nat} (h : ∀ j, l.getD j 0 = 0) : nv l = 0 := by
  induction l with
  | nil => rfl
  | cons d l ih =>
    have h0 : d = 0 := h 0
    rw [nv, h0, ih fun j => h (j + 1)]
theorem nv_ext {a b : List Nat} (h : ∀ j, a.getD j 0 = b.getD j 0) : nv a = nv b := by
  induction a generalizing b with
  | nil => rw [nv, nv_zero fun j => (h j).symm.trans (by simp)]
  | cons d a ih =>
    cases b with
    | nil => rw [nv_zero h]; rfl
    | cons e b =>
      have h0 : d = e := h 0
      rw [nv, nv, h0, ih fun j => h (j + 1)]
theorem nv_split (l : List Nat) (i : Nat) : nv l = nv (l.take i) + 4294967296 ^ i * nv (l.drop i) := by
  rcases Nat.le_total l.length i with h | h
  · rw [List.take_of_length_le h, List.drop_of_length_le h]; simp [nv]
  · conv => lhs; rw [← List.take_append_drop i l]
    rw [nv_append, List.length_take, Nat.min_eq_left h]
theorem nv_take_succ (l : List Nat) (i : Nat) : nv (l.take (i + 1)) = nv (l.take i) + 4294967296 ^ i * l.getD i 0 := by
  rcases Nat.lt_or_ge i l.length with h | h
  · rw [List.take_succ_eq_append_getElem h, nv_snoc, List.length_take, Nat.min_eq_left (by omega), List.getD_eq_getElem?_getD, List.getElem?_eq_getElem h]; rfl
  · rw [List.take_of_length_le h, List.take_of_length_le (by omega), List.getD_eq_getElem?_getD, List.getElem?_eq_none h]; simp
theorem nv_take_all (l : List Nat) {i : Nat} (h : l.length ≤ i) : nv (l.take i) = nv l := by rw [List.take_of_length_le h]
/-- A list of digits without zeros at the top is the digits of its number. -/
theorem dig_nv {l : List Nat} (h : isD l) (ht : l ≠ [] → l.getD (l.length - 1) 0 ≠ 0) : dig (nv l) = l := by
  induction l with
  | nil => exact dig_zero
  | cons d l ih =>
    have h2 := h.head
    have hn : nv (d :: l) ≠ 0 := by
      cases l with
      | nil => have := ht (by simp); simp at this; simpa [nv] using this
      | cons e l =>
        have h3 := ih h.tail (fun _ => by have := ht (by simp); simpa using this)
        intro h0
        have h4 : nv (e :: l) = 0 := by simp only [nv] at h0 ⊢; omega
        rw [h4, dig_zero] at h3
        cases h3
    rw [dig_pos hn]
    have e1 : nv (d :: l) % 4294967296 = d := by rw [nv]; omega
    have e2 : nv (d :: l) / 4294967296 = nv l := by rw [nv]; omega
    rw [e1, e2, ih h.tail]
    intro hl
    have := ht (by simp)
    cases l with
    | nil => exact absurd rfl hl
    | cons e l => simpa using this
theorem dig_top (n : Nat) (h : dig n ≠ []) : (dig n).getD ((dig n).length - 1) 0 ≠ 0 := by
  induction n using Nat.strongRecOn with
  | ind n ih =>
    by_cases h0 : n = 0
    · subst h0; exact absurd dig_zero h
    · rw [dig_pos h0]
      by_cases h1 : n / 4294967296 = 0
      · rw [h1, dig_zero]; simp; omega
      · have h2 : dig (n / 4294967296) ≠ [] := by rw [dig_pos h1]; simp
        have := ih _ (by omega) h2
        have h3 : (dig (n / 4294967296)).length ≠ 0 := fun e => h2 (List.eq_nil_of_length_eq_zero e)
        rw [List.length_cons]
        obtain ⟨k, hk⟩ := Nat.exists_eq_succ_of_ne_zero h3
        rw [hk] at this ⊢
        simpa using this
/-- The zeros at the top cut off. -/
theorem take_dig {l : List Nat} (h : isD l) {n : Nat} (hn : n ≤ l.length) (hz : ∀ j, n ≤ j → l.getD j 0 = 0) (ht : n ≠ 0 → l.getD (n - 1) 0 ≠ 0) : l.take n = dig (nv l) := by
  have h1 : nv l = nv (l.take n) := by
    rw [nv_split l n, nv_zero (l := l.drop n), Nat.mul_zero, Nat.add_zero]
    intro j
    have := hz (n + j) (by omega)
    rw [List.getD_eq_getElem?_getD] at this ⊢
    rwa [List.getElem?_drop]
  rw [h1, dig_nv (h.take n)]
  intro hne
  rw [List.length_take, Nat.min_eq_left hn]
  have hn0 : n ≠ 0 := fun e => hne (by rw [e]; rfl)
  have := ht hn0
  rw [List.getD_eq_getElem?_getD] at this ⊢
  rwa [List.getElem?_take_of_lt (by omega)]
theorem dig_length {n k : Nat} (h : n < 4294967296 ^ k) : (dig n).length ≤ k := by
  induction k generalizing n with
  | zero => have : n = 0 := by simpa using h
            subst this; rw [dig_zero]; simp
  | succ k ih =>
    by_cases h0 : n = 0
    · subst h0; rw [dig_zero]; simp
    · rw [dig_pos h0, List.length_cons]
      have := ih (n := n / 4294967296) (by rw [Nat.pow_succ] at h; omega)
      omega
theorem dig_nil {n : Nat} : dig n = [] ↔ n = 0 := ⟨fun h => by rw [← nv_dig n, h]; rfl, fun h => by rw [h, dig_zero]⟩
theorem nv_set {l : List Nat} {i : Nat} (h : i < l.length) (y : Nat) : nv (l.set i y) + 4294967296 ^ i * l.getD i 0 = nv l + 4294967296 ^ i * y := by
  induction l generalizing i with
  | nil => simp at h
  | cons d l ih =>
    cases i with
    | zero => simp [nv]; omega
    | succ i =>
      have := ih (i := i) (by simpa using h)
      simp only [List.set_cons_succ, nv, Nat.pow_succ, List.getD_cons_succ]
      have e1 : 4294967296 ^ i * 4294967296 * l.getD i 0 = 4294967296 * (4294967296 ^ i * l.getD i 0) := by rw [Nat.mul_comm (4294967296 ^ i) 4294967296, Nat.mul_assoc]
      have e2 : 4294967296 ^ i * 4294967296 * y = 4294967296 * (4294967296 ^ i * y) := by rw [Nat.mul_comm (4294967296 ^ i) 4294967296, Nat.mul_assoc]
      rw [e1, e2]
      omega
theorem nv_replicate (n : Nat) : nv (List.replicate n 0) = 0 := nv_zero fun j => by
  rw [List.getD_eq_getElem?_getD, List.getElem?_replicate]; split <;> rfl
/-- Numbers are compared at the uppermost digit at which they differ. -/
theorem nv_cmp_lt {a b : List Nat} (ha : isD a) (i : Nat) (hz : ∀ j, i < j → a.getD j 0 = b.getD j 0) (hi : a.getD i 0 < b.getD i 0) : nv a < nv b := by
  have h1 := nv_split a (i + 1)
  have h2 := nv_split b (i + 1)
  have h3 : nv (a.drop (i + 1)) = nv (b.drop (i + 1)) := nv_ext fun j => by
    have := hz (i + 1 + j) (by omega)
    simp only [List.getD_eq_getElem?_getD, List.getElem?_drop] at this ⊢
    exact this
  rw [nv_take_succ] at h1 h2
  have h4 := nv_lt (ha.take i)
  have h5 : 4294967296 ^ (a.take i).length ≤ 4294967296 ^ i := Nat.pow_le_pow_right (by omega) (by rw [List.length_take]; omega)
  have h6 : 4294967296 ^ i * (a.getD i 0 + 1) ≤ 4294967296 ^ i * b.getD i 0 := Nat.mul_le_mul_left _ hi
  rw [Nat.mul_add, Nat.mul_one] at h6
  rw [h3] at h1
  omega
end Go.Proofs.Ytdodgnpjlicnoaa
