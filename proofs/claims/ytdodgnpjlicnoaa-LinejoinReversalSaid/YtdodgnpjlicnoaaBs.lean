/- The steps of the reference's arithmetic on digits: what each round does to the number; no program in sight. -/
import Derived.Test.YtdodgnpjlicnoaaBn
namespace Go.Proofs.Ytdodgnpjlicnoaa

theorem pow_succ32 (i : Nat) : 4294967296 ^ (i + 1) = 4294967296 * 4294967296 ^ i := by rw [Nat.pow_succ, Nat.mul_comm]
/-! ### Add -/
def AddR (a b : List Nat) (i : Nat) (L : List Nat) (c : Nat) : Prop := L.length = i ∧ isD L ∧ c ≤ 1 ∧ nv L + 4294967296 ^ i * c = nv (a.take i) + nv (b.take i)
theorem AddR.zero (a b : List Nat) : AddR a b 0 [] 0 := ⟨rfl, isD_nil, by omega, by simp [nv]⟩
theorem AddR.step {a b : List Nat} {i c : Nat} {L : List Nat} (ha : isD a) (hb : isD b) (h : AddR a b i L c) :
    AddR a b (i + 1) (L ++ [(a.getD i 0 + b.getD i 0 + c) % 4294967296]) ((a.getD i 0 + b.getD i 0 + c) / 4294967296) := by
  obtain ⟨hl, hd, hc, he⟩ := h
  have h1 := ha.getD i
  have h2 := hb.getD i
  refine ⟨by simp [hl], hd.append (.one (by omega)), by omega, ?_⟩
  rw [nv_snoc, hl, nv_take_succ, nv_take_succ, pow_succ32, Nat.mul_comm 4294967296 (4294967296 ^ i), Nat.mul_assoc, Nat.add_assoc, ← Nat.mul_add]
  rw [show (a.getD i 0 + b.getD i 0 + c) % 4294967296 + 4294967296 * ((a.getD i 0 + b.getD i 0 + c) / 4294967296) = a.getD i 0 + b.getD i 0 + c by omega]
  rw [Nat.mul_add, Nat.mul_add]
  omega
theorem AddR.done {a b L : List Nat} {c : Nat} (h : AddR a b (max a.length b.length) L c) : isD (L ++ [c]) ∧ nv (L ++ [c]) = nv a + nv b := by
  obtain ⟨hl, hd, hc, he⟩ := h
  refine ⟨hd.append (.one (by omega)), ?_⟩
  rw [nv_snoc, hl, he, nv_take_all _ (by omega), nv_take_all _ (by omega)]
/-! ### Sub -/
def SubR (a b : List Nat) (i : Nat) (L : List Nat) (c : Nat) : Prop := L.length = i ∧ isD L ∧ c ≤ 1 ∧ nv L + nv (b.take i) = nv (a.take i) + 4294967296 ^ i * c
theorem SubR.zero (a b : List Nat) : SubR a b 0 [] 0 := ⟨rfl, isD_nil, by omega, by simp [nv]⟩
theorem SubR.step {a b : List Nat} {i c : Nat} {L : List Nat} (ha : isD a) (hb : isD b) (h : SubR a b i L c) :
    SubR a b (i + 1) (L ++ [(4294967296 + a.getD i 0 - b.getD i 0 - c) % 4294967296]) (1 - (4294967296 + a.getD i 0 - b.getD i 0 - c) / 4294967296) := by
  obtain ⟨hl, hd, hc, he⟩ := h
  have h1 := ha.getD i
  have h2 := hb.getD i
  refine ⟨by simp [hl], hd.append (.one (by omega)), by omega, ?_⟩
  rw [nv_snoc, hl, nv_take_succ, nv_take_succ, pow_succ32]
  generalize nv L = x at *
  generalize nv (List.take i a) = ta at *
  generalize nv (List.take i b) = tb at *
  generalize a.getD i 0 = p at *
  generalize b.getD i 0 = q at *
  have e1 : (4294967296 + p - q - c) % 4294967296 + q + c = p + 4294967296 * (1 - (4294967296 + p - q - c) / 4294967296) := by omega
  have e2 := congrArg (4294967296 ^ i * ·) e1
  simp only [Nat.mul_add] at e2
  rw [← Nat.mul_assoc, Nat.mul_comm (4294967296 ^ i) 4294967296] at e2
  omega
theorem SubR.done {a b L : List Nat} {c : Nat} (ha : isD a) (hle : nv b ≤ nv a) (h : SubR a b a.length L c) : nv L = nv a - nv b := by
  obtain ⟨hl, hd, hc, he⟩ := h
  have h1 := nv_lt ha
  have h2 := nv_lt hd
  have h3 := nv_split b a.length
  rw [hl] at h2
  rw [nv_take_all a (Nat.le_refl _)] at he
  have h4 : nv (b.drop a.length) = 0 := by
    rcases Nat.eq_zero_or_pos (nv (b.drop a.length)) with h | h
    · exact h
    · have := Nat.mul_le_mul_left (4294967296 ^ a.length) h
      omega
  rw [h4, Nat.mul_zero, Nat.add_zero] at h3
  have h5 : c = 0 := by
    rcases Nat.eq_zero_or_pos c with h | h
    · exact h
    · have : c = 1 := by omega
      subst this
      omega
  subst h5
  omega
/-! ### Times -/
def TimesR (a : List Nat) (d i : Nat) (L : List Nat) (c : Nat) : Prop := L.length = i ∧ isD L ∧ c < 4294967296 ∧ nv L + 4294967296 ^ i * c = nv (a.take i) * d
theorem TimesR.zero (a : List Nat) (d : Nat) : TimesR a d 0 [] 0 := ⟨rfl, isD_nil, by omega, by simp [nv]⟩
theorem mul_digits {x y c d : Nat} (hx : x < 4294967296) (hy : y < 4294967296) (hc : c < 4294967296) (hd : d < 4294967296) : x * y + d + c < 18446744073709551616 := by
  have := Nat.mul_le_mul (show x ≤ 4294967295 by omega) (show y ≤ 4294967295 by omega)
  omega
theorem TimesR.step {a : List Nat} {d i c : Nat} {L : List Nat} (ha : isD a) (hd : d < 4294967296) (h : TimesR a d i L c) :
    TimesR a d (i + 1) (L ++ [(a.getD i 0 * d + c) % 4294967296]) ((a.getD i 0 * d + c) / 4294967296) := by
  obtain ⟨hl, hD, hc, he⟩ := h
  have h1 := ha.getD i
  have h2 := mul_digits h1 hd hc (show 0 < 4294967296 by omega)
  refine ⟨by simp [hl], hD.append (.one (by omega)), by omega, ?_⟩
  rw [nv_snoc, hl, nv_take_succ, pow_succ32, Nat.mul_comm 4294967296 (4294967296 ^ i), Nat.mul_assoc, Nat.add_assoc, ← Nat.mul_add]
  rw [show (a.getD i 0 * d + c) % 4294967296 + 4294967296 * ((a.getD i 0 * d + c) / 4294967296) = a.getD i 0 * d + c by omega]
  rw [Nat.mul_add, Nat.add_mul, ← Nat.mul_assoc]
  omega
theorem TimesR.done {a L : List Nat} {d c : Nat} (h : TimesR a d a.length L c) : isD (L ++ [c]) ∧ nv (L ++ [c]) = nv a * d := by
  obtain ⟨hl, hd, hc, he⟩ := h
  exact ⟨hd.append (.one hc), by rw [nv_snoc, hl, he, nv_take_all _ (Nat.le_refl _)]⟩
/-! ### Mul -/
/-- After i rows: the cells behind are still zero. -/
def MulR (a b : List Nat) (i : Nat) (L : List Nat) : Prop := L.length = a.length + b.length + 1 ∧ isD L ∧ (∀ j, i + b.length ≤ j → L.getD j 0 = 0) ∧ nv L = nv (a.take i) * nv b
/-- Inside row i, after k digits. -/
def MulI (a b : List Nat) (i k : Nat) (L : List Nat) (c : Nat) : Prop := L.length = a.length + b.length + 1 ∧ isD L ∧ (∀ j, i + b.length ≤ j → L.getD j 0 = 0) ∧ c < 4294967296 ∧
  nv L + 4294967296 ^ (i + k) * c = nv (a.take i) * nv b + 4294967296 ^ i * (a.getD i 0 * nv (b.take k))
theorem MulR.zero (a b : List Nat) : MulR a b 0 (List.replicate (a.length + b.length + 1) 0) := ⟨by simp, isD_replicate _, fun j _ => by
  rw [List.getD_eq_getElem?_getD, List.getElem?_replicate]; split <;> rfl, by rw [nv_replicate]; simp [nv]⟩
theorem MulI.zero {a b L : List Nat} {i : Nat} (h : MulR a b i L) : MulI a b i 0 L 0 := by
  obtain ⟨hl, hd, hz, he⟩ := h
  exact ⟨hl, hd, hz, by omega, by simp [nv, he]⟩
theorem MulI.step {a b L : List Nat} {i k c : Nat} (ha : isD a) (hb : isD b) (hi : i < a.length) (hk : k < b.length) (h : MulI a b i k L c) :
    MulI a b i (k + 1) (L.set (i + k) ((a.getD i 0 * b.getD k 0 + L.getD (i + k) 0 + c) % 4294967296)) ((a.getD i 0 * b.getD k 0 + L.getD (i + k) 0 + c) / 4294967296) := by
  obtain ⟨hl, hd, hz, hc, he⟩ := h
  have h1 := ha.getD i
  have h2 := hb.getD k
  have h3 := hd.getD (i + k)
  have h4 := mul_digits h1 h2 hc h3
  have h5 := nv_set (l := L) (i := i + k) (by omega) ((a.getD i 0 * b.getD k 0 + L.getD (i + k) 0 + c) % 4294967296)
  refine ⟨by simp [hl], hd.set _ (by omega), ?_, by omega, ?_⟩
  · intro j hj
    rw [List.getD_eq_getElem?_getD, List.getElem?_set_ne (by omega), ← List.getD_eq_getElem?_getD]
    exact hz j hj
  · generalize hn : a.getD i 0 * b.getD k 0 + L.getD (i + k) 0 + c = n at *
    have e1 : n % 4294967296 + 4294967296 * (n / 4294967296) = n := by omega
    have e2 := congrArg (4294967296 ^ (i + k) * ·) e1
    have e3 := congrArg (4294967296 ^ (i + k) * ·) hn
    simp only [Nat.mul_add] at e2 e3
    rw [nv_take_succ, ← Nat.add_assoc i k 1, pow_succ32, Nat.mul_comm 4294967296 (4294967296 ^ (i + k)), Nat.mul_assoc]
    have e4 : 4294967296 ^ i * (a.getD i 0 * (nv (b.take k) + 4294967296 ^ k * b.getD k 0)) = 4294967296 ^ i * (a.getD i 0 * nv (b.take k)) + 4294967296 ^ (i + k) * (a.getD i 0 * b.getD k 0) := by
      rw [Nat.mul_add, Nat.mul_add, Nat.pow_add]
      congr 1
      rw [Nat.mul_assoc, Nat.mul_left_comm (a.getD i 0)]
    rw [e4]
    omega
theorem MulR.step {a b L : List Nat} {i c : Nat} (hi : i < a.length) (h : MulI a b i b.length L c) : MulR a b (i + 1) (L.set (i + b.length) c) := by
  obtain ⟨hl, hd, hz, hc, he⟩ := h
  have h5 := nv_set (l := L) (i := i + b.length) (by omega) c
  rw [hz _ (Nat.le_refl _)] at h5
  refine ⟨by simp [hl], hd.set _ hc, ?_, ?_⟩
  · intro j hj
    rw [List.getD_eq_getElem?_getD, List.getElem?_set_ne (by omega), ← List.getD_eq_getElem?_getD]
    exact hz j (by omega)
  · rw [nv_take_all b (Nat.le_refl _)] at he
    rw [nv_take_succ, Nat.add_mul, Nat.mul_assoc (4294967296 ^ i)]
    omega
theorem MulR.done {a b L : List Nat} (h : MulR a b a.length L) : nv L = nv a * nv b := by rw [h.2.2.2, nv_take_all _ (Nat.le_refl _)]
/-! ### up: a shift to the left -/
def UpR (a : List Nat) (n s : Nat) (i : Nat) (L : List Nat) (c : Nat) : Prop := L.length = n + i ∧ isD L ∧ c < 2 ^ s ∧ nv L + 4294967296 ^ (n + i) * c = 4294967296 ^ n * (nv (a.take i) * 2 ^ s)
theorem UpR.zero (a : List Nat) (n s : Nat) : UpR a n s 0 (List.replicate n 0) 0 := ⟨by simp, isD_replicate _, Nat.two_pow_pos s, by rw [nv_replicate]; simp [nv]⟩
theorem UpR.step {a L : List Nat} {n s i c : Nat} (ha : isD a) (h : UpR a n s i L c) :
    UpR a n s (i + 1) (L ++ [(a.getD i 0 * 2 ^ s + c) % 4294967296]) ((a.getD i 0 * 2 ^ s + c) / 4294967296) := by
  obtain ⟨hl, hD, hc, he⟩ := h
  have h1 := ha.getD i
  refine ⟨by simp [hl, Nat.add_assoc], hD.append (.one (by omega)), ?_, ?_⟩
  · refine (Nat.div_lt_iff_lt_mul (by omega)).2 ?_
    have := Nat.mul_le_mul_right (2 ^ s) (show a.getD i 0 + 1 ≤ 4294967296 by omega)
    rw [Nat.add_mul, Nat.one_mul] at this
    rw [Nat.mul_comm (2 ^ s)]
    omega
  · generalize hn : a.getD i 0 * 2 ^ s + c = m at *
    have e1 : m % 4294967296 + 4294967296 * (m / 4294967296) = m := by omega
    have e2 := congrArg (4294967296 ^ (n + i) * ·) e1
    have e3 := congrArg (4294967296 ^ (n + i) * ·) hn
    simp only [Nat.mul_add] at e2 e3
    rw [nv_snoc, hl, nv_take_succ, ← Nat.add_assoc n i 1, pow_succ32, Nat.mul_comm 4294967296 (4294967296 ^ (n + i)), Nat.mul_assoc, Nat.add_mul, Nat.mul_add]
    have e4 : 4294967296 ^ n * (4294967296 ^ i * a.getD i 0 * 2 ^ s) = 4294967296 ^ (n + i) * (a.getD i 0 * 2 ^ s) := by rw [Nat.pow_add, Nat.mul_assoc, Nat.mul_assoc]
    rw [e4]
    omega
theorem UpR.done {a L : List Nat} {n s c : Nat} (hs : s < 32) (h : UpR a n s a.length L c) : isD (L ++ [c]) ∧ nv (L ++ [c]) = nv a * 2 ^ (32 * n + s) := by
  obtain ⟨hl, hd, hc, he⟩ := h
  have hb : (2 : Nat) ^ s ≤ 2 ^ 32 := Nat.pow_le_pow_right (by omega) (by omega)
  refine ⟨hd.append (.one (by omega)), ?_⟩
  rw [nv_snoc, hl, he, nv_take_all _ (Nat.le_refl _), Nat.pow_add, Nat.pow_mul, show (2 : Nat) ^ 32 = 4294967296 from rfl, Nat.mul_left_comm]
/-! ### A shift to the right -/
theorem nv_div (l : List Nat) (i : Nat) (h : isD l) : nv l / 4294967296 ^ i = nv (l.drop i) := by
  rw [nv_split l i]
  have h1 := nv_lt (h.take i)
  have h2 : 4294967296 ^ (l.take i).length ≤ 4294967296 ^ i := Nat.pow_le_pow_right (by omega) (by rw [List.length_take]; omega)
  rw [Nat.add_comm, Nat.mul_add_div (Nat.pow_pos (by omega)), Nat.div_eq_of_lt (by omega), Nat.add_zero]
/-- L: the lower i digits of nv a / 2^s. -/
def DownR (a : List Nat) (s i : Nat) (L : List Nat) : Prop := L.length = i ∧ isD L ∧ nv L = nv a / 2 ^ s % 4294967296 ^ i
theorem DownR.zero (a : List Nat) (s : Nat) : DownR a s 0 [] := ⟨rfl, isD_nil, by simp [nv, Nat.mod_one]⟩
theorem nv_drop (l : List Nat) (i : Nat) : nv (l.drop i) = l.getD i 0 + 4294967296 * nv (l.drop (i + 1)) := by
  rcases Nat.lt_or_ge i l.length with h | h
  · rw [List.drop_eq_getElem_cons h, nv, List.getD_eq_getElem?_getD, List.getElem?_eq_getElem h]; rfl
  · rw [List.drop_of_length_le h, List.drop_of_length_le (by omega), List.getD_eq_getElem?_getD, List.getElem?_eq_none h]; simp [nv]
theorem mod_pow_succ (x i : Nat) : x % 4294967296 ^ (i + 1) = x % 4294967296 ^ i + 4294967296 ^ i * (x / 4294967296 ^ i % 4294967296) := by rw [Nat.pow_succ, Nat.mod_mul]
theorem DownR.step {a L : List Nat} {s i : Nat} (ha : isD a) (hs : s < 32) (h : DownR a s i L) :
    DownR a s (i + 1) (L ++ [(a.getD (i + 1) 0 * 4294967296 + a.getD i 0) / 2 ^ s % 4294967296]) := by
  obtain ⟨hl, hD, he⟩ := h
  refine ⟨by simp [hl], hD.append (.one (by omega)), ?_⟩
  rw [nv_snoc, hl, he, mod_pow_succ]
  congr 2
  rw [Nat.div_div_eq_div_mul, Nat.mul_comm (2 ^ s), ← Nat.div_div_eq_div_mul, nv_div a i ha, nv_drop, nv_drop]
  have hp : (4294967296 : Nat) = 2 ^ (32 - s) * 2 ^ s := by rw [← Nat.pow_add, show 32 - s + s = 32 by omega]
  have e : a.getD i 0 + 4294967296 * (a.getD (i + 1) 0 + 4294967296 * nv (a.drop (i + 1 + 1))) =
      (a.getD (i + 1) 0 * 4294967296 + a.getD i 0) + 2 ^ s * (4294967296 * (2 ^ (32 - s) * nv (a.drop (i + 1 + 1)))) := by
    have : 2 ^ s * (4294967296 * (2 ^ (32 - s) * nv (a.drop (i + 1 + 1)))) = 4294967296 * (4294967296 * nv (a.drop (i + 1 + 1))) := by
      rw [Nat.mul_left_comm, ← Nat.mul_assoc (2 ^ s), Nat.mul_comm (2 ^ s) (2 ^ (32 - s)), ← hp]
    omega
  rw [e, Nat.add_mul_div_left _ _ (Nat.two_pow_pos s), Nat.add_mul_mod_self_left]
theorem DownR.done {a L : List Nat} {s : Nat} (ha : isD a) (h : DownR a s a.length L) : nv L = nv a / 2 ^ s := by
  rw [h.2.2, Nat.mod_eq_of_lt]
  exact Nat.lt_of_le_of_lt (Nat.div_le_self _ _) (nv_lt ha)
/-! ### BitLen -/
def bl (n : Nat) : Nat := if n = 0 then 0 else Nat.log2 n + 1
theorem bl_half {n : Nat} (h : n ≠ 0) : bl n = bl (n / 2) + 1 := by
  unfold bl
  rw [if_neg h]
  by_cases h1 : n / 2 = 0
  · rw [if_pos h1]
    have : n = 1 := by omega
    subst this; rfl
  · rw [if_neg h1, Nat.log2_def n, if_pos (by omega)]
theorem bl_lt {n k : Nat} : n < 2 ^ k ↔ bl n ≤ k := by
  unfold bl
  by_cases h : n = 0
  · subst h; simp [Nat.two_pow_pos]
  · rw [if_neg h, ← Nat.log2_lt h]; omega
theorem bl_top {l : List Nat} {k : Nat} (h : isD l) (hl : l.length = k + 1) (ht : l.getD k 0 ≠ 0) : bl (nv l) = 32 * k + bl (l.getD k 0) := by
  have h1 := nv_split l k
  have h2 := nv_lt (h.take k)
  have h3 : (l.take k).length = k := by rw [List.length_take]; omega
  rw [h3] at h2
  rw [nv_drop, List.drop_of_length_le (by omega)] at h1
  simp only [nv, Nat.mul_zero, Nat.add_zero] at h1
  generalize l.getD k 0 = t at *
  have hp : (4294967296 : Nat) ^ k = 2 ^ (32 * k) := by rw [Nat.pow_mul]
  rw [hp] at h1 h2
  have hb0 : bl t ≠ 0 := by unfold bl; rw [if_neg ht]; omega
  apply Nat.le_antisymm
  · rw [← bl_lt]
    have h4 := bl_lt.2 (Nat.le_refl (bl t))
    have h5 := Nat.mul_le_mul_left (2 ^ (32 * k)) (show t + 1 ≤ 2 ^ bl t from h4)
    rw [← Nat.pow_add, Nat.mul_add] at h5
    omega
  · have h4 : ¬ t < 2 ^ (bl t - 1) := fun h => by have := bl_lt.1 h; omega
    have h5 := Nat.mul_le_mul_left (2 ^ (32 * k)) (show 2 ^ (bl t - 1) ≤ t by omega)
    rw [← Nat.pow_add] at h5
    have h6 : ¬ bl (nv l) ≤ 32 * k + (bl t - 1) := fun h => by have := bl_lt.2 h; omega
    omega
/-! ### Long division -/
def DivR (u : List Nat) (v i : Nat) (q : List Nat) (r : Nat) : Prop := q.length = u.length ∧ isD q ∧ nv (u.drop i) = nv (q.drop i) * v + r ∧ r < v
theorem DivR.zero {u : List Nat} {v : Nat} (hv : 0 < v) : DivR u v u.length (List.replicate u.length 0) 0 := ⟨by simp, isD_replicate _, by simp [nv], hv⟩
theorem digit_lt {d v r : Nat} (hd : d < 4294967296) (hr : r < v) : d + 4294967296 * r < 4294967296 * v := by omega
theorem DivR.step {u q : List Nat} {v i r : Nat} (hu : isD u) (hi : i < u.length) (h : DivR u v (i + 1) q r) :
    DivR u v i (q.set i ((u.getD i 0 + 4294967296 * r) / v)) ((u.getD i 0 + 4294967296 * r) % v) := by
  obtain ⟨hl, hD, he, hr⟩ := h
  have h1 := hu.getD i
  have h2 := digit_lt h1 hr
  have hv : 0 < v := by omega
  refine ⟨by simp [hl], hD.set _ ((Nat.div_lt_iff_lt_mul hv).2 h2), ?_, Nat.mod_lt _ hv⟩
  rw [nv_drop u i, he]
  have e : (q.set i ((u.getD i 0 + 4294967296 * r) / v)).drop i = (u.getD i 0 + 4294967296 * r) / v :: q.drop (i + 1) := by
    rw [List.drop_set, if_neg (by omega), Nat.sub_self, List.drop_eq_getElem_cons (by omega)]; rfl
  rw [e, nv, Nat.add_mul, Nat.mul_add, Nat.mul_assoc]
  have := Nat.div_add_mod (u.getD i 0 + 4294967296 * r) v
  rw [Nat.mul_comm v] at this
  omega
theorem DivR.done {u q : List Nat} {v r : Nat} (h : DivR u v 0 q r) : nv q = nv u / v ∧ r = nv u % v := by
  obtain ⟨hl, hD, he, hr⟩ := h
  rw [List.drop_zero, List.drop_zero] at he
  rw [he, Nat.mul_comm, Nat.mul_add_div (by omega), Nat.mul_add_mod, Nat.div_eq_of_lt hr, Nat.mod_eq_of_lt hr]
  exact ⟨rfl, rfl⟩
/-- The guess at a quotient's digit is not too small. -/
theorem often_ge {r b : List Nat} {n : Nat} (hr : isD r) (hb : isD b) (hn : b.length = n + 1) (hlt : nv r < 4294967296 * nv b) (ht : 0 < b.getD n 0) :
    nv r / nv b ≤ (r.getD (n + 1) 0 * 4294967296 + r.getD n 0) / b.getD n 0 := by
  have h1 := nv_div r n hr
  have h2 := nv_div r (n + 1 + 1) hr
  have h3 := nv_lt hb
  rw [hn] at h3
  have h4 : nv r / 4294967296 ^ (n + 1 + 1) = 0 := Nat.div_eq_of_lt (by rw [Nat.pow_succ]; omega)
  rw [h4] at h2
  rw [nv_drop, nv_drop, ← h2] at h1
  have h5 : 4294967296 ^ n * b.getD n 0 ≤ nv b := by
    have := nv_split b n
    rw [nv_drop b n, Nat.mul_add] at this
    omega
  refine (Nat.le_div_iff_mul_le ht).2 ?_
  rw [show r.getD (n + 1) 0 * 4294967296 + r.getD n 0 = nv r / 4294967296 ^ n by rw [h1]; omega]
  refine (Nat.le_div_iff_mul_le (Nat.pow_pos (by omega))).2 ?_
  have h6 := Nat.mul_le_mul_left (nv r / nv b) h5
  have h7 := Nat.div_mul_le_self (nv r) (nv b)
  rw [Nat.mul_comm (4294967296 ^ n), ← Nat.mul_assoc] at h6
  omega
theorem often_step {d q b r : Nat} (hq : q = r / b) (hd : q ≤ d) (h : r < d * b) : q ≤ d - 1 ∧ d ≠ 0 := by
  have h1 : d ≠ q := by
    rintro rfl
    have := Nat.div_mul_le_self r b
    rw [← hq] at this
    omega
  omega
theorem often_done {d q b r : Nat} (hq : q = r / b) (hb : 0 < b) (hd : q ≤ d) (h : d * b ≤ r) : d = r / b ∧ r - d * b = r % b := by
  have h1 : d ≤ r / b := (Nat.le_div_iff_mul_le hb).2 h
  have h2 : d = r / b := by omega
  refine ⟨h2, ?_⟩
  have := Nat.div_add_mod r b
  rw [Nat.mul_comm] at this
  rw [h2]
  omega
end Go.Proofs.Ytdodgnpjlicnoaa
