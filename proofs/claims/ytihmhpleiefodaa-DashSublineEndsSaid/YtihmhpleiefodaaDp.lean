/- The maximal intervals of a set of integers; the dash pattern as such a set: plain arithmetic. -/
import Derived.Test.YtihmhpleiefodaaQp
namespace Go.Proofs.Ytihmhpleiefodaa
set_option linter.unusedVariables false
set_option linter.unusedSimpArgs false
/-! ### Maximal intervals -/
/-- L holds the maximal intervals of 'on' from a to z, in increasing order. -/
def IvOf (on : Int → Bool) (z : Int) : Int → List (Int × Int) → Prop
  | a, [] => ∀ x, a ≤ x → x < z → on x = false
  | a, (s, e) :: r => a ≤ s ∧ s < e ∧ e ≤ z ∧ (∀ x, a ≤ x → x < s → on x = false) ∧ (∀ x, s ≤ x → x < e → on x = true) ∧ (e < z → on e = false) ∧ IvOf on z e r
theorem IvOf.unique {on : Int → Bool} {z : Int} : ∀ {L M : List (Int × Int)} {a : Int}, IvOf on z a L → IvOf on z a M → L = M
  | [], [], a, _, _ => rfl
  | [], (s, e) :: r, a, h, ⟨h1, h2, h3, _, h5, _⟩ => by
    have := h s h1 (by omega)
    rw [h5 s (Int.le_refl _) h2] at this; cases this
  | (s, e) :: r, [], a, ⟨h1, h2, h3, _, h5, _⟩, h => by
    have := h s h1 (by omega)
    rw [h5 s (Int.le_refl _) h2] at this; cases this
  | (s, e) :: r, (s', e') :: r', a, ⟨h1, h2, h3, h4, h5, h6, h7⟩, ⟨k1, k2, k3, k4, k5, k6, k7⟩ => by
    have es : s = s' := by
      rcases Int.lt_trichotomy s s' with h | h | h
      · have := k4 s h1 h; rw [h5 s (Int.le_refl _) h2] at this; cases this
      · exact h
      · have := h4 s' k1 h; rw [k5 s' (Int.le_refl _) k2] at this; cases this
    subst es
    have ee : e = e' := by
      rcases Int.lt_trichotomy e e' with h | h | h
      · have := h6 (by omega); rw [k5 e (by omega) h] at this; cases this
      · exact h
      · have := k6 (by omega); rw [h5 e' (by omega) h] at this; cases this
    subst ee
    rw [IvOf.unique h7 k7]
/-- They are computed from the right. -/
def ivF (on : Int → Bool) : Int → Nat → List (Int × Int)
  | _, 0 => []
  | a, f + 1 => if on a = true then (match ivF on (a + 1) f with
      | [] => [(a, a + 1)]
      | (s, e) :: r => if s = a + 1 then (a, e) :: r else (a, a + 1) :: (s, e) :: r)
    else ivF on (a + 1) f
theorem ivF_of (on : Int → Bool) : ∀ (f : Nat) (a : Int), IvOf on (a + f) a (ivF on a f)
  | 0, a => fun x h1 h2 => by omega
  | f + 1, a => by
    have ih := ivF_of on f (a + 1)
    rw [show a + 1 + (f : Int) = a + ((f + 1 : Nat) : Int) by omega] at ih
    unfold ivF
    by_cases ha : on a = true
    · rw [if_pos ha]
      generalize ivF on (a + 1) f = L at ih
      match L, ih with
      | [], ih =>
        refine ⟨Int.le_refl _, by omega, by omega, fun x h1 h2 => by omega, fun x h1 h2 => ?_, fun h => ih (a + 1) (Int.le_refl _) h, ih⟩
        rw [show x = a by omega]; exact ha
      | (s, e) :: r, ⟨h1, h2, h3, h4, h5, h6, h7⟩ =>
        dsimp only
        by_cases hs : s = a + 1
        · subst hs
          rw [if_pos rfl]
          refine ⟨Int.le_refl _, by omega, h3, fun x h1 h2 => by omega, fun x k1 k2 => ?_, h6, h7⟩
          by_cases hx : x = a
          · rw [hx]; exact ha
          · exact h5 x (by omega) k2
        · rw [if_neg hs]
          refine ⟨Int.le_refl _, by omega, by omega, fun x h1 h2 => by omega, fun x k1 k2 => ?_, fun _ => h4 (a + 1) (Int.le_refl _) (by omega), h1, h2, h3, h4, h5, h6, h7⟩
          rw [show x = a by omega]; exact ha
    · rw [if_neg ha]
      have ha : on a = false := by simpa using ha
      generalize ivF on (a + 1) f = L at ih
      match L, ih with
      | [], ih =>
        intro x h1 h2
        by_cases hx : x = a
        · rw [hx]; exact ha
        · exact ih x (by omega) h2
      | (s, e) :: r, ⟨h1, h2, h3, h4, h5, h6, h7⟩ =>
        refine ⟨by omega, h2, h3, fun x k1 k2 => ?_, h5, h6, h7⟩
        by_cases hx : x = a
        · rw [hx]; exact ha
        · exact h4 x (by omega) k2
/-- The maximal intervals of 'on' from 0 to z. -/
def ivs (on : Int → Bool) (z : Int) : List (Int × Int) := ivF on 0 z.toNat
theorem ivs_of (on : Int → Bool) (z : Int) (hz : 0 ≤ z) : IvOf on z 0 (ivs on z) := by
  have := ivF_of on z.toNat 0
  rwa [show (0 : Int) + (z.toNat : Int) = z by omega] at this
theorem iv_ex (on : Int → Bool) (z a : Int) (h : a ≤ z) : ∃ r, IvOf on z a r := by
  have := ivF_of on (z - a).toNat a
  rw [show a + ((z - a).toNat : Int) = z by omega] at this
  exact ⟨_, this⟩
theorem IvOf.back {on : Int → Bool} {z a b : Int} {r : List (Int × Int)} (h : IvOf on z b r) (hab : a ≤ b) (hoff : ∀ x, a ≤ x → x < b → on x = false) : IvOf on z a r := by
  match r, h with
  | [], h => exact fun x h1 h2 => if hx : x < b then hoff x h1 hx else h x (by omega) h2
  | (s, e) :: r, ⟨h1, h2, h3, h4, h5, h6, h7⟩ => exact ⟨by omega, h2, h3, fun x k1 k2 => if hx : x < b then hoff x k1 hx else h4 x (by omega) k2, h5, h6, h7⟩
theorem IvOf.bounds {on : Int → Bool} {z : Int} : ∀ {L : List (Int × Int)} {a : Int}, IvOf on z a L → ∀ p ∈ L, a ≤ p.1 ∧ p.1 < p.2 ∧ p.2 ≤ z
  | [], a, _, p, hp => by cases hp
  | (s, e) :: r, a, ⟨h1, h2, h3, h4, h5, h6, h7⟩, p, hp => by
    rcases List.mem_cons.1 hp with rfl | hp
    · exact ⟨h1, h2, h3⟩
    · have := IvOf.bounds h7 p hp
      exact ⟨by omega, this.2⟩
theorem IvOf.len {on : Int → Bool} {z : Int} : ∀ {L : List (Int × Int)} {a : Int}, a ≤ z → IvOf on z a L → (L.length : Int) ≤ z - a
  | [], a, h, _ => by simp; omega
  | (s, e) :: r, a, h, ⟨h1, h2, h3, h4, h5, h6, h7⟩ => by
    have := IvOf.len h3 h7
    simp only [List.length_cons]
    omega
/-! ### States of a machine that goes from left to right -/
/-- The intervals 'pre' are whole and none is open at 'at'. -/
def Open0 (on : Int → Bool) (z : Int) (pre : List (Int × Int)) (a : Int) : Prop := ∀ r, IvOf on z a r → IvOf on z 0 (pre ++ r)
/-- The intervals 'pre' are whole and one is open from 's' on. -/
def Open1 (on : Int → Bool) (z : Int) (pre : List (Int × Int)) (s a : Int) : Prop := s < a ∧ 0 ≤ s ∧ (∀ x, s ≤ x → x < a → on x = true) ∧ Open0 on z pre s
theorem open0_start (on : Int → Bool) (z : Int) : Open0 on z [] 0 := fun r h => h
theorem Open0.off {on : Int → Bool} {z : Int} {pre : List (Int × Int)} {a b : Int} (h : Open0 on z pre a) (hab : a ≤ b) (hoff : ∀ x, a ≤ x → x < b → on x = false) : Open0 on z pre b := fun r hr => h r (hr.back hab hoff)
theorem Open0.on {on : Int → Bool} {z : Int} {pre : List (Int × Int)} {a b : Int} (h : Open0 on z pre a) (h0 : 0 ≤ a) (hab : a < b) (hon : ∀ x, a ≤ x → x < b → on x = true) : Open1 on z pre a b := ⟨hab, h0, hon, h⟩
theorem Open1.on {on : Int → Bool} {z : Int} {pre : List (Int × Int)} {s a b : Int} (h : Open1 on z pre s a) (hab : a ≤ b) (hon : ∀ x, a ≤ x → x < b → on x = true) : Open1 on z pre s b :=
  ⟨by have := h.1; omega, h.2.1, fun x h1 h2 => if hx : x < a then h.2.2.1 x h1 hx else hon x (by omega) h2, h.2.2.2⟩
theorem Open1.close {on : Int → Bool} {z : Int} {pre : List (Int × Int)} {s a : Int} (h : Open1 on z pre s a) (haz : a ≤ z) (hoff : a < z → on a = false) : Open0 on z (pre ++ [(s, a)]) a := fun r hr => by
  rw [List.append_assoc]
  exact h.2.2.2 _ ⟨Int.le_refl _, h.1, haz, fun x h1 h2 => by omega, h.2.2.1, hoff, hr⟩
theorem Open0.done {on : Int → Bool} {z : Int} {pre : List (Int × Int)} (hz : 0 ≤ z) (h : Open0 on z pre z) : pre = ivs on z := by
  have := h [] (fun x h1 h2 => by omega)
  rw [List.append_nil] at this
  exact this.unique (ivs_of on z hz)
theorem Open0.pre {on : Int → Bool} {z : Int} {pre : List (Int × Int)} {a : Int} (hz : 0 ≤ z) (h : Open0 on z pre a) (ha : a ≤ z) : pre <+: ivs on z := by
  obtain ⟨r, hr⟩ := iv_ex on z a ha
  exact ⟨r, (h r hr).unique (ivs_of on z hz)⟩
theorem Open1.more {on : Int → Bool} {z : Int} {pre : List (Int × Int)} {s a : Int} (hz : 0 ≤ z) (h : Open1 on z pre s a) (ha : a ≤ z) : pre.length < (ivs on z).length := by
  obtain ⟨r, hr⟩ := iv_ex on z s (by have := h.1; omega)
  have e := (h.2.2.2 r hr).unique (ivs_of on z hz)
  match r, hr with
  | [], hr =>
    have h1 := hr s (Int.le_refl _) (by have := h.1; omega)
    rw [h.2.2.1 s (Int.le_refl _) h.1] at h1; cases h1
  | p :: r, _ => rw [← e]; simp
theorem ivs_all (on : Int → Bool) (z : Int) (hz : 0 < z) (h : ∀ x, 0 ≤ x → x < z → on x = true) : ivs on z = [(0, z)] :=
  (ivs_of on z (by omega)).unique ⟨Int.le_refl _, hz, Int.le_refl _, fun x h1 h2 => by omega, h, fun h => by omega, fun x h1 h2 => by omega⟩
theorem ivs_none (on : Int → Bool) (z : Int) (hz : 0 ≤ z) (h : ∀ x, 0 ≤ x → x < z → on x = false) : ivs on z = [] := (ivs_of on z hz).unique h
/-! ### The dash pattern -/
/-- The length of the first k entries. -/
def sumK (D : List Int) : Nat → Int
  | 0 => 0
  | k + 1 => sumK D k + 256 * D.getD k 0
theorem sumK_succ (D : List Int) (k : Nat) : sumK D (k + 1) = sumK D k + 256 * D.getD k 0 := rfl
/-- All entries are from 0 to 2^20. -/
def okD (D : List Int) : Prop := ∀ k, 0 ≤ D.getD k 0 ∧ D.getD k 0 ≤ 1048576
theorem sumK_mono {D : List Int} (h : okD D) : ∀ {i j : Nat}, i ≤ j → sumK D i ≤ sumK D j := by
  intro i j hij
  obtain ⟨d, rfl⟩ := Nat.exists_eq_add_of_le hij
  induction d with
  | zero => exact Int.le_refl _
  | succ d ih =>
    have h1 := ih (by omega)
    have h2 := h (i + d)
    rw [← Nat.add_assoc, sumK_succ]
    omega
theorem sumK_bd {D : List Int} (h : okD D) : ∀ k : Nat, 0 ≤ sumK D k ∧ sumK D k ≤ 268435456 * (k : Int)
  | 0 => by simp [sumK]
  | k + 1 => by
    have h1 := sumK_bd h k
    have h2 := h k
    rw [sumK_succ]
    omega
def totD (D : List Int) : Int := sumK D D.length
/-- entry i of the pattern holds position k -/
def AtD (D : List Int) (k : Int) (i : Nat) : Prop := i < D.length ∧ sumK D i ≤ k ∧ k < sumK D (i + 1)
theorem AtD.unique {D : List Int} (h : okD D) {k : Int} {i j : Nat} (hi : AtD D k i) (hj : AtD D k j) : i = j := by
  rcases Nat.lt_trichotomy i j with e | e | e
  · have := sumK_mono h (show i + 1 ≤ j from e); have := hi.2.2; have := hj.2.1; omega
  · exact e
  · have := sumK_mono h (show j + 1 ≤ i from e); have := hj.2.2; have := hi.2.1; omega
/-- position k is in an entry of even number -/
def onK (D : List Int) (k : Int) : Bool := (List.range D.length).any fun i => decide (i % 2 = 0) && decide (sumK D i ≤ k) && decide (k < sumK D (i + 1))
theorem onK_of {D : List Int} (h : okD D) {k : Int} {i : Nat} (hi : AtD D k i) : onK D k = decide (i % 2 = 0) := by
  cases hb : onK D k with
  | true =>
    unfold onK at hb
    rw [List.any_eq_true] at hb
    obtain ⟨j, hj, hx⟩ := hb
    simp only [Bool.and_eq_true, decide_eq_true_eq] at hx
    obtain rfl := hi.unique h ⟨List.mem_range.1 hj, hx.1.2, hx.2⟩
    exact (decide_eq_true hx.1.1).symm
  | false =>
    symm
    rw [decide_eq_false_iff_not]
    intro he
    have : onK D k = true := by
      unfold onK
      rw [List.any_eq_true]
      exact ⟨i, List.mem_range.2 hi.1, by simp [he, hi.2.1, hi.2.2]⟩
    rw [this] at hb; cases hb
/-- The position in the pattern at a distance. -/
def posK (D : List Int) (ph a : Int) : Int := (a % totD D + 256 * ph % totD D) % totD D
/-- The pen is down at a distance. -/
def onI (D : List Int) (ph a : Int) : Bool := decide (D.length = 0) || onK D (posK D ph a)
theorem posK_eq (D : List Int) (ph a : Int) : posK D ph a = (a + 256 * ph) % totD D := by
  unfold posK
  rw [← Int.add_emod]
theorem posK_bd (D : List Int) (ph a : Int) (h : 0 < totD D) : 0 ≤ posK D ph a ∧ posK D ph a < totD D := by
  rw [posK_eq]
  exact ⟨Int.emod_nonneg _ (by omega), Int.emod_lt_of_pos _ h⟩
theorem posK_of (D : List Int) (ph a k : Int) (h0 : 0 ≤ k) (h1 : k < totD D) (hd : totD D ∣ a + 256 * ph - k) : posK D ph a = k := by
  rw [posK_eq]
  obtain ⟨q, hq⟩ := hd
  rw [show a + 256 * ph = k + totD D * q by omega, Int.add_mul_emod_self_left]
  exact Int.emod_eq_of_lt h0 h1
theorem dashB_ok {D : List Int} (h : dashB D = true) : okD D ∧ D.length % 2 = 0 ∧ D.length ≤ 16 ∧ (D.length = 0 ∨ 0 < totD D) := by
  have key : ∀ (n : Nat) (s : Bool) (D : List Int), dF n s D = true → okD D ∧ n % 2 = 0 ∧ n ≤ 16 ∧ (s = true ∨ ∃ k, k < D.length ∧ 0 < D.getD k 0) := by
    intro n s D
    induction D generalizing s with
    | nil =>
      intro h
      rw [dF_end] at h
      simp only [Bool.and_eq_true, decide_eq_true_eq] at h
      exact ⟨fun k => by simp, h.1.2, h.2, .inl h.1.1⟩
    | cons d r ih =>
      intro h
      unfold dF at h
      by_cases hd : inB d 0 1048576 = true
      · rw [if_pos hd] at h
        obtain ⟨h1, h2, h3, h4⟩ := ih _ h
        have hd' : 0 ≤ d ∧ d ≤ 1048576 := by
          unfold inB at hd
          simp only [Bool.and_eq_true, decide_eq_true_eq] at hd
          omega
        refine ⟨fun k => ?_, h2, h3, ?_⟩
        · cases k with
          | zero => exact hd'
          | succ k => exact h1 k
        · rcases h4 with h4 | ⟨k, hk, hp⟩
          · simp only [Bool.or_eq_true, decide_eq_true_eq] at h4
            rcases h4 with h4 | h4
            · exact .inl h4
            · exact .inr ⟨0, by simp, h4⟩
          · exact .inr ⟨k + 1, by simp; omega, hp⟩
      · rw [if_neg hd] at h; cases h
  obtain ⟨h1, h2, h3, h4⟩ := key _ _ _ h
  refine ⟨h1, h2, h3, ?_⟩
  rcases h4 with h4 | ⟨k, hk, hp⟩
  · left; simpa using h4
  · right
    have a1 := sumK_mono h1 (show k + 1 ≤ D.length from hk)
    have a2 := sumK_bd h1 k
    unfold totD
    rw [sumK_succ] at a1
    omega
theorem at_ex {D : List Int} {k : Int} (h0 : 0 ≤ k) : ∀ n, n ≤ D.length → k < sumK D n → ∃ i, i < n ∧ AtD D k i
  | 0, _, h => by unfold sumK at h; omega
  | n + 1, hn, h => by
    by_cases hk : k < sumK D n
    · obtain ⟨i, hi, ha⟩ := at_ex h0 n (by omega) hk
      exact ⟨i, by omega, ha⟩
    · exact ⟨n, by omega, by omega, by omega, h⟩
/-- The state of a machine at distance a: in entry i, 'left' of which is to come. -/
def InD (D : List Int) (ph a : Int) (i : Nat) (left : Int) : Prop := i < D.length ∧ 0 ≤ left ∧ left ≤ 256 * D.getD i 0 ∧ totD D ∣ a + 256 * ph - (sumK D (i + 1) - left)
theorem InD.on {D : List Int} {ph a left : Int} {i : Nat} (h : okD D) (hI : InD D ph a i left) (x : Int) (hx : a ≤ x) (hx2 : x < a + left) : onI D ph x = decide (i % 2 = 0) := by
  obtain ⟨h1, h2, h3, h4⟩ := hI
  have m1 := sumK_bd h i
  have m2 : sumK D (i + 1) = sumK D i + 256 * D.getD i 0 := rfl
  have m3 := sumK_mono h (show i + 1 ≤ D.length from h1)
  have hp : posK D ph x = sumK D (i + 1) - left + (x - a) := posK_of D ph x _ (by omega) (by unfold totD; omega) (by
    rw [show x + 256 * ph - (sumK D (i + 1) - left + (x - a)) = a + 256 * ph - (sumK D (i + 1) - left) by omega]; exact h4)
  unfold onI
  rw [hp, decide_eq_false (show ¬ D.length = 0 by omega), Bool.false_or]
  exact onK_of h ⟨h1, by omega, by omega⟩
theorem InD.next {D : List Int} {ph a left : Int} {i : Nat} (h : okD D) (hI : InD D ph a i left) (j : Nat) (hj : (i + 1) % D.length = j) : InD D ph (a + left) j (256 * D.getD j 0) := by
  obtain ⟨h1, h2, h3, h4⟩ := hI
  have hj2 : j < D.length := by rw [← hj]; exact Nat.mod_lt _ (by omega)
  have hh := h j
  refine ⟨hj2, by omega, Int.le_refl _, ?_⟩
  have m2 : sumK D (j + 1) = sumK D j + 256 * D.getD j 0 := rfl
  rw [m2, show sumK D j + 256 * D.getD j 0 - 256 * D.getD j 0 = sumK D j by omega]
  by_cases e : i + 1 = D.length
  · rw [e, Nat.mod_self] at hj
    subst hj
    have : a + left + 256 * ph - sumK D 0 = (a + 256 * ph - (sumK D (i + 1) - left)) + totD D := by
      rw [e]; unfold totD; simp only [sumK]; omega
    rw [this]
    exact Int.dvd_add h4 (Int.dvd_refl _)
  · rw [Nat.mod_eq_of_lt (by omega)] at hj
    subst hj
    rw [show a + left + 256 * ph - sumK D (i + 1) = a + 256 * ph - (sumK D (i + 1) - left) by omega]
    exact h4
theorem InD.of_at {D : List Int} {ph a : Int} {i : Nat} (h : okD D) (hI : AtD D (posK D ph a) i) : InD D ph a i (sumK D (i + 1) - posK D ph a) := by
  obtain ⟨h1, h2, h3⟩ := hI
  have m2 : sumK D (i + 1) = sumK D i + 256 * D.getD i 0 := rfl
  refine ⟨h1, by omega, by omega, ?_⟩
  rw [show a + 256 * ph - (sumK D (i + 1) - (sumK D (i + 1) - posK D ph a)) = a + 256 * ph - posK D ph a by omega, posK_eq]
  exact Int.dvd_self_sub_emod
/-- The sums of the entries of even and of odd number. -/
def sumP (b : Nat) (D : List Int) : Nat → Int
  | 0 => 0
  | k + 1 => sumP b D k + (if k % 2 = b then D.getD k 0 else 0)
theorem sumP_succ (b : Nat) (D : List Int) (k : Nat) : sumP b D (k + 1) = sumP b D k + (if k % 2 = b then D.getD k 0 else 0) := rfl
theorem sumP_bd {D : List Int} (h : okD D) (b : Nat) : ∀ k : Nat, 0 ≤ sumP b D k ∧ sumP b D k ≤ 1048576 * (k : Int)
  | 0 => by simp [sumP]
  | k + 1 => by
    have h1 := sumP_bd h b k
    have h2 := h k
    unfold sumP
    split <;> omega
theorem sumP_two {D : List Int} : ∀ k : Nat, sumK D k = 256 * (sumP 0 D k + sumP 1 D k)
  | 0 => by simp [sumK, sumP]
  | k + 1 => by
    have h1 := sumP_two (D := D) k
    unfold sumK sumP
    rcases Nat.mod_two_eq_zero_or_one k with e | e
    · rw [if_pos e, if_neg (by omega)]; omega
    · rw [if_neg (by omega), if_pos e]; omega
theorem sumP_zero {D : List Int} (h : okD D) (b : Nat) (n : Nat) (hz : sumP b D n = 0) (i : Nat) (hi : i < n) (hb : i % 2 = b) : D.getD i 0 = 0 := by
  have mono : ∀ d, sumP b D (i + 1) ≤ sumP b D (i + 1 + d) := by
    intro d
    induction d with
    | zero => exact Int.le_refl _
    | succ d ih =>
      have h2 := h (i + 1 + d)
      rw [← Nat.add_assoc, sumP_succ b D (i + 1 + d)]
      split <;> omega
  have h1 := mono (n - (i + 1))
  rw [show i + 1 + (n - (i + 1)) = n by omega, hz] at h1
  have h2 := sumP_bd h b i
  have h3 := h i
  rw [sumP_succ, if_pos hb] at h1
  omega
theorem on_all {D : List Int} (h : okD D) (ph : Int) (hp : D.length = 0 ∨ 0 < totD D) (hz : sumP 1 D D.length = 0) (x : Int) : onI D ph x = true := by
  by_cases h0 : D.length = 0
  · unfold onI; simp [h0]
  · have ht : 0 < totD D := by omega
    have hb := posK_bd D ph x ht
    obtain ⟨i, hi, ha⟩ := at_ex hb.1 D.length (Nat.le_refl _) hb.2
    have hI := InD.of_at h ha
    rw [hI.on h x (Int.le_refl _) (by have := ha.2.2; omega)]
    rw [decide_eq_true_eq]
    rcases Nat.mod_two_eq_zero_or_one i with e | e
    · exact e
    · have h1 := sumP_zero h 1 _ hz i ha.1 e
      have h2 := ha.2
      rw [sumK_succ] at h2
      omega
theorem on_none {D : List Int} (h : okD D) (ph : Int) (hp : 0 < totD D) (hz : sumP 0 D D.length = 0) (x : Int) : onI D ph x = false := by
  have hb := posK_bd D ph x hp
  obtain ⟨i, hi, ha⟩ := at_ex hb.1 D.length (Nat.le_refl _) hb.2
  have hI := InD.of_at h ha
  rw [hI.on h x (Int.le_refl _) (by have := ha.2.2; omega)]
  rw [decide_eq_false_iff_not]
  intro e
  have h1 := sumP_zero h 0 _ hz i ha.1 e
  have h2 := ha.2
  rw [sumK_succ] at h2
  omega
end Go.Proofs.Ytihmhpleiefodaa
