/- Plain: a stop with the color that the gradient has at its offset changes no component by more than one. -/
import Derived.Test.YtboomdbmeallfaaGs
import Derived.Test.YtboomdbmeallfaaGf
namespace Go.Proofs.Ytboomdbmeallfaa
section
set_option linter.unusedVariables false
set_option linter.unusedSimpArgs false
theorem flip5_flip5 (s : St) : flip5 (flip5 s) = s := by
  obtain ⟨a, b⟩ := s
  unfold flip5
  have e : 65536 - (65536 - a) = a := by omega
  simp only [e]
theorem revS_revS (L : List St) : revS (revS L) = L := by
  unfold revS
  rw [← List.map_reverse, List.reverse_reverse, List.map_map]
  rw [show flip5 ∘ flip5 = id from funext flip5_flip5, List.map_id]
theorem vFrom_of : ∀ (L : List St) (a : Int), (∀ k, k < L.length → a ≤ (L.getD k st0).1 ∧ (L.getD k st0).1 ≤ 65536) → (∀ i j, i ≤ j → j < L.length → (L.getD i st0).1 ≤ (L.getD j st0).1) → vFrom a L = true
  | [], _, _, _ => rfl
  | s :: r, a, h, hm => by
    unfold vFrom
    have h0 := h 0 (by simp)
    simp only [List.getD_cons_zero] at h0
    rw [if_neg (by omega)]
    refine vFrom_of r s.1 (fun k hk => ⟨?_, ?_⟩) (fun i j hij hj => ?_)
    · have h1 := hm 0 (k + 1) (by omega) (by simpa using hk)
      rw [List.getD_cons_zero, List.getD_cons_succ] at h1
      exact h1
    · have h1 := (h (k + 1) (by simpa using hk)).2
      rw [List.getD_cons_succ] at h1
      exact h1
    · have h1 := hm (i + 1) (j + 1) (by omega) (by simpa using hj)
      rw [List.getD_cons_succ, List.getD_cons_succ] at h1
      exact h1
theorem vB_revS {L : List St} (h : vB L = true) : vB (revS L) = true := by
  obtain ⟨h1, h2, hv, hr⟩ := vB_range h
  have hm := vFrom_mono L 0 hv
  have hl := revS_length L
  unfold vB
  rw [if_neg (by omega)]
  refine vFrom_of _ _ (fun k hk => ?_) (fun i j hij hj => ?_)
  · rw [hl] at hk
    rw [revS_get L k hk]
    have h3 := hr (L.length - 1 - k) (by omega)
    unfold flip5
    dsimp only
    omega
  · rw [hl] at hj
    rw [revS_get L i (by omega), revS_get L j hj]
    have h3 := hm (L.length - 1 - j) (L.length - 1 - i) (by omega) (by omega)
    unfold flip5
    dsimp only
    omega
theorem mirS_mirS {L : List St} (h : vB L = true) : mirS (mirS L) = L := by
  have e : mirS L = revS L := by unfold mirS; rw [if_pos h]
  rw [e]
  unfold mirS
  rw [if_pos (vB_revS h), revS_revS]
end

section
set_option linter.unusedVariables false
set_option linter.unusedSimpArgs false
theorem mulLe (a b c : Int) (h : a ≤ b) (hc : 0 ≤ c) : a * c ≤ b * c := Int.mul_le_mul_of_nonneg_right h hc
/-- rounded twice, left of the new stop -/
theorem part_left (k o d w : Int) (k0 : 0 ≤ k) (k1 : k < o) (o1 : o ≤ d) (d1 : d ≤ 1000000) (w0 : -255 ≤ w) (w1 : w ≤ 255) :
    -1 ≤ dvr (k * dvr (o * w) d) o - dvr (k * w) d ∧ dvr (k * dvr (o * w) d) o - dvr (k * w) d ≤ 1 := by
  have hp1 := Nat.mul_le_mul (show o.natAbs ≤ 1000000 by omega) (show w.natAbs ≤ 255 by omega)
  rw [← Int.natAbs_mul] at hp1
  have hp2 := Nat.mul_le_mul (show k.natAbs ≤ 1000000 by omega) (show w.natAbs ≤ 255 by omega)
  rw [← Int.natAbs_mul] at hp2
  obtain ⟨a1, a2⟩ := dvr_off2 (o * w) d (by omega) (by omega)
  obtain ⟨b1, b2⟩ := dvr_off2 (k * w) d (by omega) (by omega)
  have hr : -255 ≤ dvr (o * w) d ∧ dvr (o * w) d ≤ 255 := by
    have h := part_bd o w d (by omega) o1 (by omega) (by omega) (by omega) (by omega)
    by_cases hw : 0 ≤ w
    · have := h.1 hw; omega
    · have := h.2 (by omega); omega
  generalize dvr (o * w) d = r at *
  have hp3 := Nat.mul_le_mul (show k.natAbs ≤ 1000000 by omega) (show r.natAbs ≤ 255 by omega)
  rw [← Int.natAbs_mul] at hp3
  obtain ⟨c1, c2⟩ := dvr_off2 (k * r) o (by omega) (by omega)
  clear hp1 hp2 hp3
  generalize dvr (k * r) o = s at *
  generalize dvr (k * w) d = q at *
  have e : (s - q) * (o * d) = (s * o - k * r) * d + k * (r * d - o * w) + o * (k * w - q * d) := by grind
  have e1 := mulLe (2 * (s * o - k * r)) o d (by omega) (by omega)
  have e2 := mulLe (-o) (2 * (s * o - k * r)) d (by omega) (by omega)
  have f1 := mulLe (2 * (r * d - o * w)) d k (by omega) k0
  have f2 := mulLe (-d) (2 * (r * d - o * w)) k (by omega) k0
  have g1 := mulLe (2 * (k * w - q * d)) d o (by omega) (by omega)
  have g2 := mulLe (-d) (2 * (k * w - q * d)) o (by omega) (by omega)
  have h1 := mulLe (k + 1) o d (by omega) (by omega)
  have hP : 0 < o * d := Int.mul_pos (by omega) (by omega)
  generalize s * o - k * r = E1 at *
  generalize r * d - o * w = E2 at *
  generalize k * w - q * d = E3 at *
  rw [Int.mul_assoc] at e1 e2 f1 f2 g1 g2
  rw [Int.neg_mul] at e2 f2 g2
  rw [Int.add_mul] at h1
  rw [Int.mul_comm E2 k, Int.mul_comm d k] at f1 f2
  rw [Int.mul_comm E3 o, Int.mul_comm d o] at g1 g2
  constructor
  · apply Classical.byContradiction; intro hc
    have := mulLe (s - q) (-2) (o * d) (by omega) (by omega)
    omega
  · apply Classical.byContradiction; intro hc
    have := mulLe 2 (s - q) (o * d) (by omega) (by omega)
    omega
/-- rounded twice, right of the new stop -/
theorem part_right (k o d w : Int) (k0 : 0 < k) (o0 : 0 ≤ o) (k1 : k < d - o) (d1 : d ≤ 1000000) (w0 : -255 ≤ w) (w1 : w ≤ 255) :
    -1 ≤ dvr (o * w) d + dvr (k * (w - dvr (o * w) d)) (d - o) - dvr ((o + k) * w) d ∧ dvr (o * w) d + dvr (k * (w - dvr (o * w) d)) (d - o) - dvr ((o + k) * w) d ≤ 1 := by
  have hp1 := Nat.mul_le_mul (show o.natAbs ≤ 1000000 by omega) (show w.natAbs ≤ 255 by omega)
  rw [← Int.natAbs_mul] at hp1
  have hp2 := Nat.mul_le_mul (show (o + k).natAbs ≤ 1000000 by omega) (show w.natAbs ≤ 255 by omega)
  rw [← Int.natAbs_mul] at hp2
  obtain ⟨a1, a2⟩ := dvr_off2 (o * w) d (by omega) (by omega)
  obtain ⟨b1, b2⟩ := dvr_off2 ((o + k) * w) d (by omega) (by omega)
  have hr : -255 ≤ dvr (o * w) d ∧ dvr (o * w) d ≤ 255 := by
    have h := part_bd o w d (by omega) (by omega) (by omega) (by omega) (by omega) (by omega)
    by_cases hw : 0 ≤ w
    · have := h.1 hw; omega
    · have := h.2 (by omega); omega
  generalize dvr (o * w) d = r at *
  have hp3 := Nat.mul_le_mul (show k.natAbs ≤ 1000000 by omega) (show (w - r).natAbs ≤ 510 by omega)
  rw [← Int.natAbs_mul] at hp3
  obtain ⟨c1, c2⟩ := dvr_off2 (k * (w - r)) (d - o) (by omega) (by omega)
  clear hp1 hp2 hp3
  generalize he : d - o = e at *
  generalize dvr (k * (w - r)) e = s at *
  generalize dvr ((o + k) * w) d = q at *
  have hid : (r + s - q) * (e * d) = (s * e - k * (w - r)) * d - (q * d - (o + k) * w) * e + (e - k) * (r * d - o * w) := by subst he; grind
  have e1 := mulLe (2 * (s * e - k * (w - r))) e d (by omega) (by omega)
  have e2 := mulLe (-e) (2 * (s * e - k * (w - r))) d (by omega) (by omega)
  have f1 := mulLe (2 * (r * d - o * w)) d (e - k) (by omega) (by omega)
  have f2 := mulLe (-d) (2 * (r * d - o * w)) (e - k) (by omega) (by omega)
  have g1 := mulLe (2 * (q * d - (o + k) * w)) d e (by omega) (by omega)
  have g2 := mulLe (-d) (2 * (q * d - (o + k) * w)) e (by omega) (by omega)
  have h1 := mulLe (e - k + 1) e d (by omega) (by omega)
  have hP : 0 < e * d := Int.mul_pos (by omega) (by omega)
  generalize s * e - k * (w - r) = E1 at *
  generalize r * d - o * w = E2 at *
  generalize q * d - (o + k) * w = E3 at *
  rw [Int.mul_assoc] at e1 e2 f1 f2 g1 g2
  rw [Int.neg_mul] at e2 f2 g2
  generalize hek : e - k = ek at *
  rw [Int.add_mul] at h1
  rw [Int.mul_comm E2 ek, Int.mul_comm d ek] at f1 f2
  rw [Int.mul_comm d e] at g1 g2
  constructor
  · apply Classical.byContradiction; intro hc
    have := mulLe (r + s - q) (-2) (e * d) (by omega) (by omega)
    omega
  · apply Classical.byContradiction; intro hc
    have := mulLe 2 (r + s - q) (e * d) (by omega) (by omega)
    omega
def near (a b : Int) : Prop := a - b ≤ 1 ∧ b - a ≤ 1
theorem near_refl (a : Int) : near a a := by unfold near; omega
theorem lc8_left (x y k o d : Int) (hx : u8b x) (hy : u8b y) (k0 : 0 ≤ k) (k1 : k < o) (o1 : o ≤ d) (d1 : d ≤ 1000000) : near (lc8 x y k d) (lc8 x (lc8 x y o d) k o) := by
  unfold u8b at *
  have h := part_left k o d (y - x) k0 k1 o1 d1 (by omega) (by omega)
  unfold near lc8
  rw [show x + dvr (o * (y - x)) d - x = dvr (o * (y - x)) d by omega]
  omega
theorem lc8_right (x y k o d : Int) (hx : u8b x) (hy : u8b y) (k0 : 0 ≤ k) (o0 : 0 ≤ o) (k1 : k < d - o) (d1 : d ≤ 1000000) : near (lc8 x y (o + k) d) (lc8 (lc8 x y o d) y k (d - o)) := by
  by_cases hk : k = 0
  · subst hk
    rw [lc8_0 _ _ _ (by omega), Int.add_zero]
    exact near_refl _
  · unfold u8b at *
    have h := part_right k o d (y - x) (by omega) o0 k1 d1 (by omega) (by omega)
    unfold near lc8
    rw [show y - (x + dvr (o * (y - x)) d) = y - x - dvr (o * (y - x)) d by omega]
    omega
theorem lc8_same (x k d : Int) (k0 : 0 ≤ k) (k1 : k ≤ d) (d0 : 1 ≤ d) (d1 : d ≤ 1099511627776) : lc8 x x k d = x := by
  unfold lc8; rw [Int.sub_self, Int.mul_zero, dvr_none d d0, Int.add_zero]
def nearC (a b : Int × Int × Int × Int) : Prop := near a.1 b.1 ∧ near a.2.1 b.2.1 ∧ near a.2.2.1 b.2.2.1 ∧ near a.2.2.2 b.2.2.2
theorem nearC_refl (a : Int × Int × Int × Int) : nearC a a := ⟨near_refl _, near_refl _, near_refl _, near_refl _⟩
theorem lerpS_same (a b : St) (t : Int) (h : b.2 = a.2) (h0 : a.1 ≤ t) (h1 : t ≤ b.1) (h2 : a.1 < b.1) (h3 : 0 ≤ a.1) (h4 : b.1 ≤ 65536) : lerpS a b t = a.2 := by
  unfold lerpS
  rw [h, lc8_same _ _ _ (by omega) (by omega) (by omega) (by omega), lc8_same _ _ _ (by omega) (by omega) (by omega) (by omega), lc8_same _ _ _ (by omega) (by omega) (by omega) (by omega), lc8_same _ _ _ (by omega) (by omega) (by omega) (by omega)]
theorem lerpS_left (a b : St) (O t : Int) (oa : okSt a) (ob : okSt b) (h0 : a.1 ≤ t) (h1 : t < O) (h2 : O < b.1) (h3 : 0 ≤ a.1) (h4 : b.1 ≤ 65536) : nearC (lerpS a b t) (lerpS a (O, lerpS a b O) t) := by
  obtain ⟨a1, a2, a3, a4⟩ := oa
  obtain ⟨b1, b2, b3, b4⟩ := ob
  exact ⟨lc8_left _ _ _ _ _ a1 b1 (by omega) (by omega) (by omega) (by omega), lc8_left _ _ _ _ _ a2 b2 (by omega) (by omega) (by omega) (by omega), lc8_left _ _ _ _ _ a3 b3 (by omega) (by omega) (by omega) (by omega), lc8_left _ _ _ _ _ a4 b4 (by omega) (by omega) (by omega) (by omega)⟩
theorem lerpS_right (a b : St) (O t : Int) (oa : okSt a) (ob : okSt b) (h0 : a.1 ≤ O) (h1 : O ≤ t) (h2 : t < b.1) (h3 : 0 ≤ a.1) (h4 : b.1 ≤ 65536) : nearC (lerpS a b t) (lerpS (O, lerpS a b O) b t) := by
  obtain ⟨a1, a2, a3, a4⟩ := oa
  obtain ⟨b1, b2, b3, b4⟩ := ob
  have q : ∀ x y, u8b x → u8b y → near (lc8 x y (t - a.1) (b.1 - a.1)) (lc8 (lc8 x y (O - a.1) (b.1 - a.1)) y (t - O) (b.1 - O)) := fun x y hx hy => by
    have h := lc8_right x y (t - O) (O - a.1) (b.1 - a.1) hx hy (by omega) (by omega) (by omega) (by omega)
    rw [show O - a.1 + (t - O) = t - a.1 by omega, show b.1 - a.1 - (O - a.1) = b.1 - O by omega] at h
    exact h
  exact ⟨q _ _ a1 b1, q _ _ a2 b2, q _ _ a3 b3, q _ _ a4 b4⟩
theorem lerpS_at (a b : St) (h : a.1 < b.1) : lerpS a b a.1 = a.2 := by
  unfold lerpS
  rw [Int.sub_self, lc8_0 _ _ _ (by omega), lc8_0 _ _ _ (by omega), lc8_0 _ _ _ (by omega), lc8_0 _ _ _ (by omega)]
theorem cAt_of {L : List St} (hv : vB L = true) (t : Int) (p : Nat) (hp : lead t L = p) : cAt L t = if p = 0 then (L.getD 0 st0).2 else if p = L.length then (L.getD (L.length - 1) st0).2 else lerpS (L.getD (p - 1) st0) (L.getD p st0) t := by
  subst hp; unfold cAt; rw [if_neg (by rw [hv]; decide)]
theorem rising_of {L : List St} (hv : vB L = true) : Rising L := fun i k hik hk => by
  obtain ⟨_, _, hF, _⟩ := vB_range hv
  exact vFrom_mono L 0 hF i k hik hk
theorem vB_ins {L : List St} {s : St} (hv : vB L = true) (h16 : L.length < 16) (h0 : 0 ≤ s.1) (h1 : s.1 ≤ 65536) : vB (ins s L) = true := by
  obtain ⟨n1, n2, hF, hR⟩ := vB_range hv
  have hl := ins_length s L
  unfold vB
  rw [if_neg (by omega)]
  refine vFrom_of _ _ (fun k hk => ?_) (fun i j hij hj => ins_rising s L (rising_of hv) i j hij hj)
  rw [hl] at hk
  rw [getD_ins]
  have hp := lead_len L s.1
  generalize lead s.1 L = p at *
  by_cases h2 : k < p
  · rw [if_pos h2]; exact hR k (by omega)
  · rw [if_neg h2]
    by_cases h3 : k = p
    · rw [if_pos h3]; exact ⟨h0, h1⟩
    · rw [if_neg h3]; exact hR (k - 1) (by omega)
/-- where the leading stops of the longer list end -/
theorem lead_ins (L : List St) (s : St) (t : Int) (hr : Rising L) : lead t (ins s L) = if t < s.1 then lead t L else lead t L + 1 := by
  have hl := ins_length s L
  have h1 := lead_le L t
  have h2 := lead_stop L t
  have h3 := lead_len L t
  have g1 := lead_le L s.1
  have g2 := lead_stop L s.1
  have g3 := lead_len L s.1
  refine lead_is _ t _ (by split <;> omega) (fun k hk => ?_) (fun hk => ?_)
  · rw [getD_ins]
    generalize lead s.1 L = p at *
    generalize lead t L = q at *
    by_cases hts : t < s.1
    · rw [if_pos hts] at hk
      have hqp : q ≤ p := by
        apply Classical.byContradiction; intro hc
        have h5 := h1 p (by omega)
        have h6 := g2 (by omega)
        omega
      rw [if_pos (by omega)]
      exact h1 k hk
    · rw [if_neg hts] at hk
      by_cases h4 : k < p
      · rw [if_pos h4]; have := g1 k h4; omega
      · rw [if_neg h4]
        by_cases h5 : k = p
        · rw [if_pos h5]; omega
        · rw [if_neg h5]; exact h1 (k - 1) (by omega)
  · rw [getD_ins]
    rw [hl] at hk
    generalize lead s.1 L = p at *
    generalize lead t L = q at *
    by_cases hts : t < s.1
    · rw [if_pos hts] at hk ⊢
      by_cases h4 : q < p
      · rw [if_pos h4]; exact h2 (by omega)
      · rw [if_neg h4]
        by_cases h5 : q = p
        · rw [if_pos h5]; exact hts
        · have h6 := h1 p (by omega)
          have h7 := g2 (by omega)
          omega
    · rw [if_neg hts] at hk ⊢
      have hqp : p ≤ q := by
        apply Classical.byContradiction; intro hc
        have h5 := g1 q (by omega)
        have h6 := h2 (by omega)
        omega
      rw [if_neg (by omega), if_neg (by omega), Nat.add_sub_cancel]
      exact h2 (by omega)
theorem neutral {L : List St} (hv : vB L = true) (h16 : L.length < 16) (hok : ∀ s ∈ L, okSt s) (O t : Int) (h0 : 0 ≤ O) (h1 : O ≤ 65536) :
    vB (ins (O, cAt L O) L) = true ∧ nearC (cAt L t) (cAt (ins (O, cAt L O) L) t) ∧ cAt (ins (O, cAt L O) L) O = cAt L O := by
  obtain ⟨n1, n2, hF, hR⟩ := vB_range hv
  have hvi := vB_ins (s := (O, cAt L O)) hv h16 h0 h1
  have hr := rising_of hv
  have hl := ins_length (O, cAt L O) L
  have hp1 := lead_le L O
  have hp2 := lead_stop L O
  have hp3 := lead_len L O
  have hq1 := lead_le L t
  have hq2 := lead_stop L t
  have hq3 := lead_len L t
  have hcO := cAt_of hv O (lead O L) rfl
  have hct := cAt_of hv t (lead t L) rfl
  have hmO := cAt_of hvi O _ (lead_ins L (O, cAt L O) O hr)
  have hmt := cAt_of hvi t _ (lead_ins L (O, cAt L O) t hr)
  have hg := getD_ins (O, cAt L O) L
  have hok' : ∀ k, k < L.length → okSt (L.getD k st0) := fun k hk => by
    rw [List.getD_eq_getElem?_getD, List.getElem?_eq_getElem hk]; exact hok _ (List.getElem_mem hk)
  dsimp only at hmO hmt hg
  rw [hl] at hmO hmt
  refine ⟨hvi, ?_, ?_⟩
  · clear hmO
    rw [hmt]
    by_cases hts : t < O
    · rw [if_pos hts] at *
      have hqp : lead t L ≤ lead O L := by
        apply Classical.byContradiction; intro hc
        have h5 := hq1 (lead O L) (by omega)
        have h6 := hp2 (by omega)
        omega
      by_cases z : lead t L = 0
      · rw [if_pos z] at hct ⊢
        rw [hct, hg]
        by_cases z2 : 0 < lead O L
        · rw [if_pos z2]; exact nearC_refl _
        · rw [if_neg z2, if_pos (by omega)]
          rw [if_pos (show lead O L = 0 by omega)] at hcO
          dsimp only
          rw [hcO]; exact nearC_refl _
      · rw [if_neg z] at hct ⊢
        rw [if_neg (by omega)]
        by_cases zq : lead t L < lead O L
        · rw [if_neg (by omega)] at hct
          rw [hct, hg, if_pos (by omega), hg, if_pos zq]; exact nearC_refl _
        · have zq2 : lead t L = lead O L := by omega
          rw [hg, if_pos (by omega), hg, if_neg zq, if_pos zq2]
          rw [if_neg (by omega)] at hcO
          have ha := hq1 (lead t L - 1) (by omega)
          have hb := hR (lead t L - 1) (by omega)
          by_cases zn : lead t L = L.length
          · rw [if_pos zn] at hct
            rw [if_pos (by omega)] at hcO
            rw [hct, lerpS_same _ _ _ (by dsimp only; rw [hcO, zn]) (by omega) (by dsimp only; omega) (by dsimp only; omega) (by omega) (by dsimp only; omega), zn]
            exact nearC_refl _
          · rw [if_neg zn] at hct
            rw [if_neg (by omega), ← zq2] at hcO
            rw [hct, hcO]
            exact lerpS_left _ _ O t (hok' _ (by omega)) (hok' _ (by omega)) ha hts (by rw [zq2]; exact hp2 (by omega)) (by omega) (hR _ (by omega)).2
    · rw [if_neg hts] at *
      rw [if_neg (by omega)]
      have hqp : lead O L ≤ lead t L := by
        apply Classical.byContradiction; intro hc
        have h5 := hp1 (lead t L) (by omega)
        have h6 := hq2 (by omega)
        omega
      by_cases zq : lead t L = lead O L
      · by_cases zn : lead t L = L.length
        · rw [if_pos (by omega), hg, if_neg (by omega), if_pos (by omega)]
          rw [if_neg (by omega), if_pos zn] at hct
          rw [if_neg (by omega), if_pos (by omega)] at hcO
          dsimp only
          rw [hct, hcO]; exact nearC_refl _
        · rw [if_neg (by omega), Nat.add_sub_cancel, hg, if_neg (by omega), if_pos zq, hg, if_neg (by omega), if_neg (by omega), Nat.add_sub_cancel]
          have hu := hq2 (by omega)
          have hb := hR (lead t L) (by omega)
          by_cases z : lead t L = 0
          · rw [if_pos z] at hct
            rw [if_pos (by omega)] at hcO
            rw [hct, lerpS_same _ _ _ (by dsimp only; rw [hcO, z]) (by dsimp only; omega) (by omega) (by dsimp only; omega) (by dsimp only; omega) (by omega)]
            dsimp only
            rw [hcO]; exact nearC_refl _
          · rw [if_neg z, if_neg zn] at hct
            rw [if_neg (by omega), if_neg (by omega), ← zq] at hcO
            have ha := hp1 (lead O L - 1) (by omega)
            have hc := hR (lead O L - 1) (by omega)
            rw [← zq] at ha hc
            rw [hct, hcO]
            exact lerpS_right _ _ O t (hok' _ (by omega)) (hok' _ (by omega)) ha (by omega) hu (by omega) hb.2
      · rw [hg, hg, hg]
        rw [if_neg (by omega)] at hct
        by_cases zn : lead t L = L.length
        · rw [if_pos zn] at hct
          rw [if_pos (by omega), if_neg (by omega), if_neg (by omega), hct, Nat.add_sub_cancel]; exact nearC_refl _
        · rw [if_neg zn] at hct
          rw [if_neg (by omega), Nat.add_sub_cancel, if_neg (by omega), if_neg (by omega), if_neg (by omega), if_neg (by omega), hct]
          try rw [Nat.add_sub_cancel]
          exact nearC_refl _
  · clear hmt
    rw [hmO]
    clear hmO
    rw [if_neg (Int.lt_irrefl O), if_neg (by omega)]
    by_cases zn : lead O L = L.length
    · rw [if_pos (by omega), hg, if_neg (by omega), if_pos (by omega)]
    · rw [if_neg (by omega), Nat.add_sub_cancel, hg, if_neg (by omega), if_pos rfl, hg, if_neg (by omega), if_neg (by omega), Nat.add_sub_cancel]
      exact lerpS_at (O, cAt L O) _ (hp2 (by omega))
end
end Go.Proofs.Ytboomdbmeallfaa
