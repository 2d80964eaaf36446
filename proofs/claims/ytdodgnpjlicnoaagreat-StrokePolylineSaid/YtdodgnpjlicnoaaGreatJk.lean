/- Plain laws of joins: reversal; what a join's ring is; the tip's symmetries and its place on the bisector. -/
import Derived.Test.YtdodgnpjlicnoaaGreatJg
import Derived.Test.YtdodgnpjlicnoaaGreatQs
namespace Go.Proofs.YtdodgnpjlicnoaaGreat
set_option linter.unusedVariables false
set_option linter.unusedSimpArgs false
theorem revT_revT (L : List Pt) : revT (revT L) = L := by
  unfold revT
  cases L with
  | nil => rfl
  | cons a r => simp
theorem orient_revT (L : List Pt) : orient (revT L) = orient L := by
  unfold orient
  rw [area_revT, revT_revT]
  by_cases h1 : 0 < area L
  · rw [if_pos h1, if_neg (by omega), if_pos (by omega)]
  · rw [if_neg h1]
    by_cases h2 : area L < 0
    · rw [if_pos h2, if_pos (by omega)]
    · rw [if_neg h2, if_neg (by omega), if_neg (by omega)]
theorem tipQ_swap (n m : Pt) : tipQ m n = tipQ n m := by
  unfold tipQ; rw [Int.add_comm m.1 n.1, Int.add_comm m.2 n.2]
theorem tipB_swap (n m : Pt) (v l : Int) : tipB m n v l = tipB n m v l := by
  unfold tipB; rw [tipQ_swap, Bool.and_comm (vP m) (vP n)]
theorem tipP_swap (n m : Pt) (v l : Int) : tipP m n v l = tipP n m v l := by
  unfold tipP; rw [tipB_swap, tipQ_swap, Int.add_comm m.1 n.1, Int.add_comm m.2 n.2]
theorem cornL_rev (v n m : Pt) (wd jn ml : Int) : revT (cornL v n m wd jn ml) = cornL v m n wd jn ml := by
  unfold cornL revT
  rw [tipB_swap, tipP_swap]
  split <;> simp
theorem outC_rev (u v b : Pt) : outC b v u = -outC u v b := by
  unfold outC crossI; grind
theorem outB_rev (u v b : Pt) (wd : Int) : outB b v u wd = outB u v b wd := by
  unfold outB
  rw [outC_rev]
  have e : decide (-outC u v b ≠ 0) = decide (outC u v b ≠ 0) := by rw [decide_eq_decide]; omega
  rw [e]
  cases vP u <;> cases vP v <;> cases vP b <;> rfl
theorem ofs_rev (p q : Pt) (wd : Int) : ofs (subP p q) wd = negP (ofs (subP q p) wd) := by
  have h := ofs_neg (subP q p) wd
  have e : subP p q = (-(subP q p).1, -(subP q p).2) := by unfold subP; ext <;> (dsimp only; omega)
  rw [e, h]; rfl
theorem negP_negP (p : Pt) : negP (negP p) = p := by unfold negP; ext <;> (dsimp only; omega)
theorem outN_rev (u v b : Pt) (wd : Int) : outN b v u wd = outM u v b wd ∧ outM b v u wd = outN u v b wd := by
  unfold outN outM
  rw [outB_rev, outC_rev]
  cases hb : outB u v b wd with
  | false => simp
  | true =>
    have hne : outC u v b ≠ 0 := by
      unfold outB at hb
      simp only [Bool.and_eq_true, decide_eq_true_eq] at hb
      exact hb.2
    simp only [if_true]
    rw [ofs_rev v b, ofs_rev u v]
    by_cases h : 0 < outC u v b
    · simp only [if_neg (show ¬ 0 < -outC u v b by omega), if_pos h]; exact ⟨trivial, trivial⟩
    · simp only [if_pos (show 0 < -outC u v b by omega), if_neg h, negP_negP]; exact ⟨trivial, trivial⟩
theorem badJ_rev (u v b : Pt) (wd jn cp ml ph : Int) (D : List Int) : badJ b v u wd jn cp ml ph D = badJ u v b wd jn cp ml ph D := by
  unfold badJ
  cases stB wd jn cp ml ph D <;> cases vP u <;> cases vP v <;> cases vP b <;> cases ((v.1 == u.1) && (v.2 == u.2)) <;> cases ((v.1 == b.1) && (v.2 == b.2)) <;> rfl
theorem joinL_rev (u v b : Pt) (wd jn cp ml ph : Int) (D : List Int) : joinL b v u wd jn cp ml ph D = joinL u v b wd jn cp ml ph D := by
  unfold joinL joinR
  rw [badJ_rev, outB_rev, (outN_rev u v b wd).1, (outN_rev u v b wd).2, ← cornL_rev v (outN u v b wd) (outM u v b wd), orient_revT]
theorem joinL_pen (u v b : Pt) (wd jn cp ml ph cp2 ph2 : Int) (D D2 : List Int) (h : stB wd jn cp ml ph D = stB wd jn cp2 ml ph2 D2) : joinL u v b wd jn cp ml ph D = joinL u v b wd jn cp2 ml ph2 D2 := by
  unfold joinL joinR badJ
  rw [h]
theorem joinL_bad (u v b : Pt) (wd jn cp ml ph : Int) (D : List Int) (h : stB wd jn cp ml ph D = false) : joinL u v b wd jn cp ml ph D = [] := by
  have hb : badJ u v b wd jn cp ml ph D = true := by unfold badJ; rw [h]; simp
  unfold joinL joinR
  rw [if_pos hb]; rfl
theorem joinL_len (u v b : Pt) (wd jn cp ml ph : Int) (D : List Int) : (joinL u v b wd jn cp ml ph D).length ≤ 1 := by
  unfold joinL wrapL; split <;> simp
theorem getD_orient (L : List Pt) (h : 0 < (orient L).length) : (orient L).getD 0 pt0 = L.getD 0 pt0 ∧ (orient L).length = L.length := by
  unfold orient at h ⊢
  by_cases h1 : 0 < area L
  · rw [if_pos h1]; exact ⟨rfl, rfl⟩
  · rw [if_neg h1] at h ⊢
    by_cases h2 : area L < 0
    · rw [if_pos h2] at h ⊢
      unfold revT
      cases L with
      | nil => exact ⟨rfl, rfl⟩
      | cons a r => simp
    · rw [if_neg h2] at h; simp at h
/-- the ring of a join -/
theorem joinR_ok (u v b : Pt) (wd jn cp ml ph : Int) (D : List Int) (h : 0 < (joinR u v b wd jn cp ml ph D).length) :
    0 < area (joinR u v b wd jn cp ml ph D) ∧ (jn = 2 → (joinR u v b wd jn cp ml ph D).length = 3) ∧ (jn ≠ 3 → (joinR u v b wd jn cp ml ph D).getD 0 pt0 = v ∧ outB u v b wd = true) := by
  unfold joinR at h ⊢
  by_cases hb : badJ u v b wd jn cp ml ph D = true
  · rw [if_pos hb] at h; simp at h
  · rw [if_neg hb] at h ⊢
    by_cases h3 : jn = 3
    · rw [if_pos h3] at h ⊢
      unfold discL at h ⊢
      by_cases hm : mayB v v wd = true
      · rw [if_pos hm] at h ⊢
        exact ⟨orient_pos _ h, fun e => by omega, fun e => absurd h3 e⟩
      · rw [if_neg hm] at h; simp at h
    · rw [if_neg h3] at h ⊢
      by_cases ho : outB u v b wd = true
      · rw [if_pos ho] at h ⊢
        obtain ⟨g1, g2⟩ := getD_orient _ h
        refine ⟨orient_pos _ h, fun e => ?_, fun _ => ⟨?_, ho⟩⟩
        · rw [g2]
          unfold cornL
          rw [if_neg (by omega)]; rfl
        · rw [g1]; unfold cornL; split <;> rfl
      · rw [if_neg ho] at h; simp at h
theorem tipB_mono (n m : Pt) (v l l2 : Int) (h : tipB n m v l = true) (h1 : l ≤ l2) (h2 : l2 ≤ 65536) : tipB n m v l2 = true := by
  obtain ⟨a1, a2, a3, a4, a5, a6, a7⟩ := tip_yes h
  unfold tipB
  simp only [Bool.and_eq_true, decide_eq_true_eq]
  refine ⟨⟨⟨⟨⟨⟨a1, a2⟩, a3⟩, by omega⟩, h2⟩, a6⟩, ?_⟩
  have hq : 0 ≤ tipQ n m := by
    have p : ∀ x : Int, 0 ≤ x * x := fun x => by rcases Int.le_total 0 x with h | h; exact Int.mul_nonneg h h; exact Int.mul_nonneg_of_nonpos_of_nonpos h h
    have := p (n.1 + m.1); have := p (n.2 + m.2)
    unfold tipQ; omega
  have hl : l * l ≤ l2 * l2 := Int.mul_le_mul h1 h1 (by omega) (by omega)
  exact Int.le_trans a7 (Int.mul_le_mul_of_nonneg_right hl hq)
theorem tipP_mono (n m : Pt) (v l l2 : Int) (h : tipB n m v l = true) (h1 : l ≤ l2) (h2 : l2 ≤ 65536) : tipP n m v l2 = tipP n m v l := by
  unfold tipP; rw [h, tipB_mono n m v l l2 h h1 h2]
theorem vP_neg (p : Pt) : vP (negP p) = vP p := by
  have q : ∀ x : Int, (hc (-x) == -x) = (hc x == x) := fun x => by
    unfold hc clI
    rw [Bool.eq_iff_iff, beq_iff_eq, beq_iff_eq]
    split <;> split <;> (try split) <;> (try split) <;> omega
  unfold vP validB negP
  rw [q, q]
theorem tip_neg (n m : Pt) (v l : Int) : tipB (negP n) (negP m) v l = tipB n m v l ∧ tipP (negP n) (negP m) v l = negP (tipP n m v l) := by
  have eq : tipQ (negP n) (negP m) = tipQ n m := by unfold tipQ negP; grind
  have eb : tipB (negP n) (negP m) v l = tipB n m v l := by unfold tipB; rw [vP_neg, vP_neg, eq]
  refine ⟨eb, ?_⟩
  unfold tipP
  rw [eb, eq]
  cases h : tipB n m v l with
  | false => rfl
  | true =>
    obtain ⟨h1, h2, h3, h4, h5, h6, h7⟩ := tip_yes h
    obtain ⟨a, b, aa, bb, v2, l2, ea, eb, eaa, ebb, ev2, el2, ba, bb1, baa, bbb, bv2, bl2, bv, bav, bbv, bav1, bbv1, eqq⟩ := tip_bd n m v l h1 h2 h3 h4 h5
    simp only [if_true]
    have e1 : (negP n).1 + (negP m).1 = -a := by unfold negP; dsimp only; omega
    have e2 : (negP n).2 + (negP m).2 = -b := by unfold negP; dsimp only; omega
    rw [e1, e2, ea, eb, ev2, Int.neg_mul, Int.neg_mul, dvr_neg_left _ _ (by omega), dvr_neg_left _ _ (by omega)]
    rfl
/-- where the tip lies -/
theorem tip_place (n m : Pt) (v l : Int) (h : tipB n m v l = true) :
    ∃ a b x y : Int, n.1 + m.1 = a ∧ n.2 + m.2 = b ∧ tipP n m v l = (x, y) ∧ (-2097152 ≤ a ∧ a ≤ 2097152) ∧ (-2097152 ≤ b ∧ b ≤ 2097152) ∧ (-134217729 ≤ x ∧ x ≤ 134217729) ∧ (-134217729 ≤ y ∧ y ≤ 134217729) ∧
      0 ≤ x * a ∧ 0 ≤ y * b ∧ (x * b - y * a ≤ max a (-a) + max b (-b)) ∧ (-(x * b - y * a) ≤ max a (-a) + max b (-b)) := by
  obtain ⟨h1, h2, h3, h4, h5, h6, h7⟩ := tip_yes h
  obtain ⟨a, b, aa, bb, v2, l2, ea, eb, eaa, ebb, ev2, el2, ba, bb1, baa, bbb, bv2, bl2, bv, bav, bbv, bav1, bbv1, eqq⟩ := tip_bd n m v l h1 h2 h3 h4 h5
  have hp : tipP n m v l = (dvr (a * v2) (2 * (aa + bb)), dvr (b * v2) (2 * (aa + bb))) := by unfold tipP; rw [h, if_pos rfl, ea, eb, ev2, eqq]
  refine ⟨a, b, _, _, ea, eb, hp, ba, bb1, ?_⟩
  rw [eqq] at h6
  have hq : 1 ≤ aa + bb := by omega
  obtain ⟨r1, r2⟩ := dvr_off2 (a * v2) (2 * (aa + bb)) (by omega) (by omega)
  obtain ⟨s1, s2⟩ := dvr_off2 (b * v2) (2 * (aa + bb)) (by omega) (by omega)
  have habs : ∀ z zz : Int, z * z = zz → max z (-z) ≤ zz := fun z zz hz => by
    rw [← hz]
    rcases Int.le_total 0 z with h | h
    · by_cases h0 : z = 0
      · subst h0; decide
      · have := Int.mul_le_mul_of_nonneg_right (show 1 ≤ z by omega) (show 0 ≤ z by omega); omega
    · by_cases h0 : z = 0
      · subst h0; decide
      · have := Int.mul_le_mul_of_nonneg_right (show 1 ≤ -z by omega) (show 0 ≤ -z by omega)
        have e : -z * -z = z * z := by rw [Int.neg_mul_neg]
        omega
  have ka := habs a aa eaa
  have kb := habs b bb ebb
  generalize hQ : aa + bb = Q at *
  generalize hx : dvr (a * v2) (2 * Q) = x at *
  generalize hy : dvr (b * v2) (2 * Q) = y at *
  clear hx hy hp
  -- sizes
  have sz : ∀ z r : Int, max z (-z) ≤ Q → 2 * (z * v2) ≤ 2 * (r * (2 * Q)) + 2 * Q → 2 * (r * (2 * Q)) ≤ 2 * (z * v2) + 2 * Q → -134217729 ≤ r ∧ r ≤ 134217729 := fun z r hz e1 e2 => by
    have u1 := Int.mul_le_mul_of_nonneg_right (show z ≤ Q by omega) (show 0 ≤ v2 by omega)
    have u2 := Int.mul_le_mul_of_nonneg_right (show -Q ≤ z by omega) (show 0 ≤ v2 by omega)
    have u3 := Int.mul_le_mul_of_nonneg_left bv2.2 (show 0 ≤ Q by omega)
    rw [Int.neg_mul] at u2
    have e3 : r * (2 * Q) = 2 * (r * Q) := by grind
    rw [e3] at e1 e2
    constructor
    · apply Classical.byContradiction; intro hc
      have := Int.mul_le_mul_of_nonneg_right (show r ≤ -134217730 by omega) (show 0 ≤ Q by omega)
      omega
    · apply Classical.byContradiction; intro hc
      have := Int.mul_le_mul_of_nonneg_right (show 134217730 ≤ r by omega) (show 0 ≤ Q by omega)
      omega
  -- signs
  have sg : ∀ z r : Int, 2 * (z * v2) ≤ 2 * (r * (2 * Q)) + 2 * Q → 2 * (r * (2 * Q)) ≤ 2 * (z * v2) + 2 * Q → 0 ≤ r * z := fun z r e1 e2 => by
    have e3 : r * (2 * Q) = 2 * (r * Q) := by grind
    rw [e3] at e1 e2
    rcases Int.le_total 0 z with hz | hz
    · have hv := Int.mul_nonneg hz (show 0 ≤ v2 by omega)
      refine Int.mul_nonneg ?_ hz
      apply Classical.byContradiction; intro hc
      have := Int.mul_le_mul_of_nonneg_right (show r ≤ -1 by omega) (show 0 ≤ Q by omega)
      omega
    · have hv := Int.mul_nonneg (show 0 ≤ -z by omega) (show 0 ≤ v2 by omega)
      rw [Int.neg_mul] at hv
      refine Int.mul_nonneg_of_nonpos_of_nonpos ?_ hz
      apply Classical.byContradiction; intro hc
      have := Int.mul_le_mul_of_nonneg_right (show 1 ≤ r by omega) (show 0 ≤ Q by omega)
      omega
  refine ⟨sz a x (by omega) r1 r2, sz b y (by omega) s1 s2, sg a x r1 r2, sg b y s1 s2, ?_⟩
  -- the error off the bisector
  have e3 : x * (2 * Q) = 2 * (x * Q) := by grind
  have e4 : y * (2 * Q) = 2 * (y * Q) := by grind
  rw [e3] at r1 r2
  rw [e4] at s1 s2
  obtain ⟨E1, hE1⟩ : ∃ E1, E1 = 2 * (x * Q) - a * v2 := ⟨_, rfl⟩
  obtain ⟨E2, hE2⟩ : ∃ E2, E2 = 2 * (y * Q) - b * v2 := ⟨_, rfl⟩
  have hid : (x * b - y * a) * (2 * Q) = E1 * b - E2 * a := by rw [hE1, hE2]; grind
  have mb : ∀ e z : Int, -Q ≤ e → e ≤ Q → e * z ≤ Q * max z (-z) ∧ -(e * z) ≤ Q * max z (-z) := fun e z h1 h2 => by
    rcases Int.le_total 0 z with hz | hz
    · have g1 := Int.mul_le_mul_of_nonneg_right h2 hz
      have g2 := Int.mul_le_mul_of_nonneg_right h1 hz
      rw [Int.neg_mul] at g2
      rw [show max z (-z) = z by omega]; omega
    · have g1 := Int.mul_le_mul_of_nonneg_right h2 (show 0 ≤ -z by omega)
      have g2 := Int.mul_le_mul_of_nonneg_right h1 (show 0 ≤ -z by omega)
      rw [show max z (-z) = -z by omega]
      simp only [Int.mul_neg, Int.neg_mul] at g1 g2 ⊢
      omega
  have m1 := mb E1 b (by omega) (by omega)
  have m2 := mb E2 a (by omega) (by omega)
  have hb0 : 0 ≤ max b (-b) := by omega
  have ha0 : 0 ≤ max a (-a) := by omega
  generalize max a (-a) = A at *
  generalize max b (-b) = B at *
  generalize x * b - y * a = c at *
  have e5 : c * (2 * Q) = 2 * (c * Q) := by grind
  rw [e5] at hid
  have e6 : Q * B + Q * A = (A + B) * Q := by grind
  constructor
  · apply Classical.byContradiction; intro hc
    have := Int.mul_le_mul_of_nonneg_right (show A + B + 1 ≤ c by omega) (show 0 ≤ Q by omega)
    rw [Int.add_mul] at this
    have hp := Int.mul_nonneg (show 0 ≤ A + B by omega) (show 0 ≤ Q by omega)
    omega
  · apply Classical.byContradiction; intro hc
    have := Int.mul_le_mul_of_nonneg_right (show A + B + 1 ≤ -c by omega) (show 0 ≤ Q by omega)
    rw [Int.add_mul, Int.neg_mul] at this
    have hp := Int.mul_nonneg (show 0 ≤ A + B by omega) (show 0 ≤ Q by omega)
    omega
end Go.Proofs.YtdodgnpjlicnoaaGreat
