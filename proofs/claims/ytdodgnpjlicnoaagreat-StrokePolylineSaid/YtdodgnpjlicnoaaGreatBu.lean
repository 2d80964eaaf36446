/- Plain: the parts of a stroke near the origin are valid, and translated as reference 16 does it. -/
import Derived.Test.YtdodgnpjlicnoaaGreatQs
import Derived.Test.YtdodgnpjlicnoaaGreatWe
import Derived.Deep.AppendLies
import Derived.Test.YtdodgnpjlicnoaaGreatKu
namespace Go.Proofs.YtdodgnpjlicnoaaGreat
section
set_option linter.unusedVariables false
set_option linter.unusedSimpArgs false
def trL (t : Pt) (L : List Pt) : List Pt := L.map fun p => addP p t
def trX (t p : Pt) : Int := t.1 * p.2 - t.2 * p.1
def lastD (a : Pt) : List Pt → Pt
  | [] => a
  | b :: r => lastD b r
theorem lastD_get : ∀ (r : List Pt) (a : Pt), (a :: r).getD ((a :: r).length - 1) pt0 = lastD a r
  | [], a => rfl
  | b :: r, a => by
    have := lastD_get r b
    rw [lastD, ← this]
    simp [List.getD_eq_getElem?_getD]
theorem lastD_map (t : Pt) : ∀ (r : List Pt) (a : Pt), lastD (addP a t) (trL t r) = addP (lastD a r) t
  | [], a => rfl
  | b :: r, a => lastD_map t r b
def both (t p : Pt) : Prop := vP p = true ∧ vP (addP p t) = true
theorem crP_tr (t p q : Pt) (hp : both t p) (hq : both t q) : crP (addP p t) (addP q t) = crP p q + trX t q - trX t p := by
  obtain ⟨p1, p2, _⟩ := vP_bd hp.1
  obtain ⟨p3, p4, _⟩ := vP_bd hp.2
  obtain ⟨q1, q2, _⟩ := vP_bd hq.1
  obtain ⟨q3, q4, _⟩ := vP_bd hq.2
  unfold crP
  rw [p1, p2, p3, p4, q1, q2, q3, q4]
  unfold crossI addP trX
  dsimp only
  grind
theorem lastD_both (t : Pt) : ∀ (r : List Pt) (a : Pt), (∀ p ∈ a :: r, both t p) → both t (lastD a r)
  | [], a, h => h a (by simp)
  | b :: r, a, h => lastD_both t r b (fun p hp => h p (List.mem_cons_of_mem _ hp))
theorem pathA_tr (t : Pt) : ∀ (r : List Pt) (a : Pt), (∀ p ∈ a :: r, both t p) → pathA (trL t (a :: r)) = pathA (a :: r) + trX t (lastD a r) - trX t a
  | [], a, _ => by simp [trL, pathA, lastD]
  | b :: r, a, h => by
    have ih := pathA_tr t r b (fun p hp => h p (List.mem_cons_of_mem _ hp))
    have hc := crP_tr t a b (h a (by simp)) (h b (by simp))
    have e : trL t (a :: b :: r) = addP a t :: addP b t :: trL t r := rfl
    have e2 : trL t (b :: r) = addP b t :: trL t r := rfl
    rw [e, pathA, ← e2, ih, hc, pathA, lastD]
    omega
theorem validL_of (L : List Pt) (hl : L.length ≤ 4096) (h : ∀ p ∈ L, vP p = true) : validL L = true := by
  unfold validL
  rw [decide_eq_true hl, Bool.true_and, List.all_eq_true]
  exact h
theorem area_tr (t : Pt) (L : List Pt) (hl : L.length ≤ 4096) (h : ∀ p ∈ L, both t p) : area (trL t L) = area L := by
  have h1 : validL L = true := validL_of L hl (fun p hp => (h p hp).1)
  have h2 : validL (trL t L) = true := validL_of _ (by unfold trL; rw [List.length_map]; exact hl) (fun p hp => by
    obtain ⟨q, hq, rfl⟩ := List.mem_map.1 hp
    exact (h q hq).2)
  rw [(area_yes h1).1, (area_yes h2).1]
  cases L with
  | nil => rfl
  | cons a r =>
    rw [areaTo_cyc (trL t (a :: r)) (by unfold trL; simp), areaTo_cyc (a :: r) (by simp), pathA_tr t r a h]
    have e : trL t (a :: r) = addP a t :: trL t r := rfl
    rw [e, lastD_get, lastD_get, lastD_map, List.getD_cons_zero, List.getD_cons_zero, crP_tr t _ _ (lastD_both t r a h) (h a (by simp))]
    omega
theorem orient_tr (t : Pt) (L : List Pt) (hl : L.length ≤ 4096) (h : ∀ p ∈ L, both t p) : orient (trL t L) = trL t (orient L) := by
  unfold orient
  rw [area_tr t L hl h]
  split
  · rfl
  · split
    · unfold revT trL
      rw [List.map_append, List.map_take, List.map_reverse, List.map_drop]
    · rfl
theorem half_sqv (e L : Int) (h0 : 0 ≤ L) (h1 : -L ≤ 2 * e) (h2 : 2 * e ≤ L) : 4 * (e * e) ≤ L * L := by
  have h := Nat.mul_le_mul (show (2 * e).natAbs ≤ L.natAbs by omega) (show (2 * e).natAbs ≤ L.natAbs by omega)
  rw [← Int.natAbs_mul, ← Int.natAbs_mul] at h
  have e1 : 2 * e * (2 * e) = 4 * (e * e) := by grind
  have e2 := sqn (2 * e)
  have e3 := sqn L
  rw [e1] at h e2
  omega
theorem ofs_small (x y v : Int) (hx : -1048576 ≤ x ∧ x ≤ 1048576) (hy : -1048576 ≤ y ∧ y ≤ 1048576) (h2 : 1 ≤ v) (h3 : v ≤ 16384) :
    (-16384 ≤ (ofs (x, y) v).1 ∧ (ofs (x, y) v).1 ≤ 16384) ∧ (-16384 ≤ (ofs (x, y) v).2 ∧ (ofs (x, y) v).2 ≤ 16384) := by
  by_cases hz : x = 0 ∧ y = 0
  · rw [hz.1, hz.2, ofs_00]; exact ⟨⟨by decide, by decide⟩, ⟨by decide, by decide⟩⟩
  have hok : ofsOk (x, y) v = true := by
    unfold ofsOk wideB
    simp only [Bool.and_eq_true, inB_iff]
    omega
  obtain ⟨a, b, u, u2, t, t2, m, s, ea, eb, a0, b0, a1, b1, eu, eu2, et, et2, u0, u1, t0, t1, em, es, s1, hO, _⟩ := ofs_ar x y v hok
  rw [hO.out]
  obtain ⟨p1, p2⟩ := isq_spec m (by omega)
  rw [es] at p1 p2
  have hab : 1 ≤ a + b := by
    have ha : x ≠ 0 → 1 ≤ a := fun h => by
      have : a ≠ 0 := fun e => by rw [e] at ea; have := Int.mul_eq_zero.1 ea; omega
      omega
    have hb : y ≠ 0 → 1 ≤ b := fun h => by
      have : b ≠ 0 := fun e => by rw [e] at eb; have := Int.mul_eq_zero.1 eb; omega
      omega
    by_cases h : x = 0
    · have := hb (fun e => hz ⟨h, e⟩); omega
    · have := ha h; omega
  have hs : 256 ≤ s := by
    rcases Nat.lt_or_ge s 256 with h | h
    · have := Nat.mul_le_mul (show s + 1 ≤ 256 by omega) (show s + 1 ≤ 256 by omega)
      omega
    · exact h
  obtain ⟨L, hL⟩ : ∃ L : Int, L = s := ⟨_, rfl⟩
  have hLh : 65536 * (a + b) ≤ L * L + 2 * L := by
    have q : ((m : Nat) : Int) < ((s : Int) + 1) * ((s : Int) + 1) := by exact_mod_cast p2
    have q2 : ((s : Int) + 1) * ((s : Int) + 1) = (s : Int) * s + 2 * s + 1 := by grind
    rw [hL, em]; omega
  have d1 := dvr_off2 u2 (s : Int) (by omega) (by omega)
  have d2 := dvr_off2 t2 (s : Int) (by omega) (by omega)
  rw [← hL] at d1 d2 ⊢
  generalize hnx : dvr u2 L = nx at *
  generalize hny : dvr t2 L = ny at *
  have f1 : L * nx + 128 * v * y = nx * L - u2 := by rw [← eu2, ← eu]; grind
  have f2 : L * ny - 128 * v * x = ny * L - t2 := by rw [← et2, ← et]; grind
  have s1' := half_sqv (nx * L - u2) L (by omega) (by omega) (by omega)
  have s2' := half_sqv (ny * L - t2) L (by omega) (by omega) (by omega)
  have hi := off_high x y v L nx ny (by omega) (by omega) (by rw [ea, eb]; exact hLh) (by rw [f1]; exact s1') (by rw [f2]; exact s2') (v + v / 255 + 3) (by omega)
  have bnd : ∀ z : Int, z * z ≤ 268435456 → -16384 ≤ z ∧ z ≤ 16384 := by
    intro z h
    apply Classical.byContradiction
    intro hc
    have := Nat.mul_le_mul (show 16385 ≤ z.natAbs by omega) (show 16385 ≤ z.natAbs by omega)
    rw [← Int.natAbs_mul] at this
    have := sqn z
    omega
  have hT : (v + v / 255 + 3) * (v + v / 255 + 3) ≤ 16451 * 16451 := Int.mul_le_mul (by omega) (by omega) (by omega) (by omega)
  have n1 := sqn nx
  have n2 := sqn ny
  exact ⟨bnd nx (by omega), bnd ny (by omega)⟩
def inn (p : Pt) : Prop := (-262144 ≤ p.1 ∧ p.1 ≤ 262144) ∧ (-262144 ≤ p.2 ∧ p.2 ≤ 262144)
theorem both_of {t q : Pt} (ht : inn t) (h1 : -524288 ≤ q.1) (h2 : q.1 ≤ 524288) (h3 : -524288 ≤ q.2) (h4 : q.2 ≤ 524288) : both t q := by
  unfold inn at ht
  exact ⟨vP_of (by omega) (by omega) (by omega) (by omega), vP_of (by unfold addP; dsimp only; omega) (by unfold addP; dsimp only; omega) (by unfold addP; dsimp only; omega) (by unfold addP; dsimp only; omega)⟩
theorem mayB_in {a b : Pt} {v : Int} (ha : vP a = true) (hb : vP b = true) : mayB a b v = wideB v := by unfold mayB; rw [ha, hb]; simp
theorem bodyL_tr (a b t : Pt) (v : Int) (ha : inn a) (hb : inn b) (ht : inn t) : bodyL (addP a t) (addP b t) v = trL t (bodyL a b v) := by
  have h1 := both_of (q := a) ht (by unfold inn at ha; omega) (by unfold inn at ha; omega) (by unfold inn at ha; omega) (by unfold inn at ha; omega)
  have h2 := both_of (q := b) ht (by unfold inn at hb; omega) (by unfold inn at hb; omega) (by unfold inn at hb; omega) (by unfold inn at hb; omega)
  unfold bodyL
  rw [mayB_in h1.1 h2.1, mayB_in h1.2 h2.2]
  cases hw : wideB v with
  | false => rw [if_neg (by decide), if_neg (by decide)]; rfl
  | true =>
    rw [if_pos rfl, if_pos rfl]
    have hv := (inB_iff _ _ _).1 hw
    have es : subP (addP b t) (addP a t) = subP b a := by unfold subP addP; ext <;> (dsimp only; omega)
    rw [es]
    unfold inn at ha hb
    have hn := ofs_small (b.1 - a.1) (b.2 - a.2) v (by omega) (by omega) hv.1 hv.2
    rw [show ((b.1 - a.1, b.2 - a.2) : Pt) = subP b a from rfl] at hn
    generalize ofs (subP b a) v = n at *
    rw [← orient_tr t _ (by simp) (fun q hq => by
      simp at hq
      rcases hq with rfl | rfl | rfl | rfl <;> (apply both_of ht <;> (simp only [subP, addP]; omega)))]
    congr 1
    unfold trL subP addP
    simp only [List.map_cons, List.map_nil]
    congr 1
    · ext <;> (dsimp only; omega)
    congr 1
    · ext <;> (dsimp only; omega)
    congr 1
    · ext <;> (dsimp only; omega)
    congr 1
    ext <;> (dsimp only; omega)
theorem capL_tr (a b t : Pt) (v : Int) (ha : inn a) (hb : inn b) (ht : inn t) : capL (addP a t) (addP b t) v = trL t (capL a b v) := by
  have h1 := both_of (q := a) ht (by unfold inn at ha; omega) (by unfold inn at ha; omega) (by unfold inn at ha; omega) (by unfold inn at ha; omega)
  have h2 := both_of (q := b) ht (by unfold inn at hb; omega) (by unfold inn at hb; omega) (by unfold inn at hb; omega) (by unfold inn at hb; omega)
  unfold capL
  rw [mayB_in h1.1 h2.1, mayB_in h1.2 h2.2]
  cases hw : wideB v with
  | false => rw [if_neg (by decide), if_neg (by decide)]; rfl
  | true =>
    rw [if_pos rfl, if_pos rfl]
    have hv := (inB_iff _ _ _).1 hw
    have es : subP (addP b t) (addP a t) = subP b a := by unfold subP addP; ext <;> (dsimp only; omega)
    rw [es]
    unfold inn at ha hb
    have hn := ofs_small (b.1 - a.1) (b.2 - a.2) v (by omega) (by omega) hv.1 hv.2
    rw [show ((b.1 - a.1, b.2 - a.2) : Pt) = subP b a from rfl] at hn
    generalize ofs (subP b a) v = n at *
    rw [← orient_tr t _ (by simp) (fun q hq => by
      simp at hq
      rcases hq with rfl | rfl | rfl | rfl <;> (apply both_of ht <;> (simp only [subP, addP]; omega)))]
    congr 1
    unfold trL subP addP
    simp only [List.map_cons, List.map_nil]
    congr 1
    · ext <;> (dsimp only; omega)
    congr 1
    · ext <;> (dsimp only; omega)
    congr 1
    · ext <;> (dsimp only; omega)
    congr 1
    ext <;> (dsimp only; omega)
theorem dotL_tr (a t : Pt) (v : Int) (ha : inn a) (ht : inn t) : dotL (addP a t) v = trL t (dotL a v) := by
  have h1 := both_of (q := a) ht (by unfold inn at ha; omega) (by unfold inn at ha; omega) (by unfold inn at ha; omega) (by unfold inn at ha; omega)
  unfold dotL
  rw [mayB_in h1.1 h1.1, mayB_in h1.2 h1.2]
  cases hw : wideB v with
  | false => rw [if_neg (by decide), if_neg (by decide)]; rfl
  | true =>
    rw [if_pos rfl, if_pos rfl]
    have hv := (inB_iff _ _ _).1 hw
    have hd := dvr_off2 v 2 (by omega) (by omega)
    unfold inn at ha
    generalize dvr v 2 = n at *
    rw [← orient_tr t _ (by simp) (fun q hq => by
      simp at hq
      rcases hq with rfl | rfl | rfl | rfl <;> (apply both_of ht <;> (dsimp only; omega)))]
    congr 1
    unfold trL addP
    simp only [List.map_cons, List.map_nil]
    congr 1
    · ext <;> (dsimp only; omega)
    congr 1
    · ext <;> (dsimp only; omega)
    congr 1
    · ext <;> (dsimp only; omega)
    congr 1
    ext <;> (dsimp only; omega)
theorem discL_tr (a t : Pt) (v : Int) (ha : inn a) (ht : inn t) : discL (addP a t) v = trL t (discL a v) := by
  have h1 := both_of (q := a) ht (by unfold inn at ha; omega) (by unfold inn at ha; omega) (by unfold inn at ha; omega) (by unfold inn at ha; omega)
  unfold discL
  rw [mayB_in h1.1 h1.1, mayB_in h1.2 h1.2]
  cases hw : wideB v with
  | false => rw [if_neg (by decide), if_neg (by decide)]; rfl
  | true =>
    rw [if_pos rfl, if_pos rfl]
    have hv := (inB_iff _ _ _).1 hw
    unfold inn at ha
    have hsm : ∀ k, (-16384 ≤ (discD v (waysL.getD k pt0)).1 ∧ (discD v (waysL.getD k pt0)).1 ≤ 16384) ∧ (-16384 ≤ (discD v (waysL.getD k pt0)).2 ∧ (discD v (waysL.getD k pt0)).2 ≤ 16384) := fun k => by
      have hb := waysL_bd k
      generalize waysL.getD k pt0 = d at *
      have key : ∀ x : Int, -16384 ≤ x → x ≤ 16384 → -16384 ≤ dvr (x * v) 32768 ∧ dvr (x * v) 32768 ≤ 16384 := fun x x0 x1 => by
        have hm := Nat.mul_le_mul (show x.natAbs ≤ 16384 by omega) (show v.natAbs ≤ 16384 by omega)
        rw [← Int.natAbs_mul] at hm
        have hd := dvr_off2 (x * v) 32768 (by omega) (by omega)
        omega
      exact ⟨key _ hb.1.1 hb.1.2, key _ hb.2.1 hb.2.2⟩
    rw [← orient_tr t _ (by rw [discPts_len]; omega) (fun q hq => by
      obtain ⟨k, hk, rfl⟩ := List.getElem_of_mem hq
      rw [discPts_len] at hk
      have e := discPts_get a v k hk
      rw [List.getD_eq_getElem?_getD, List.getElem?_eq_getElem (by rw [discPts_len]; exact hk)] at e
      simp only [Option.getD_some] at e
      rw [e]
      have := hsm k
      apply both_of ht <;> (simp only [addP]; omega))]
    congr 1
    unfold trL discPts
    rw [List.map_map]
    apply List.map_congr_left
    intro d _
    unfold addP
    ext <;> (simp only [Function.comp]; omega)
/-- An outline has a positive area or is empty. -/
theorem orient_pos (L : List Pt) (h : 0 < (orient L).length) : 0 < area (orient L) := by
  rw [area_orient]
  unfold orient at h
  by_cases h1 : 0 < area L
  · rw [if_pos h1]; exact h1
  · rw [if_neg h1] at h ⊢
    by_cases h2 : area L < 0
    · omega
    · rw [if_neg h2] at h; simp at h
end

section
open Go.RowKit
attribute [local go_sem ↓] Go.wp_at_zero Go.wp_at_succ
set_option linter.unusedVariables false
set_option linter.unusedSimpArgs false
theorem Pts.far {w w' : World} {A : Option Addr} {n c : Nat} {L : List Pt} (h : Pts w A n c L) (hs : w.heap.size ≤ w'.heap.size) (hc : ∀ a o, A = some a → w'.cell? ⟨a.block, o, none⟩ = w.cell? ⟨a.block, o, none⟩) : Pts w' A n c L := by
  obtain ⟨h1, h2, h3, h5, h4⟩ := h
  refine ⟨h1, h2, h3, h5, fun hn => ?_⟩
  obtain ⟨b, o, e, hb, hx⟩ := h4 hn
  exact ⟨b, o, e, Nat.lt_of_lt_of_le hb hs, fun k hk => ⟨(hc _ _ e).trans (hx k hk).1, (hc _ _ e).trans (hx k hk).2⟩⟩
/-- A slice of slices of points, its own block not among theirs. -/
def BRws (w : World) (B : Nat) (v : Value) (LL : List (List Pt)) : Prop :=
  ∃ VS, w.ownsRow B 22 1 v LL.length VS ∧ ∀ k, k < LL.length → ∃ Ak nk ck, VS[k]? = some (.slice Ak nk ck) ∧ Pts w Ak nk ck (LL.getD k []) ∧ nk ≤ 4611686018427387904 ∧ ∀ a, Ak = some a → a.block < w.heap.size ∧ some a.block ≠ v.ownBlock
theorem BRws.keep {w w' : World} {B : Nat} {v : Value} {LL : List (List Pt)} (h : BRws w B v LL) (hk : Keeps w w') : BRws w' B v LL := by
  obtain ⟨VS, h1, h2⟩ := h
  refine ⟨VS, own_keep h1 hk, fun k hk' => ?_⟩
  obtain ⟨Ak, nk, ck, e, hP, hn, hb⟩ := h2 k hk'
  exact ⟨Ak, nk, ck, e, hP.keep hk, hn, fun a ha => ⟨Nat.lt_of_lt_of_le (hb a ha).1 hk.size, (hb a ha).2⟩⟩
theorem BRws.rws {w : World} {B : Nat} {v : Value} {LL : List (List Pt)} (h : BRws w B v LL) : ∃ A c, v = .slice A LL.length c ∧ Rws w A LL.length c LL := by
  obtain ⟨VS, h1, h2⟩ := h
  obtain ⟨A, c, rfl, g1, g2, g3, g4⟩ := SlA.of_own h1
  refine ⟨A, c, rfl, rfl, g1, g2, fun hp => ?_⟩
  obtain ⟨b, o, rfl, hb, hx⟩ := g4 hp
  refine ⟨b, o, rfl, hb, fun k hk => ?_⟩
  obtain ⟨Ak, nk, ck, e, hP, hn, _⟩ := h2 k hk
  exact ⟨Ak, nk, ck, (hx k (by omega)).trans e, hP, hn⟩
theorem BRws.base {w : World} {B B2 : Nat} {v : Value} {LL : List (List Pt)} (h : BRws w B v LL) (hb : B2 ≤ B) : BRws w B2 v LL := by
  obtain ⟨VS, h1, h2⟩ := h
  exact ⟨VS, own_base h1 hb, h2⟩
theorem vRows_short : ∀ (a : Nat) (LL : List (List Pt)), vRows a LL = true → ∀ k, k < LL.length → (LL.getD k []).length ≤ 4096
  | a, [], _, k, hk => by simp at hk
  | a, r :: rs, h, k, hk => by
    unfold vRows at h
    split at h
    · cases h
    · rename_i hc
      cases k with
      | zero => simp only [List.getD_cons_zero]; omega
      | succ k => rw [List.getD_cons_succ]; exact vRows_short _ rs h k (by simpa using hk)
theorem rows_info : (Tryz.prog.info? 22).map (fun i => (i.zero, i.size, i.bytes)) = some (some (.slice none 0 0), 1, 24) := by kernel_rfl
theorem BRws.snoc {w w1 : World} {B g cap n c : Nat} {v : Value} {A : Option Addr} {LL : List (List Pt)} {L : List Pt} {VS : List Value} {t : TypeId}
    (hown : w.ownsRow B 22 1 v LL.length VS) (hall : ∀ k, k < LL.length → ∃ Ak nk ck, VS[k]? = some (.slice Ak nk ck) ∧ Pts w Ak nk ck (LL.getD k []) ∧ nk ≤ 4611686018427387904 ∧ ∀ a, Ak = some a → a.block < w.heap.size ∧ some a.block ≠ v.ownBlock)
    (hP : Pts w A n c L) (hn : n ≤ 4611686018427387904) (hA : ∀ a, A = some a → a.block < w.heap.size ∧ some a.block ≠ v.ownBlock)
    (h1 : w1.ownsRow B 22 1 (.slice (some ⟨g, 0, none⟩) (LL.length + 1) cap) (LL.length + 1) (VS ++ [.slice A n c])) (hg : (w.alloc (.cells #[.slice A n c] t)).grownBy w1 v.ownBlock) (hlie : v.ownBlock = some g ∨ g = w.heap.size + 1) :
    BRws w1 B (.slice (some ⟨g, 0, none⟩) (LL.length + 1) cap) (LL ++ [L]) := by
  have hl : (LL ++ [L]).length = LL.length + 1 := by simp
  have hsz : w.heap.size + 1 ≤ w1.heap.size := by have := hg.size; simpa using this
  have hcell : ∀ b o, b < w.heap.size → some b ≠ v.ownBlock → w1.cell? ⟨b, o, none⟩ = w.cell? ⟨b, o, none⟩ := fun b o hb hne =>
    (hg.cell_far ⟨b, o, none⟩ (by simp; omega) (by simpa using hne)).trans (World.cell?_alloc_lt _ _ _ (by simpa using hb))
  have hne : ∀ b, b < w.heap.size → some b ≠ v.ownBlock → some b ≠ (Value.slice (some ⟨g, 0, none⟩) (LL.length + 1) cap).ownBlock := fun b hb hx e => by
    simp [Value.ownBlock] at e
    rcases hlie with h | h
    · exact hx (by rw [h, e])
    · omega
  have hVl : VS.length = LL.length := by have := hown.1; omega
  refine ⟨VS ++ [.slice A n c], by rw [hl]; exact h1, fun k hk => ?_⟩
  rw [hl] at hk
  by_cases hkl : k < LL.length
  · obtain ⟨Ak, nk, ck, e, hPk, hnk, hb⟩ := hall k hkl
    refine ⟨Ak, nk, ck, by rw [List.getElem?_append_left (by omega)]; exact e, ?_, hnk, fun a ha => ⟨by have := (hb a ha).1; omega, hne _ (hb a ha).1 (hb a ha).2⟩⟩
    rw [show (LL ++ [L]).getD k [] = LL.getD k [] by rw [List.getD_eq_getElem?_getD, List.getElem?_append_left hkl, List.getD_eq_getElem?_getD]]
    exact hPk.far (by omega) (fun a o ha => hcell _ _ (hb a ha).1 (hb a ha).2)
  · obtain rfl : k = LL.length := by omega
    refine ⟨A, n, c, by rw [List.getElem?_append_right (by omega), hVl, Nat.sub_self]; rfl, ?_, hn, fun a ha => ⟨by have := (hA a ha).1; omega, hne _ (hA a ha).1 (hA a ha).2⟩⟩
    rw [show (LL ++ [L]).getD LL.length [] = L by rw [List.getD_eq_getElem?_getD, List.getElem?_append_right (Nat.le_refl _), Nat.sub_self]; rfl]
    exact hP.far (by omega) (fun a o ha => hcell _ _ (hA a ha).1 (hA a ha).2)
end

section
open Go.RowKit
attribute [local go_sem ↓] Go.wp_at_zero Go.wp_at_succ
set_option linter.unusedVariables false
set_option linter.unusedSimpArgs false
def rtP (t p : Pt) : Pt := (hc p.1 + hc t.1, hc p.2 + hc t.2)
def rtL (t : Pt) (L : List Pt) : List Pt := L.map (rtP t)
def rtLL (t : Pt) (LL : List (List Pt)) : List (List Pt) := LL.map (rtL t)
theorem rtP_ok (t p : Pt) : okP (rtP t p) := by
  have h1 := hc_bd p.1
  have h2 := hc_bd p.2
  have h3 := hc_bd t.1
  have h4 := hc_bd t.2
  unfold okP i64b rtP; dsimp only; omega
theorem rtL_ok (t : Pt) (L : List Pt) : ∀ q ∈ rtL t L, okP q := by
  intro q hq
  obtain ⟨p, _, rfl⟩ := List.mem_map.1 hq
  exact rtP_ok t p
theorem rtL_len (t : Pt) (L : List Pt) : (rtL t L).length = L.length := by unfold rtL; rw [List.length_map]
theorem rtL_get (t : Pt) (L : List Pt) (k : Nat) (hk : k < L.length) : (rtL t L).getD k pt0 = rtP t (L.getD k pt0) := by
  unfold rtL
  rw [List.getD_eq_getElem?_getD, List.getElem?_map, List.getD_eq_getElem?_getD, List.getElem?_eq_getElem hk]; rfl
theorem own_blocks {w : World} {B n c size : Nat} {e : TypeId} {A : Option Addr} {xs : List Value} (h : w.ownsRow B e size (.slice A n c) n xs) : ∀ a, A = some a → B ≤ a.block ∧ a.block < w.heap.size := by
  intro a ha
  subst ha
  exact h.lt a.block (by rcases h.2 with ⟨h', _⟩ | ⟨g, cap, cur, h', _⟩ <;> simp [Value.ownBlock] at h' ⊢)
theorem takeLL_succ (LL : List (List Pt)) (k : Nat) (h : k < LL.length) : LL.take (k + 1) = LL.take k ++ [LL.getD k []] := by
  rw [List.take_succ_eq_append_getElem h, List.getD_eq_getElem?_getD, List.getElem?_eq_getElem h]; rfl
end

section
open Go.RowKit
set_option linter.unusedVariables false
set_option linter.unusedSimpArgs false
def sm (p : Pt) : Prop := (-524288 ≤ p.1 ∧ p.1 ≤ 524288) ∧ (-524288 ≤ p.2 ∧ p.2 ≤ 524288)
theorem sm_v {p : Pt} (h : sm p) : vP p = true := by unfold sm at h; exact vP_of (by omega) (by omega) (by omega) (by omega)
theorem inn_sm {p : Pt} (h : inn p) : sm p := by unfold inn at h; unfold sm; omega
theorem orient_mem {L : List Pt} {p : Pt} (h : p ∈ orient L) : p ∈ L := by
  unfold orient at h
  split at h
  · exact h
  · split at h
    · unfold revT at h
      rcases List.mem_append.1 h with h1 | h1
      · exact List.mem_of_mem_take h1
      · exact List.mem_of_mem_drop (List.mem_reverse.1 h1)
    · cases h
theorem bodyL_sm (a b : Pt) (v : Int) (ha : inn a) (hb : inn b) : ∀ p ∈ bodyL a b v, sm p := by
  intro p hp
  unfold bodyL at hp
  rw [mayB_in (sm_v (inn_sm ha)) (sm_v (inn_sm hb))] at hp
  cases hw : wideB v with
  | false => rw [hw, if_neg (by decide)] at hp; cases hp
  | true =>
    rw [hw, if_pos rfl] at hp
    have hv := (inB_iff _ _ _).1 hw
    unfold inn at ha hb
    have hn := ofs_small (b.1 - a.1) (b.2 - a.2) v (by omega) (by omega) hv.1 hv.2
    rw [show ((b.1 - a.1, b.2 - a.2) : Pt) = subP b a from rfl] at hn
    generalize ofs (subP b a) v = n at *
    have hq := orient_mem hp
    simp at hq
    unfold sm
    rcases hq with rfl | rfl | rfl | rfl <;> (simp only [subP, addP]; omega)
theorem capL_sm (a b : Pt) (v : Int) (ha : inn a) (hb : inn b) : ∀ p ∈ capL a b v, sm p := by
  intro p hp
  unfold capL at hp
  rw [mayB_in (sm_v (inn_sm ha)) (sm_v (inn_sm hb))] at hp
  cases hw : wideB v with
  | false => rw [hw, if_neg (by decide)] at hp; cases hp
  | true =>
    rw [hw, if_pos rfl] at hp
    have hv := (inB_iff _ _ _).1 hw
    unfold inn at ha hb
    have hn := ofs_small (b.1 - a.1) (b.2 - a.2) v (by omega) (by omega) hv.1 hv.2
    rw [show ((b.1 - a.1, b.2 - a.2) : Pt) = subP b a from rfl] at hn
    generalize ofs (subP b a) v = n at *
    have hq := orient_mem hp
    simp at hq
    unfold sm
    rcases hq with rfl | rfl | rfl | rfl <;> (simp only [subP, addP]; omega)
theorem dotL_sm (a : Pt) (v : Int) (ha : inn a) : ∀ p ∈ dotL a v, sm p := by
  intro p hp
  unfold dotL at hp
  rw [mayB_in (sm_v (inn_sm ha)) (sm_v (inn_sm ha))] at hp
  cases hw : wideB v with
  | false => rw [hw, if_neg (by decide)] at hp; cases hp
  | true =>
    rw [hw, if_pos rfl] at hp
    have hv := (inB_iff _ _ _).1 hw
    have hd := dvr_off2 v 2 (by omega) (by omega)
    unfold inn at ha
    generalize dvr v 2 = n at *
    have hq := orient_mem hp
    simp at hq
    unfold sm
    rcases hq with rfl | rfl | rfl | rfl <;> (dsimp only; omega)
theorem discL_sm (a : Pt) (v : Int) (ha : inn a) : ∀ p ∈ discL a v, sm p := by
  intro p hp
  unfold discL at hp
  rw [mayB_in (sm_v (inn_sm ha)) (sm_v (inn_sm ha))] at hp
  cases hw : wideB v with
  | false => rw [hw, if_neg (by decide)] at hp; cases hp
  | true =>
    rw [hw, if_pos rfl] at hp
    have hv := (inB_iff _ _ _).1 hw
    unfold inn at ha
    have hq := orient_mem hp
    obtain ⟨k, hk, rfl⟩ := List.getElem_of_mem hq
    rw [discPts_len] at hk
    have e := discPts_get a v k hk
    rw [List.getD_eq_getElem?_getD, List.getElem?_eq_getElem (by rw [discPts_len]; exact hk)] at e
    simp only [Option.getD_some] at e
    rw [e]
    have hb := waysL_bd k
    generalize waysL.getD k pt0 = d at *
    have key : ∀ x : Int, -16384 ≤ x → x ≤ 16384 → -16384 ≤ dvr (x * v) 32768 ∧ dvr (x * v) 32768 ≤ 16384 := fun x x0 x1 => by
      have hm := Nat.mul_le_mul (show x.natAbs ≤ 16384 by omega) (show v.natAbs ≤ 16384 by omega)
      rw [← Int.natAbs_mul] at hm
      have hd := dvr_off2 (x * v) 32768 (by omega) (by omega)
      omega
    have k1 := key d.1 hb.1.1 hb.1.2
    have k2 := key d.2 hb.2.1 hb.2.2
    unfold sm addP discD
    dsimp only
    omega
theorem rtL_sm (t : Pt) (L : List Pt) (ht : inn t) (h : ∀ p ∈ L, sm p) : rtL t L = trL t L := by
  unfold rtL trL
  apply List.map_congr_left
  intro p hp
  have hs := h p hp
  unfold sm at hs
  unfold inn at ht
  unfold rtP addP
  rw [hc_id (by omega), hc_id (by omega), hc_id (by omega), hc_id (by omega)]
theorem all_v {L : List Pt} (h : ∀ p ∈ L, sm p) : L.all vP = true := List.all_eq_true.2 (fun p hp => sm_v (h p hp))
/-- The four outlines. -/
def four (a b : Pt) (v : Int) : List (List Pt) := [bodyL a b v, capL a b v, discL a v, dotL b v]
theorem four_v (a b : Pt) (v : Int) (ha : inn a) (hb : inn b) : vRows 0 (four a b v) = true := by
  have l1 := bodyL_len a b v
  have l2 := capL_len a b v
  have l3 := discL_len a v
  have l4 := dotL_len b v
  unfold four vRows vRows vRows vRows vRows
  rw [all_v (bodyL_sm a b v ha hb), all_v (capL_sm a b v ha hb), all_v (discL_sm a v ha), all_v (dotL_sm b v hb)]
  rw [if_neg (by simp; omega), if_neg (by simp; omega), if_neg (by simp; omega), if_neg (by simp; omega)]
theorem four_tr (a b t : Pt) (v : Int) (ha : inn a) (hb : inn b) (ht : inn t) : rtLL t (four a b v) = four (addP a t) (addP b t) v := by
  unfold rtLL four
  simp only [List.map_cons, List.map_nil]
  rw [rtL_sm t _ ht (bodyL_sm a b v ha hb), rtL_sm t _ ht (capL_sm a b v ha hb), rtL_sm t _ ht (discL_sm a v ha), rtL_sm t _ ht (dotL_sm b v hb),
    bodyL_tr a b t v ha hb ht, capL_tr a b t v ha hb ht, discL_tr a t v ha ht, dotL_tr b t v hb ht]
theorem nil_or_pos {c : Bool} {L : List Pt} (h : 0 < (if c = true then orient L else []).length) : 0 < area (if c = true then orient L else []) := by
  cases c with
  | false => rw [if_neg (by decide)] at h; simp at h
  | true => rw [if_pos rfl] at h ⊢; exact orient_pos L h
theorem four_pos (a b : Pt) (v : Int) (k : Nat) (hk : k < 4) (h : 0 < ((four a b v).getD k []).length) : 0 < area ((four a b v).getD k []) := by
  have hq : k = 0 ∨ k = 1 ∨ k = 2 ∨ k = 3 := by omega
  rcases hq with rfl | rfl | rfl | rfl
  · exact nil_or_pos h
  · exact nil_or_pos h
  · exact nil_or_pos h
  · exact nil_or_pos h
theorem four_len (a b : Pt) (v : Int) (k : Nat) : ((four a b v).getD k []).length ≤ 16 := by
  have l1 := bodyL_len a b v
  have l2 := capL_len a b v
  have l3 := discL_len a v
  have l4 := dotL_len b v
  unfold four
  match k with
  | 0 => simp; omega
  | 1 => simp; omega
  | 2 => simp; omega
  | 3 => simp; omega
  | k + 4 => simp
theorem Rws.four {w : World} {A1 A2 A3 A4 : Option Addr} {n1 n2 n3 n4 c1 c2 c3 c4 : Nat} {L1 L2 L3 L4 : List Pt} (h1 : Pts w A1 n1 c1 L1) (h2 : Pts w A2 n2 c2 L2) (h3 : Pts w A3 n3 c3 L3) (h4 : Pts w A4 n4 c4 L4)
    (b1 : n1 ≤ 16) (b2 : n2 ≤ 16) (b3 : n3 ≤ 16) (b4 : n4 ≤ 16) (t : TypeId) : Rws (w.alloc (.cells #[.slice A1 n1 c1, .slice A2 n2 c2, .slice A3 n3 c3, .slice A4 n4 c4] t)) (some ⟨w.heap.size, 0, none⟩) 4 4 [L1, L2, L3, L4] := by
  refine ⟨rfl, Nat.le_refl _, by unfold maxLen; omega, fun _ => ⟨_, _, rfl, by simp, fun k hk => ?_⟩⟩
  have hkk := (Keeps.refl w).alloc (.cells #[.slice A1 n1 c1, .slice A2 n2 c2, .slice A3 n3 c3, .slice A4 n4 c4] t)
  have hq : k = 0 ∨ k = 1 ∨ k = 2 ∨ k = 3 := by omega
  rcases hq with rfl | rfl | rfl | rfl
  · exact ⟨A1, n1, c1, by simp [go_sem], h1.keep hkk, by omega⟩
  · exact ⟨A2, n2, c2, by simp [go_sem], h2.keep hkk, by omega⟩
  · exact ⟨A3, n3, c3, by simp [go_sem], h3.keep hkk, by omega⟩
  · exact ⟨A4, n4, c4, by simp [go_sem], h4.keep hkk, by omega⟩
end
end Go.Proofs.YtdodgnpjlicnoaaGreat
