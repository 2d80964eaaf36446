/- A drawn region whose head reads and calls; one operation behind it (that only reckons, an address) is taken ahead. -/
import Derived.Test.YtdodgnpjlicnoaaKu
namespace Go.Proofs.Ytdodgnpjlicnoaa
set_option linter.unusedVariables false
section
variable {P : Program} {md : Region.Mode} {ops : Array Oper} {C : World → Prop}
/-- the number ahead of t, f left out -/
def prevX (f t : Nat) : Nat := if t - 1 = f then t - 2 else t - 1
def chainX (md : Region.Mode) (ops : Array Oper) (n f : Nat) : Bool := (List.range ops.size).all fun t => decide (t ≤ n) || decide (t = f) || Region.waitsFor md ops t (prevX f t)
structure HeadInvX (md : Region.Mode) (ops : Array Oper) (n f : Nat) (listed : Array Bool) : Prop where
  size : listed.size = ops.size
  closed : ∀ j oj, ops[j]? = some oj → listed.getD j false = true → ∀ e ∈ oj.after, Region.binds md e = true → listed.getD e.on false = true
  tail : ∀ t, n ≤ t → t < ops.size → t ≠ f → listed.getD t true = false
  took : listed.getD f true = true
theorem HeadInvX.set {n f i : Nat} {listed : Array Bool} (inv : HeadInvX md ops n f listed) (hi : i ∈ Region.ready md ops listed) (hin : i < n) : HeadInvX md ops n f (listed.setIfInBounds i true) := by
  obtain ⟨_, oi, hoi, hall⟩ := mem_ready.1 hi
  refine ⟨by simp [inv.size], fun j oj hj hl e he hb => ?_, fun t ht ht' hf => by rw [getD_set_ne true (by omega)]; exact inv.tail t ht ht' hf, ?_⟩
  · by_cases hij : i = j
    · subst hij
      have : oj = oi := Option.some.inj (hj.symm.trans hoi)
      subst this
      exact getD_set_true (hall e he hb)
    · rw [getD_set_ne false hij] at hl
      exact getD_set_true (inv.closed j oj hj hl e he hb)
  · by_cases hif : i = f
    · subst hif
      have := (mem_ready.1 hi).1
      rw [inv.took] at this; cases this
    · rw [getD_set_ne true hif]; exact inv.took
theorem tail_waitsX {n f : Nat} {listed : Array Bool} (hnf : n < f) (hs : sinkFrom md ops 0 n = true) (hc : chainX md ops n f = true) (hn : n < ops.size) (inv : HeadInvX md ops n f listed) :
    ∀ (d i : Nat), n - i = d → i < n → listed.getD i true = false → ∀ t, n ≤ t → t ∉ Region.ready md ops listed := by
  intro d
  induction d using Nat.strongRecOn with
  | _ d ih =>
    intro i hd hin hun t ht hr
    obtain ⟨hut, ot, hot, hall⟩ := mem_ready.1 hr
    have htlt : t < ops.size := (Array.getElem?_eq_some_iff.1 hot).1
    have clash : ∀ {o : Oper} {e}, o = ot → e ∈ o.after → Region.binds md e = true → listed.getD e.on true = false → False := fun h he hb hu => by
      subst h
      have h2 := hall _ he hb
      rw [getD_both hu] at h2
      cases h2
    by_cases htf : t = f
    · subst htf
      rw [inv.took] at hut; cases hut
    by_cases htn : t = n
    · subst htn
      have h1 := List.all_eq_true.1 hs i (List.mem_range.2 hin)
      simp only [Bool.or_eq_true, decide_eq_true_eq] at h1
      rcases h1 with h1 | h1
      · omega
      obtain ⟨j, hj, hj2⟩ := List.any_eq_true.1 h1
      simp only [Bool.and_eq_true, decide_eq_true_eq] at hj2
      obtain ⟨oj, hoj, e, he, hb, hon⟩ := Region.waitsFor_spec hj2.2
      have hjle : j ≤ t := by have := List.mem_range.1 hj; omega
      by_cases hjt : j = t
      · subst hjt
        exact clash (Option.some.inj (hoj.symm.trans hot)) he hb (by rw [hon]; exact hun)
      · cases hl : listed.getD j false with
        | true =>
          have h2 := inv.closed j oj hoj hl e he hb
          rw [hon, getD_both hun] at h2
          cases h2
        | false =>
          have hjs : j < listed.size := by rw [inv.size]; omega
          exact ih (t - j) (by omega) j rfl (by omega) (getD_in hjs hl) t (Nat.le_refl _) hr
    · have h1 := List.all_eq_true.1 hc t (List.mem_range.2 htlt)
      simp only [Bool.or_eq_true, decide_eq_true_eq] at h1
      rcases h1 with (h1 | h1) | h1
      · omega
      · exact htf h1
      · obtain ⟨o', ho', e, he, hb, hon⟩ := Region.waitsFor_spec h1
        refine clash (Option.some.inj (ho'.symm.trans hot)) he hb ?_
        rw [hon]
        unfold prevX
        split
        · exact inv.tail _ (by omega) (by omega) (by omega)
        · exact inv.tail _ (by omega) (by omega) (by omega)
theorem headQ_firstX {n f i : Nat} {oi : Oper} {v : Value} {L : Array Bool → Act → Prop} (hnf : n < f) (hi : ops[i]? = some oi) (hsel : ∀ (j : Nat) (o : Oper) cs b, ops[j]? = some o → o.op ≠ .select cs b)
    (hs : sinkFrom md ops 0 n = true) (hc : chainX md ops n f = true) (hn : n < ops.size) (hin : i < n)
    (hdone : ∀ listed a, L listed a → ∀ j ∈ Region.ready md ops listed, n ≤ j) :
    ∀ (g : Nat) (listed : Array Bool) (a : Act), HeadInvX md ops n f listed →
      (∀ j oj, ops[j]? = some oj → j ≠ i → listed.getD j true = false → (∀ e ∈ oj.after, Region.binds md e = true → e.on ≠ i) → oi.apart ops oj = true) →
      i ∈ Region.ready md ops listed → YieldsIn P ops C oi v a →
      headQ P md ops C n L g (listed.setIfInBounds i true) (a.put oi.dst v) → headQ P md ops C n L (g + 1) listed a := by
  intro g
  induction g with
  | zero =>
    intro listed a inv _ hr hy H
    refine ⟨fun h => (by rw [h] at hr; cases hr), fun j hj => ?_⟩
    have hjn : j < n := Nat.lt_of_not_le fun h => absurd hj (tail_waitsX hnf hs hc hn inv _ i rfl hin (mem_ready.1 hr).1 j h)
    refine ⟨hjn, ?_⟩
    by_cases hji : j = i
    · subst hji; exact hy.qOp hi H
    · have := hdone _ _ H j (ready_mono hj hji)
      omega
  | succ g ih =>
    intro listed a inv hfree hr hy H
    have hun := (mem_ready.1 hr).1
    refine ⟨fun h => (by rw [h] at hr; cases hr), fun j hj => ?_⟩
    have hjn : j < n := Nat.lt_of_not_le fun h => absurd hj (tail_waitsX hnf hs hc hn inv _ i rfl hin hun j h)
    refine ⟨hjn, ?_⟩
    by_cases hji : j = i
    · subst hji; exact hy.qOp hi H
    · obtain ⟨hjun, oj, hoj, hall⟩ := mem_ready.1 hj
      have hnot : ∀ e ∈ oj.after, Region.binds md e = true → e.on ≠ i := fun e he hb heq => by
        have h1 := hall e he hb
        rw [heq, getD_both hun] at h1
        cases h1
      have h2 := qOp_put hoj (hfree j oj hoj hji hjun hnot) (fun cs b => hsel i oi cs b hi) (fun cs b => hsel j oj cs b hoj) hy (H.2 j (ready_mono hj hji)).2
      refine qOp_mono (fun a' h3 => ih (listed.setIfInBounds j true) a' (inv.set hj hjn) (fun k ok hk hki hun hno => ?_) (ready_mono hr (Ne.symm hji)) h3.1 ?_) h2
      · refine hfree k ok hk hki ?_ hno
        by_cases hjk : j = k
        · subst hjk; exact hjun
        · rwa [getD_set_ne true hjk] at hun
      · rw [Array.setIfInBounds_comm _ _ hji]
        exact h3.2
/-- the operations ts, one after the other, none beside -/
def seqX (md : Region.Mode) (ops : Array Oper) : List Nat → Array Bool → Bool
  | [], listed => (Region.ready md ops listed).isEmpty
  | k :: ks, listed => decide (Region.ready md ops listed = [k]) && seqX md ops ks (listed.setIfInBounds k true)
def lexHeadX (md : Region.Mode) (ops : Array Oper) (ts : List Nat) : Nat → Nat → Array Bool → Bool
  | 0, _, listed => seqX md ops ts listed
  | g + 1, k, listed => (Region.ready md ops listed).contains k && Region.free md ops listed k && lexHeadX md ops ts g (k + 1) (listed.setIfInBounds k true)
def opsAt (ops : Array Oper) : List Nat → List Oper → Prop
  | [], [] => True
  | k :: ks, o :: os => ops[k]? = some o ∧ opsAt ops ks os
  | _, _ => False
theorem opsAt.nil : opsAt ops [] [] := trivial
theorem opsAt.cons {k : Nat} {o : Oper} {ks : List Nat} {os : List Oper} (h : ops[k]? = some o) (t : opsAt ops ks os) : opsAt ops (k :: ks) (o :: os) := ⟨h, t⟩
theorem wpAny_of_seqX {Q' : Exit → Act → World → Prop} (ts : List Nat) : ∀ (l : List Oper) (listed : Array Bool) (a : Act) (w : World), opsAt ops ts l →
    seqX md ops ts listed = true → wpList P ops Q' l a w → wpAny P md ops Q' ts.length listed a w := by
  induction ts with
  | nil =>
    intro l listed a w hl hB h
    cases l with
    | nil => exact ⟨by simpa [seqX] using hB, h⟩
    | cons o l => exact hl.elim
  | cons k ks ih =>
    intro l listed a w hl hB h
    cases l with
    | nil => exact hl.elim
    | cons o l =>
      simp only [seqX, Bool.and_eq_true, decide_eq_true_eq] at hB
      refine ⟨fun h1 => (by rw [hB.1] at h1; cases h1), fun i hi => ?_⟩
      rw [hB.1] at hi
      have hik : i = k := by simpa using hi
      subst hik
      have hw : wpOp P ops Q' i (wpList P ops Q' l) a w := by unfold wpOp; simp only [hl.1]; exact h
      exact wpOp_mono (fun a' w' h' => ih l _ a' w' hl.2 hB.2 h') hw
theorem seqX_ready {n : Nat} {ts : List Nat} {listed : Array Bool} (hts : ts.all (fun k => decide (n ≤ k)) = true) (h : seqX md ops ts listed = true) : ∀ j ∈ Region.ready md ops listed, n ≤ j := by
  cases ts with
  | nil => intro j hj; simp only [seqX, List.isEmpty_iff] at h; rw [h] at hj; cases hj
  | cons k ks =>
    intro j hj
    simp only [seqX, Bool.and_eq_true, decide_eq_true_eq] at h
    rw [h.1] at hj
    have : j = k := by simpa using hj
    simp at hts
    omega
theorem headQ_lexX {n f : Nat} {ts : List Nat} {Lq : Act → Prop} (hnf : n < f) (hts : ts.all (fun k => decide (n ≤ k)) = true) (hsel : Region.noSelect ops = true) (hs : sinkFrom md ops 0 n = true) (hc : chainX md ops n f = true) (hn : n < ops.size) :
    ∀ (l : List Oper) (k : Nat) (listed : Array Bool) (a : Act), (∀ j, j < l.length → l[j]? = ops[k + j]?) → k + l.length = n → HeadInvX md ops n f listed →
    lexHeadX md ops ts l.length k listed = true → wpQuiet P ops C Lq l a →
    headQ P md ops C n (fun listed' a' => seqX md ops ts listed' = true ∧ Lq a') l.length listed a
  | [], k, listed, a, _, hk, _, hB, h => ⟨by simpa [lexHeadX] using hB, h⟩
  | o :: l, k, listed, a, hl, hk, inv, hB, h => by
    have h0 : ops[k]? = some o := by simpa using (hl 0 (by simp)).symm
    simp only [List.length_cons, lexHeadX, Bool.and_eq_true] at hB
    obtain ⟨⟨hr, hf⟩, hB'⟩ := hB
    simp only [List.length_cons] at hk
    have hr' : k ∈ Region.ready md ops listed := by simpa using hr
    have hst : qOp P ops C k (wpQuiet P ops C Lq l) a := by unfold qOp; simp only [h0]; exact h
    obtain ⟨v, hy, hK⟩ := yieldsIn_of_qOp h0 hst
    exact headQ_firstX hnf h0 (Region.noSelect_spec hsel) hs hc hn (by omega) (fun listed' a' hL => seqX_ready hts hL.1) l.length listed a inv (Region.free_spec h0 hf) hr' hy
      (headQ_lexX hnf hts hsel hs hc hn l (k + 1) _ _ (fun j hj => by have := hl (j + 1) (by simp; omega); simpa [Nat.add_assoc, Nat.add_comm 1 j] using this) (by omega) (inv.set hr' (by omega)) hB' hK)
end
/-- number f taken ahead, head 0 .. n - 1, then ts -/
def farB (ops : Array Oper) (n f : Nat) (ts : List Nat) : Bool :=
  Region.noSelect ops && decide (n < f) && decide (f < ops.size) && decide (n + 1 + ts.length = ops.size) && sinkFrom .any ops 0 n && chainX .any ops n f && (Region.ready .any ops (Array.replicate ops.size false)).contains f &&
    Region.free .any ops (Array.replicate ops.size false) f && ts.all (fun k => decide (n ≤ k)) && lexHeadX .any ops ts n 0 ((Array.replicate ops.size false).setIfInBounds f true)
theorem wp_region_kept_far {P : Program} {id : Nat} {Q : Exit → Act → World → Prop} {a : Act} {w : World} {l : List Oper} {of : Oper} {v : Value} (n f : Nat) (ts : List Nat) (lt : List Oper) (w0 : World) (hm : P.follows .mixedOrders = true) (hB : farB l.toArray n f ts = true)
    (hof : l.toArray[f]? = some of) (hlt : opsAt l.toArray ts lt)
    (hk : Keeps w0 w) (hy : Yields P l.toArray of v a) (hQ : ∀ c a w, Q (.panic c) (a.put of.dst v) w → Q (.panic c) a w)
    (h : wpQuiet P l.toArray (fun w' => ∃ k : KW w0, w' = k.w) (fun a' => ∀ w', (∃ k : KW w0, w' = k.w) → wpList P l.toArray Q lt a' w') (l.take n) (a.put of.dst v)) : (Code.region id l.toArray true).wp P Q a w := by
  simp only [farB, Bool.and_eq_true, decide_eq_true_eq] at hB
  obtain ⟨⟨⟨⟨⟨⟨⟨⟨⟨hsel, hnf⟩, hfs⟩, hlen⟩, hs⟩, hc⟩, hr0⟩, hf0⟩, hts⟩, hlex⟩ := hB
  have hn : n < l.toArray.size := by omega
  have hn' : n < l.length := by simpa using hn
  have htl : (l.take n).length = n := by simp; omega
  have hrm : f ∈ Region.ready .any l.toArray (Array.replicate l.toArray.size false) := by simpa using hr0
  have inv1 : HeadInvX .any l.toArray n f ((Array.replicate l.toArray.size false).setIfInBounds f true) := by
    obtain ⟨_, of', hof', hall⟩ := mem_ready.1 hrm
    refine ⟨by simp, fun j oj hj hl e he hb => ?_, fun t ht ht' hne => ?_, ?_⟩
    · by_cases hij : f = j
      · subst hij
        have : oj = of' := Option.some.inj (hj.symm.trans hof')
        subst this
        exact getD_set_true (hall e he hb)
      · rw [getD_set_ne false hij, getD_replicate_false] at hl; cases hl
    · rw [getD_set_ne true (Ne.symm hne)]; exact getD_in (by simpa using ht') (getD_replicate_false _ _)
    · have h5 : f < l.length := by simpa using hfs
      simp [Array.getD_eq_getD_getElem?, h5]
  have H := headQ_lexX (C := fun w' => ∃ k : KW w0, w' = k.w) (md := .any) hnf hts hsel hs hc hn (l.take n) 0 _ (a.put of.dst v) (fun j hj => by
    rw [htl] at hj
    simp [hj]) (by simpa using htl) inv1 (by rw [htl]; exact hlex) h
  refine wp_region_any hm ?_
  have key : wpAny P .any l.toArray Q (n + ts.length + 1) (Array.replicate l.toArray.size false) a { w with drawn := w.drawn + 1 } := by
    refine wpAny_take (i := f) (oi := of) (v := v) hof hsel hf0 hr0 hQ hy ?_
    have := wpAny_headQ (Q' := Q) (g := ts.length) (fun listed a' w' hw' hL => wpAny_of_seqX (md := .any) (Q' := Q) ts lt listed a' w' hlt hL.1 (hL.2 w' hw')) _ _ _ { w with drawn := w.drawn + 1 } ⟨⟨_, hk.drew⟩, rfl⟩ H
    rwa [htl] at this
  rwa [show n + ts.length + 1 = l.toArray.size by omega] at key
end Go.Proofs.Ytdodgnpjlicnoaa
