import Derived.Deep.RegionHeld3
namespace Go.Proofs.Ytihmhpleiefodaa

section
variable {P : Program} {ops : Array Oper} {Q : Exit → Act → World → Prop} {md : Region.Mode}
theorem listed_count (L : Array Bool) (i : Nat) (h : L.getD i true = false) : (L.setIfInBounds i true).toList.count false + 1 = L.toList.count false := by
  have hi : i < L.size := by
    apply Classical.byContradiction; intro hn
    rw [Array.getD_eq_getD_getElem?, Array.getElem?_eq_none (by omega)] at h; simp at h
  rw [Array.getD_eq_getD_getElem?, Array.getElem?_eq_getElem hi] at h
  simp only [Option.getD_some] at h
  have hm : false ∈ L.toList := by rw [← h]; simp
  have hc : 0 < L.toList.count false := List.count_pos_iff.2 hm
  rw [Array.toList_setIfInBounds, List.count_set (by simpa using hi)]
  simp only [Array.getElem_toList, h]
  simp only [beq_self_eq_true, if_true, show ((true == false) = true) = False by simp, if_false]
  omega
theorem wpAny_inv (J : Array Bool → Act → World → Prop)
    (step : ∀ i o, ops[i]? = some o → ∀ L a w, J L a w → L.getD i true = false → (o.after.all fun e => !Region.binds md e || L.getD e.on false) = true → wpOp P ops Q i (fun a' w' => J (L.setIfInBounds i true) a' w') a w)
    (done : ∀ L a w, J L a w → Region.ready md ops L = [] → Q .normal a w) :
    ∀ fuel L a w, J L a w → L.toList.count false ≤ fuel → wpAny P md ops Q fuel L a w := by
  intro fuel
  induction fuel with
  | zero =>
    intro L a w hJ hf
    have hr : Region.ready md ops L = [] := by
      unfold Region.ready
      rw [List.filter_eq_nil_iff]
      intro i _ h
      have h1 : L.getD i true = false := by
        cases hx : L.getD i true <;> simp_all
      have := listed_count L i h1
      omega
    exact ⟨hr, done L a w hJ hr⟩
  | succ fuel ih =>
    intro L a w hJ hf
    refine ⟨done L a w hJ, fun i hi => ?_⟩
    have hi := (List.mem_filter.1 hi)
    obtain ⟨hi1, hi2⟩ := hi
    have hlt : i < ops.size := by simpa using hi1
    have e : ops[i]? = some ops[i] := Array.getElem?_eq_getElem hlt
    rw [e] at hi2
    simp only [Bool.and_eq_true, Bool.not_eq_true', Option.map_some, Option.getD_some] at hi2
    exact wpOp_mono (fun a' w' hJ' => ih _ a' w' hJ' (by have := listed_count L i hi2.1; omega)) (step i _ e L a w hJ hi2.1 hi2.2)
theorem wp_region_inv {id : Nat} {a : Act} {w : World} (hm : P.follows .mixedOrders = true) (J : Array Bool → Act → World → Prop) (h0 : J (Array.replicate ops.size false) a w.drew)
    (step : ∀ i o, ops[i]? = some o → ∀ L a w, J L a w → L.getD i true = false → (o.after.all fun e => !Region.binds .any e || L.getD e.on false) = true → wpOp P ops Q i (fun a' w' => J (L.setIfInBounds i true) a' w') a w)
    (done : ∀ L a w, J L a w → Region.ready .any ops L = [] → Q .normal a w) : (Code.region id ops true).wp P Q a w :=
  wp_region_any hm (wpAny_inv J step done _ _ _ _ h0 (by rw [Array.toList_replicate]; simp))

/-- The operations rs, each wherever it may come up, keep J. -/
def InvSteps (P : Program) (ops : Array Oper) (Q : Exit → Act → World → Prop) (J : Array Bool → Act → World → Prop) (rs : List Nat) : Prop :=
  ∀ i ∈ rs, ∀ L a w, J L a w → L.getD i true = false → ((ops[i]?).map (·.after.all fun e => !Region.binds .any e || L.getD e.on false)).getD false = true → wpOp P ops Q i (fun a' w' => J (L.setIfInBounds i true) a' w') a w
theorem InvSteps.nil {J : Array Bool → Act → World → Prop} : InvSteps P ops Q J [] := fun _ h => by cases h
theorem InvSteps.cons {J : Array Bool → Act → World → Prop} {i : Nat} {o : Oper} {rs : List Nat} (ho : ops[i]? = some o)
    (h : ∀ L a w, J L a w → L.getD i true = false → (o.after.all fun e => !Region.binds .any e || L.getD e.on false) = true →
      ∀ K' : Act → World → Prop, Shut (∀ a w, J (L.setIfInBounds i true) a w → K' a w) → if Region.wanted o (yielded ops a.tmps) = true then Oper.wp P o a w K' Q else K' (a.put o.dst undef) w)
    (hs : InvSteps P ops Q J rs) : InvSteps P ops Q J (i :: rs) := fun j hj => by
  rcases List.mem_cons.1 hj with rfl | hj
  · intro L a w hJ hl hd
    rw [ho] at hd
    exact wpOp_step ho (fun K' hK => h L a w hJ hl hd K' hK)
  · exact hs j hj
theorem ready_nil {L : Array Bool} (hr : Region.ready md ops L = []) (i : Nat) {o : Oper} (ho : ops[i]? = some o) (hd : (o.after.all fun e => !Region.binds md e || L.getD e.on false) = true) : L.getD i true = true := by
  cases hx : L.getD i true with
  | true => rfl
  | false =>
    have hm : i ∈ Region.ready md ops L := by
      unfold Region.ready
      refine List.mem_filter.2 ⟨by rw [List.mem_range]; exact (Array.getElem?_eq_some_iff.1 ho).1, ?_⟩
      rw [hx, ho]; simpa using hd
    rw [hr] at hm; cases hm
theorem wp_region_steps {id : Nat} {a : Act} {w : World} (hm : P.follows .mixedOrders = true) (J : Array Bool → Act → World → Prop) (n : Nat) (hn : ops.size = n) (h0 : J (Array.replicate n false) a w.drew)
    (step : InvSteps P ops Q J (List.range n)) (done : ∀ L a w, J L a w → Region.ready .any ops L = [] → Q .normal a w) : (Code.region id ops true).wp P Q a w :=
  wp_region_inv hm J (by rw [hn]; exact h0) (fun i o ho L a w hJ hl hd => step i (by rw [List.mem_range, ← hn]; exact (Array.getElem?_eq_some_iff.1 ho).1) L a w hJ hl (by rw [ho]; exact hd)) done
end
end Go.Proofs.Ytihmhpleiefodaa
