/- Arguments of plain types (integers, bools, and structs and arrays of these, nested as they may be) opened to their cells. -/
import Derived.Test.YtihmhpleiefodaaWd
import Derived.Test.YtihmhpleiefodaaRows
import Derived.ProofKit
import Derived.OpenShut
namespace Go.Proofs.Ytihmhpleiefodaa
open Go.RowKit Go.ChangeShapes Go.WideShapes

/-- What a plain type's cells hold: an integer of a kind (some k) or a bool (none). -/
def leaves (P : Program) : Nat → TypeId → Option (List (Option IntKind))
  | 0, _ => none
  | f + 1, t => match P.underlying t with
    | some .bool => some [none]
    | some (.int k) => some [some k]
    | some (.struct fs) =>
      (fs.toList.foldl (fun acc fd => acc.bind fun l => if fd.offset = l.length then (leaves P f fd.type).bind fun m => if m.length = P.cellsOf fd.type then some (l ++ m) else none else none) (some [])).bind fun l =>
        if l.length = P.cellsOf t then some l else none
    | some (.array n e) => (leaves P f e).bind fun m => if m.length = P.cellsOf e ∧ n * m.length = P.cellsOf t then some (List.replicate n m).flatten else none
    | _ => none
def IsLeaf : Option IntKind → Value → Prop
  | none, v => ∃ b : Bool, v = .bool b
  | some k, v => ∃ n : Int, v = .int k n ∧ (Lit.int k n).wf = true
def Leafs : List (Option IntKind) → List Value → Prop
  | [], [] => True
  | k :: ks, v :: vs => IsLeaf k v ∧ Leafs ks vs
  | _, _ => False
theorem leafs_nil {l : List Value} (h : Leafs [] l) : l = [] := by
  cases l with
  | nil => rfl
  | cons => exact h.elim
theorem leafs_cons {k : Option IntKind} {ks : List (Option IntKind)} {l : List Value} (h : Leafs (k :: ks) l) : ∃ v r, l = v :: r ∧ IsLeaf k v ∧ Leafs ks r := by
  cases l with
  | nil => exact h.elim
  | cons v r => exact ⟨v, r, rfl, h.1, h.2⟩
theorem Leafs.append : ∀ {k1 k2 : List (Option IntKind)} {l1 l2 : List Value}, Leafs k1 l1 → Leafs k2 l2 → Leafs (k1 ++ k2) (l1 ++ l2)
  | [], _, l1, _, h1, h2 => by rw [leafs_nil h1]; exact h2
  | _ :: _, _, l1, _, h1, h2 => by
    obtain ⟨v, r, rfl, hv, hr⟩ := leafs_cons h1
    exact ⟨hv, hr.append h2⟩
theorem Leafs.length : ∀ {k1 : List (Option IntKind)} {l1 : List Value}, Leafs k1 l1 → l1.length = k1.length
  | [], l1, h1 => by rw [leafs_nil h1]; rfl
  | _ :: _, l1, h1 => by
    obtain ⟨v, r, rfl, hv, hr⟩ := leafs_cons h1
    simp [hr.length]

section
variable {H : Type} {enc : TypeId × Value → H} {P : Program} {w : World} {base : Nat} {spare : Nat → Bool} {held : Bool}
/-- A plain type's reading: its cells are its leaves. -/
theorem leafs_of : ∀ (f : Nat) {t : TypeId} {ks : List (Option IntKind)} {fuel : Nat} {cs : List Value} {x : DataW H × List MemPlace},
    leaves P f t = some ks → DataW.trod enc P w base spare held fuel t cs = some x → Leafs ks cs := by
  intro f
  induction f with
  | zero => intro t ks fuel cs x h; simp [leaves] at h
  | succ f ih =>
    intro t ks fuel cs x h ht
    unfold leaves at h
    split at h
    · rename_i hu
      obtain ⟨b, rfl, _⟩ := DataW.trod_bool hu ht
      simp only [Option.some.injEq] at h
      subst h
      exact ⟨⟨b, rfl⟩, trivial⟩
    · rename_i k hu
      obtain ⟨n, rfl, _, hw⟩ := DataW.trod_int hu ht
      simp only [Option.some.injEq] at h
      subst h
      exact ⟨⟨n, rfl, hw⟩, trivial⟩
    · rename_i fs hu
      obtain ⟨xs, m, _, _, hlen, hxl, hg⟩ := DataW.trod_struct hu ht
      simp only [Option.bind_eq_some_iff] at h
      obtain ⟨l, hl, h⟩ := h
      split at h
      · rename_i hc
        simp only [Option.some.injEq] at h
        subst h
        have key : ∀ (r : List Field) (l0 l1 : List (Option IntKind)), (∀ fd ∈ r, ∃ i : Nat, fs[i]? = some fd) → Leafs l0 (cs.take l0.length) → l1.length ≤ cs.length →
            r.foldl (fun acc fd => acc.bind fun l => if fd.offset = l.length then (leaves P f fd.type).bind fun m => if m.length = P.cellsOf fd.type then some (l ++ m) else none else none) (some l0) = some l1 → Leafs l1 (cs.take l1.length) := by
          intro r
          induction r with
          | nil => intro l0 l1 _ h0 _ h1; simp only [List.foldl_nil, Option.some.injEq] at h1; rw [← h1]; exact h0
          | cons fd r ihr =>
            intro l0 l1 hm h0 hle h1
            rw [List.foldl_cons] at h1
            have hnone : ∀ r : List Field, r.foldl (fun acc fd => acc.bind fun l => if fd.offset = l.length then (leaves P f fd.type).bind fun m => if m.length = P.cellsOf fd.type then some (l ++ m) else none else none) (none : Option (List (Option IntKind))) = none := by
              intro r; induction r with
              | nil => rfl
              | cons _ _ ih => rw [List.foldl_cons]; exact ih
            simp only [Option.bind_some] at h1
            split at h1
            · rename_i ho
              cases hv : leaves P f fd.type with
              | none => rw [hv, Option.bind_none, hnone] at h1; cases h1
              | some m1 =>
                rw [hv, Option.bind_some] at h1
                split at h1
                · rename_i hmc
                  obtain ⟨i, hi⟩ := hm fd (List.mem_cons_self ..)
                  have h2 := hg i fd hi
                  obtain ⟨hil, _⟩ := Array.getElem?_eq_some_iff.1 hi
                  rw [List.getElem?_eq_getElem (by omega)] at h2
                  have h3 := ih hv h2
                  have hlm := h3.length
                  refine ihr (l0 ++ m1) l1 (fun fd' hf => hm fd' (List.mem_cons_of_mem _ hf)) ?_ hle h1
                  have e : cs.take (l0 ++ m1).length = cs.take l0.length ++ (cs.drop fd.offset).take (P.cellsOf fd.type) := by
                    rw [List.length_append, List.take_add, ho, hmc]
                  rw [e]
                  exact h0.append h3
                · rw [hnone] at h1; cases h1
            · rw [hnone] at h1; cases h1
        have h4 := key fs.toList [] l (fun fd hf => by
          obtain ⟨i, hi⟩ := List.getElem?_of_mem hf
          exact ⟨i, by simpa using hi⟩) trivial (by omega) hl
        rw [List.take_of_length_le (by omega)] at h4
        exact h4
      · cases h
    · rename_i n e hu
      obtain ⟨xs, m, _, _, hlen, hxl, hg⟩ := DataW.trod_array hu ht
      simp only [Option.bind_eq_some_iff] at h
      obtain ⟨m1, hm1, h⟩ := h
      split at h
      · rename_i hc
        simp only [Option.some.injEq] at h
        subst h
        have key : ∀ j, j ≤ n → Leafs (List.replicate j m1).flatten (cs.take (j * m1.length)) := by
          intro j
          induction j with
          | zero => intro _; rw [Nat.zero_mul]; exact trivial
          | succ j ihj =>
            intro hj
            have h2 := hg j (by omega)
            rw [List.getElem?_eq_getElem (by omega)] at h2
            have h3 := ih hm1 h2
            rw [List.replicate_succ', List.flatten_append, Nat.add_mul, Nat.one_mul, List.take_add]
            refine (ihj (by omega)).append ?_
            simpa [hc.1] using h3
        have h4 := key n (Nat.le_refl _)
        rw [hc.2, List.take_of_length_le (by omega)] at h4
        exact h4
      · cases h
    · cases h

def aggB (P : Program) (t : TypeId) : Bool := match P.underlying t with | some (.struct _) | some (.array _ _) => true | _ => false
theorem open_flat {r : Reach} {b0 : Nat} {t : TypeId} {ks : List (Option IntKind)} {v : Value} {d : DataW H} {p : List MemPlace} (hl : leaves P 9 t = some ks) (ha : aggB P t = true)
    (hv : Value.okWide P w r b0 t v) (h : DataW.Trod enc P w base spare held t v d p) : ∃ l : List Value, v = .agg l.toArray ∧ Leafs ks l := by
  have hc : ∃ cs, v = .agg cs ∧ cs.size = P.cellsOf t ∧ Row.okWide P w r b0 t cs := by
    unfold aggB at ha
    unfold Value.okWide at hv
    split at ha
    · rename_i hu; rw [hu] at hv; exact hv
    · rename_i hu; rw [hu] at hv; exact hv
    · cases ha
  obtain ⟨cs, rfl, _, _⟩ := hc
  obtain ⟨fuel, hf⟩ := h
  exact ⟨cs.toList, by simp, by simpa [Value.cells] using leafs_of 9 hl hf⟩
/-- All arguments read as they did, below what was there. -/
theorem below_trodAll {H : Type} {enc : TypeId × Value → H} {P : Program} (hl : laidOutB P = true) {W W' : World} (hb : Below W.heap.size W W') :
    ∀ {ts : List TypeId} {vs : List Value} {ds : List (DataW H)} {ps : List MemPlace}, (∀ t ∈ ts, P.readableRec t = true ∧ t < P.types.size) → DataW.TrodAll enc P W 0 (fun _ => true) true ts vs ds ps →
      DataW.TrodAll enc P W' 0 (fun b => decide (b < W.heap.size)) true ts vs ds ps
  | [], [], [], _, _, h => h
  | t :: ts, v :: vs, d :: ds, ps, hr, h => by
    obtain ⟨p, q, h1, h2, rfl⟩ := h
    refine ⟨p, q, Below.trod hl (hr t (List.mem_cons_self ..)).1 (hr t (List.mem_cons_self ..)).2 h1 hb ?_, below_trodAll hl hb (fun t' ht => hr t' (List.mem_cons_of_mem _ ht)) h2, rfl⟩
    obtain ⟨m, hm⟩ := h1
    exact DataW.trod_lt m _ _ _ hm
  | [], _ :: _, _, _, _, h => by simp [DataW.TrodAll] at h
  | [], [], _ :: _, _, _, h => by simp [DataW.TrodAll] at h
  | _ :: _, [], _, _, _, h => by simp [DataW.TrodAll] at h
  | _ :: _, _ :: _, [], _, _, h => by simp [DataW.TrodAll] at h
def readsB (P : Program) (ts : List TypeId) : Bool := ts.all fun t => P.readableRec t && decide (t < P.types.size)
theorem reads_of {P : Program} {ts : List TypeId} (h : readsB P ts = true) : ∀ t ∈ ts, P.readableRec t = true ∧ t < P.types.size := by
  intro t ht
  have := List.all_eq_true.1 h t ht
  simpa using this
end
theorem Try.own : ownKnob Try.prog.godebug = none := by kernel_rfl
theorem Try.laidOut : laidOutB Try.prog = true := by kernel_rfl
end Go.Proofs.Ytihmhpleiefodaa
