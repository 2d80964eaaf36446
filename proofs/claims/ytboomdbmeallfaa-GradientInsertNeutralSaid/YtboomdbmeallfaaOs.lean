/- Arguments that are slices of plain types, opened; the stops of a gradient. -/
import Derived.Test.YtboomdbmeallfaaOp
import Derived.Test.YtboomdbmeallfaaGa
import Derived.Deep.Slices
namespace Go.Proofs.Ytboomdbmeallfaa
open Go.RowKit Go.ChangeShapes Go.WideShapes Go.Deep
set_option linter.unusedVariables false
section
variable {H : Type} {enc : TypeId × Value → H} {P : Program} {w : World} {spare : Nat → Bool} {held : Bool}
theorem open_plain_slice {r : Reach} {b0 : Nat} {t e : TypeId} {ks : List (Option IntKind)} {v : Value} {d : DataW H} {p : List MemPlace} (ht : P.underlying t = some (.slice e)) (he : leaves P 9 e = some ks) (hk : P.cellsOf e = ks.length) (hp : 0 < ks.length)
    (hv : Value.okWide P w r b0 t v) (h : DataW.Trod enc P w 0 spare held t v d p) :
    ∃ A n c, v = .slice A n c ∧ n ≤ c ∧ c ≤ maxLen ∧ (0 < n → ∃ b o, A = some ⟨b, o, none⟩ ∧ b < w.heap.size ∧ ∀ i, i < n → ∃ cs : List Value, Leafs ks cs ∧ ∀ j u, cs[j]? = some u → w.cell? ⟨b, o + i * ks.length + j, none⟩ = some u) := by
  obtain ⟨A, n, c, rfl⟩ := okWide_slice ht hv
  obtain ⟨fuel, hf⟩ := h
  rcases open_slice ht hf with ⟨hcs, _⟩ | ⟨a, len, cap, m, q, D, Pl, hcs, _, hl, hm, hmm, _, hx⟩
  · simp [Value.cells] at hcs
    obtain ⟨rfl, rfl, rfl⟩ := hcs
    exact ⟨none, 0, 0, rfl, Nat.le_refl _, Nat.zero_le _, fun h => absurd h (by omega)⟩
  · simp [Value.cells] at hcs
    obtain ⟨rfl, rfl, rfl⟩ := hcs
    have hlm : n ≤ m := by rw [hmm]; split <;> omega
    refine ⟨some a, n, c, rfl, hl, hm, fun hn => ?_⟩
    have each : ∀ i, i < n → ∃ cs : List Value, Leafs ks cs ∧ ∀ j u, cs[j]? = some u → w.cell? ((a.add (i * ks.length)).add j) = some u := fun i hi => by
      obtain ⟨cs', h1, h2⟩ := hx i (by omega)
      rw [hk] at h1
      obtain ⟨_, hlen, hc⟩ := World.cells?_some h1
      refine ⟨cs', leafs_of 9 he h2, fun j u hu => ?_⟩
      have hj : j < cs'.length := (List.getElem?_eq_some_iff.1 hu).1
      rw [hc j (by omega), hu]
    obtain ⟨b, o, spot⟩ := a
    have hs : spot = none := by
      obtain ⟨cs, h1, h2⟩ := each 0 hn
      have hl1 := h1.length
      have h3 := h2 0 _ (List.getElem?_eq_getElem (show 0 < cs.length by omega))
      have := World.cell?_spot h3
      simpa [Addr.add] using this
    subst hs
    refine ⟨b, o, rfl, ?_, fun i hi => ?_⟩
    · obtain ⟨cs, h1, h2⟩ := each 0 hn
      have hl1 := h1.length
      have h3 := h2 0 _ (List.getElem?_eq_getElem (show 0 < cs.length by omega))
      have h4 := World.block_lt_of_cell? w _ h3
      simpa [Addr.add] using h4
    · obtain ⟨cs, h1, h2⟩ := each i hi
      refine ⟨cs, h1, fun j u hu => ?_⟩
      have h3 := h2 j u hu
      rw [Addr.add_lit, Addr.add_lit] at h3
      exact h3
theorem leaf_st {cs : List Value} (h : Leafs [some .i64, some .u8, some .u8, some .u8, some .u8] cs) : ∃ s : St, okSt s ∧ cs = [.int .i64 s.1, .int .u8 s.2.1, .int .u8 s.2.2.1, .int .u8 s.2.2.2.1, .int .u8 s.2.2.2.2] := by
  obtain ⟨_, r0, rfl, ⟨x0, rfl, w0⟩, h0⟩ := leafs_cons h
  obtain ⟨_, r1, rfl, ⟨x1, rfl, w1⟩, h1⟩ := leafs_cons h0
  obtain ⟨_, r2, rfl, ⟨x2, rfl, w2⟩, h2⟩ := leafs_cons h1
  obtain ⟨_, r3, rfl, ⟨x3, rfl, w3⟩, h3⟩ := leafs_cons h2
  obtain ⟨_, r4, rfl, ⟨x4, rfl, w4⟩, h4⟩ := leafs_cons h3
  obtain rfl := leafs_nil h4
  exact ⟨(x0, x1, x2, x3, x4), ⟨bounds_u8 w1, bounds_u8 w2, bounds_u8 w3, bounds_u8 w4⟩, rfl⟩
set_option maxRecDepth 100000 in
theorem open_stops {r : Reach} {b0 : Nat} {v : Value} {d : DataW H} {p : List MemPlace} (hv : Value.okWide Try.prog w r b0 25 v) (h : DataW.Trod enc Try.prog w 0 spare held 25 v d p) :
    ∃ A n c L, v = .slice A n c ∧ Sts w A n c L := by
  obtain ⟨A, n, c, rfl, hn, hc, hx⟩ := open_plain_slice (ks := [some .i64, some .u8, some .u8, some .u8, some .u8]) Try.underlying25 (by kernel_rfl) (by kernel_rfl) (by simp) hv h
  by_cases h0 : 0 < n
  · obtain ⟨b, o, rfl, hb, hi⟩ := hx h0
    obtain ⟨f, hf⟩ := choose_lt (α := St) (p := fun i s => okSt s ∧ StAt w b (o + i * 5) s) (fun i hin => by
      obtain ⟨cs, h1, h2⟩ := hi i hin
      obtain ⟨s, hs, rfl⟩ := leaf_st h1
      exact ⟨s, hs, h2 0 _ rfl, h2 1 _ rfl, h2 2 _ rfl, h2 3 _ rfl, h2 4 _ rfl⟩)
    refine ⟨_, n, c, (List.range n).map f, rfl, by simp, hn, hc, ?_, fun _ => ⟨b, o, rfl, hb, fun k hk => ?_⟩⟩
    · intro s hs
      obtain ⟨i, hi, rfl⟩ := List.mem_map.1 hs
      exact (hf i (List.mem_range.1 hi)).1
    · have e : ((List.range n).map f).getD k st0 = f k := by simp [List.getD, hk]
      rw [e]
      exact (hf k hk).2
  · obtain rfl : n = 0 := by omega
    exact ⟨A, 0, c, [], rfl, rfl, hn, hc, (fun s hs => absurd hs (by simp)), (fun h => absurd h (by omega))⟩
end
end Go.Proofs.Ytboomdbmeallfaa
