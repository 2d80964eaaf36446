/- Slices of polylines as arguments. -/
import Derived.Test.YtihmhpleiefodaaOp
import Derived.Test.YtihmhpleiefodaaQp
import Derived.Deep.Slices
namespace Go.Proofs.Ytihmhpleiefodaa
section
section
open Go.RowKit Go.ChangeShapes Go.WideShapes Go.Deep
set_option linter.unusedVariables false
section
variable {H : Type} {enc : TypeId × Value → H} {P : Program} {w : World} {spare : Nat → Bool} {held : Bool}
/-- A slice of a plain type, by its one cell. -/
theorem open_cells {t e : TypeId} {ks : List (Option IntKind)} {cs : List Value} {fuel : Nat} {x : DataW H × List MemPlace} (ht : P.underlying t = some (.slice e)) (he : leaves P 9 e = some ks) (hk : P.cellsOf e = ks.length) (hp : 0 < ks.length)
    (hf : DataW.trod enc P w 0 spare held fuel t cs = some x) :
    ∃ A n c, cs = [.slice A n c] ∧ n ≤ c ∧ c ≤ maxLen ∧ (0 < n → ∃ b o, A = some ⟨b, o, none⟩ ∧ b < w.heap.size ∧ ∀ i, i < n → ∃ cs : List Value, Leafs ks cs ∧ ∀ j u, cs[j]? = some u → w.cell? ⟨b, o + i * ks.length + j, none⟩ = some u) := by
  rcases open_slice ht hf with ⟨hcs, _⟩ | ⟨a, n, c, m, q, D, Pl, hcs, _, hl, hm, hmm, _, hx⟩
  · exact ⟨none, 0, 0, hcs, Nat.le_refl _, Nat.zero_le _, fun h => absurd h (by omega)⟩
  · have hlm : n ≤ m := by rw [hmm]; split <;> omega
    refine ⟨some a, n, c, hcs, hl, hm, fun hn => ?_⟩
    have each : ∀ i, i < n → ∃ cs : List Value, Leafs ks cs ∧ ∀ j u, cs[j]? = some u → w.cell? ((a.add (i * ks.length)).add j) = some u := fun i hi => by
      obtain ⟨cs', h1, h2⟩ := hx i (by omega)
      rw [hk] at h1
      obtain ⟨_, hlen, hc⟩ := World.cells?_some h1
      refine ⟨cs', leafs_of 9 he h2, fun j u hu => ?_⟩
      have hj : j < cs'.length := (List.getElem?_eq_some_iff.1 hu).1
      rw [hc j (by omega), hu]
    obtain ⟨b, o, spot⟩ := a
    have hs : spot = none := by
      obtain ⟨cs, h1, h2⟩ := each 0 hn
      have hl1 := h1.length
      have h3 := h2 0 _ (List.getElem?_eq_getElem (show 0 < cs.length by omega))
      have := World.cell?_spot h3
      simpa [Addr.add] using this
    subst hs
    refine ⟨b, o, rfl, ?_, fun i hi => ?_⟩
    · obtain ⟨cs, h1, h2⟩ := each 0 hn
      have hl1 := h1.length
      have h3 := h2 0 _ (List.getElem?_eq_getElem (show 0 < cs.length by omega))
      have h4 := World.block_lt_of_cell? w _ h3
      simpa [Addr.add] using h4
    · obtain ⟨cs, h1, h2⟩ := each i hi
      refine ⟨cs, h1, fun j u hu => ?_⟩
      have h3 := h2 j u hu
      rw [Addr.add_lit, Addr.add_lit] at h3
      exact h3
theorem open_ints {t e : TypeId} {cs : List Value} {fuel : Nat} {x : DataW H × List MemPlace} (ht : P.underlying t = some (.slice e)) (he : leaves P 9 e = some [some .i64]) (hk : P.cellsOf e = 1)
    (hf : DataW.trod enc P w 0 spare held fuel t cs = some x) : ∃ A n c D, cs = [.slice A n c] ∧ Ins w A n c D := by
  obtain ⟨A, n, c, rfl, hn, hc, hx⟩ := open_cells ht he hk (by simp) hf
  by_cases h0 : 0 < n
  · obtain ⟨b, o, rfl, hb, hi⟩ := hx h0
    obtain ⟨f, hf⟩ := choose_lt (α := Int) (p := fun i d => i64b d ∧ w.cell? ⟨b, o + i, none⟩ = some (.int .i64 d)) (fun i hin => by
      obtain ⟨cs, h1, h2⟩ := hi i hin
      obtain ⟨_, r0, rfl, ⟨x0, rfl, w0⟩, h0⟩ := leafs_cons h1
      have := h2 0 _ rfl
      simp only [List.length_cons, List.length_nil, Nat.zero_add, Nat.mul_one, Nat.add_zero] at this
      exact ⟨x0, bounds_i64 w0, this⟩)
    refine ⟨_, n, c, (List.range n).map f, rfl, by simp, hn, hc, ?_, fun _ => ⟨b, o, rfl, hb, fun k hk => ?_⟩⟩
    · intro d hd
      obtain ⟨i, hi, rfl⟩ := List.mem_map.1 hd
      exact (hf i (List.mem_range.1 hi)).1
    · have e : ((List.range n).map f).getD k 0 = f k := by simp [List.getD, hk]
      rw [e]
      exact (hf k hk).2
  · obtain rfl : n = 0 := by omega
    exact ⟨A, 0, c, [], rfl, rfl, hn, hc, (fun s hs => absurd hs (by simp)), (fun h => absurd h (by omega))⟩
theorem open_pts {t e : TypeId} {cs : List Value} {fuel : Nat} {x : DataW H × List MemPlace} (ht : P.underlying t = some (.slice e)) (he : leaves P 9 e = some [some .i64, some .i64]) (hk : P.cellsOf e = 2)
    (hf : DataW.trod enc P w 0 spare held fuel t cs = some x) : ∃ A n c L, cs = [.slice A n c] ∧ Pts w A n c L := by
  obtain ⟨A, n, c, rfl, hn, hc, hx⟩ := open_cells ht he hk (by simp) hf
  by_cases h0 : 0 < n
  · obtain ⟨b, o, rfl, hb, hi⟩ := hx h0
    obtain ⟨f, hf⟩ := choose_lt (α := Pt) (p := fun i s => okP s ∧ PtAt w b (o + i * 2) s) (fun i hin => by
      obtain ⟨cs, h1, h2⟩ := hi i hin
      obtain ⟨_, r0, rfl, ⟨x0, rfl, w0⟩, h0⟩ := leafs_cons h1
      obtain ⟨_, r1, rfl, ⟨x1, rfl, w1⟩, h1⟩ := leafs_cons h0
      exact ⟨(x0, x1), ⟨bounds_i64 w0, bounds_i64 w1⟩, h2 0 _ rfl, h2 1 _ rfl⟩)
    refine ⟨_, n, c, (List.range n).map f, rfl, by simp, hn, hc, ?_, fun _ => ⟨b, o, rfl, hb, fun k hk => ?_⟩⟩
    · intro d hd
      obtain ⟨i, hi, rfl⟩ := List.mem_map.1 hd
      exact (hf i (List.mem_range.1 hi)).1
    · have e : ((List.range n).map f).getD k pt0 = f k := by simp [List.getD, hk]
      rw [e]
      exact (hf k hk).2
  · obtain rfl : n = 0 := by omega
    exact ⟨A, 0, c, [], rfl, rfl, hn, hc, (fun s hs => absurd hs (by simp)), (fun h => absurd h (by omega))⟩
/-- A field of a struct, read. -/
theorem field_trod {t : TypeId} {fs : Array Field} {cs : List Value} {fuel : Nat} {x : DataW H × List MemPlace} (hu : P.underlying t = some (.struct fs)) (hf : DataW.trod enc P w 0 spare held fuel t cs = some x) :
    cs.length = P.cellsOf t ∧ ∀ (i : Nat) (fd : Field), fs[i]? = some fd → ∃ fuel' x', DataW.trod enc P w 0 spare held fuel' fd.type ((cs.drop fd.offset).take (P.cellsOf fd.type)) = some x' := by
  obtain ⟨xs, m, _, _, hlen, hxl, hg⟩ := DataW.trod_struct hu hf
  refine ⟨hlen, fun i fd hi => ?_⟩
  have h2 := hg i fd hi
  obtain ⟨hil, _⟩ := Array.getElem?_eq_some_iff.1 hi
  rw [List.getElem?_eq_getElem (by omega)] at h2
  exact ⟨_, _, h2⟩
theorem field_at {t t' : TypeId} {off sz : Nat} {fs : Array Field} {cs : List Value} {fuel : Nat} {x : DataW H × List MemPlace} (hu : P.underlying t = some (.struct fs)) (hf : DataW.trod enc P w 0 spare held fuel t cs = some x)
    (i : Nat) (hfd : fs[i]?.map (fun f => (f.type, f.offset)) = some (t', off)) (hs : P.cellsOf t' = sz) : ∃ fuel' x', DataW.trod enc P w 0 spare held fuel' t' ((cs.drop off).take sz) = some x' := by
  cases h : fs[i]? with
  | none => rw [h] at hfd; cases hfd
  | some fd =>
    rw [h] at hfd
    simp at hfd
    obtain ⟨rfl, rfl⟩ := hfd
    subst hs
    exact (field_trod hu hf).2 i fd h
theorem int_cell {t : TypeId} {cs : List Value} {fuel : Nat} {x : DataW H × List MemPlace} (hl : leaves P 9 t = some [some .i64]) (hf : DataW.trod enc P w 0 spare held fuel t cs = some x) : ∃ n : Int, cs = [.int .i64 n] ∧ i64b n := by
  obtain ⟨_, r0, rfl, ⟨x0, rfl, w0⟩, h0⟩ := leafs_cons (leafs_of 9 hl hf)
  obtain rfl := leafs_nil h0
  exact ⟨x0, rfl, bounds_i64 w0⟩
theorem okWide_struct {r : Reach} {b0 : Nat} {t : TypeId} {fs : Array Field} {v : Value} (hu : P.underlying t = some (.struct fs)) (hv : Value.okWide P w r b0 t v) : ∃ cs, v = .agg cs := by
  unfold Value.okWide at hv
  rw [hu] at hv
  obtain ⟨cs, rfl, _⟩ := hv
  exact ⟨cs, rfl⟩
set_option maxRecDepth 100000 in
theorem open_style {r : Reach} {b0 : Nat} {v : Value} {d : DataW H} {p : List MemPlace} (hv : Value.okWide Try.prog w r b0 27 v) (h : DataW.Trod enc Try.prog w 0 spare held 27 v d p) :
    ∃ wd jn cp ml ph A n c D, v = .agg #[.int .i64 wd, .int .i64 jn, .int .i64 cp, .int .i64 ml, .slice A n c, .int .i64 ph] ∧ Ins w A n c D ∧ i64b wd ∧ i64b jn ∧ i64b cp ∧ i64b ml ∧ i64b ph := by
  obtain ⟨cs, rfl⟩ := okWide_struct Try.underlying27 hv
  obtain ⟨fuel, hf⟩ := h
  obtain ⟨hl, hg⟩ := field_trod Try.underlying27 hf
  rw [show Try.prog.cellsOf 27 = 6 by kernel_rfl] at hl
  obtain ⟨l⟩ := cs
  simp only [Value.cells] at hl hf
  match l, hl with
  | [x0, x1, x2, x3, x4, x5], _ =>
    obtain ⟨f0, y0, h0⟩ := field_at (t' := 3) (off := 0) (sz := 1) Try.underlying27 hf 0 rfl (by kernel_rfl)
    obtain ⟨f1, y1, h1⟩ := field_at (t' := 3) (off := 1) (sz := 1) Try.underlying27 hf 1 rfl (by kernel_rfl)
    obtain ⟨f2, y2, h2⟩ := field_at (t' := 3) (off := 2) (sz := 1) Try.underlying27 hf 2 rfl (by kernel_rfl)
    obtain ⟨f3, y3, h3⟩ := field_at (t' := 3) (off := 3) (sz := 1) Try.underlying27 hf 3 rfl (by kernel_rfl)
    obtain ⟨f4, y4, h4⟩ := field_at (t' := 25) (off := 4) (sz := 1) Try.underlying27 hf 4 rfl (by kernel_rfl)
    obtain ⟨f5, y5, h5⟩ := field_at (t' := 3) (off := 5) (sz := 1) Try.underlying27 hf 5 rfl (by kernel_rfl)
    simp only [List.drop_zero, List.drop_succ_cons, List.take_succ_cons, List.take_zero] at h0 h1 h2 h3 h4 h5
    have hi : leaves Try.prog 9 3 = some [some .i64] := by kernel_rfl
    obtain ⟨wd, e0, b0⟩ := int_cell hi h0
    obtain ⟨jn, e1, b1⟩ := int_cell hi h1
    obtain ⟨cp, e2, b2⟩ := int_cell hi h2
    obtain ⟨ml, e3, b3⟩ := int_cell hi h3
    obtain ⟨ph, e5, b5⟩ := int_cell hi h5
    obtain ⟨A, n, c, D, e4, hI⟩ := open_ints Try.underlying25 hi (by kernel_rfl) h4
    simp only [List.cons.injEq, and_true] at e0 e1 e2 e3 e4 e5
    subst e0 e1 e2 e3 e4 e5
    exact ⟨wd, jn, cp, ml, ph, A, n, c, D, rfl, hI, b0, b1, b2, b3, b5⟩
end
end

section
section
open Go.RowKit Go.ChangeShapes Go.WideShapes Go.ChangeAt
variable {P : Program} {w : World} {H : Type} {enc : TypeId × Value → H} {spare : Nat → Bool} {held : Bool}
set_option linter.unusedVariables false
theorem bool_cell {t : TypeId} {cs : List Value} {fuel : Nat} {x : DataW H × List MemPlace} (hl : leaves P 9 t = some [none]) (hf : DataW.trod enc P w 0 spare held fuel t cs = some x) : ∃ b : Bool, cs = [.bool b] := by
  obtain ⟨_, r0, rfl, ⟨x0, rfl⟩, h0⟩ := leafs_cons (leafs_of 9 hl hf)
  obtain rfl := leafs_nil h0
  exact ⟨x0, rfl⟩
set_option maxRecDepth 100000 in
/-- the two cells of a polyline -/
theorem poly_cells {cs : List Value} {fuel : Nat} {x : DataW H × List MemPlace} (hf : DataW.trod enc Try.prog w 0 spare held fuel 24 cs = some x) :
    ∃ A n c L cl, cs = [.slice A n c, .bool cl] ∧ Pts w A n c L := by
  obtain ⟨hl, hg⟩ := field_trod Try.underlying24 hf
  rw [show Try.prog.cellsOf 24 = 2 by kernel_rfl] at hl
  match cs, hl with
  | [x0, x1], _ =>
    obtain ⟨f0, y0, h0⟩ := field_at (t' := 22) (off := 0) (sz := 1) Try.underlying24 hf 0 rfl (by kernel_rfl)
    obtain ⟨f1, y1, h1⟩ := field_at (t' := 4) (off := 1) (sz := 1) Try.underlying24 hf 1 rfl (by kernel_rfl)
    simp only [List.drop_zero, List.drop_succ_cons, List.take_succ_cons, List.take_zero] at h0 h1
    obtain ⟨cl, e1⟩ := bool_cell (by kernel_rfl) h1
    obtain ⟨A, n, c, L, e0, hP⟩ := open_pts Try.underlying22 (by kernel_rfl) (by kernel_rfl) h0
    simp only [List.cons.injEq, and_true] at e0 e1
    subst e0 e1
    exact ⟨A, n, c, L, cl, rfl, hP⟩
set_option maxRecDepth 100000 in
theorem open_poly {r : Reach} {b0 : Nat} {v : Value} {d : DataW H} {p : List MemPlace} (hv : Value.okWide Try.prog w r b0 24 v) (h : DataW.Trod enc Try.prog w 0 spare held 24 v d p) :
    ∃ A n c L cl, v = .agg #[.slice A n c, .bool cl] ∧ Pts w A n c L := by
  obtain ⟨cs, rfl⟩ := okWide_struct Try.underlying24 hv
  obtain ⟨fuel, hf⟩ := h
  obtain ⟨l⟩ := cs
  simp only [Value.cells] at hf
  obtain ⟨A, n, c, L, cl, rfl, hP⟩ := poly_cells hf
  exact ⟨A, n, c, L, cl, rfl, hP⟩
end
end
end

section
open Go.RowKit Go.ChangeShapes Go.WideShapes Go.Deep
set_option linter.unusedVariables false
def pl0 : Bool × List Pt := (false, [])
/-- A slice that reads as PL. -/
def Pls (w : World) (A : Option Addr) (n c : Nat) (PL : List (Bool × List Pt)) : Prop :=
  PL.length = n ∧ n ≤ c ∧ c ≤ maxLen ∧ (0 < n → ∃ b o, A = some ⟨b, o, none⟩ ∧ b < w.heap.size ∧ ∀ k, k < n → ∃ Ak nk ck, w.cell? ⟨b, o + k * 2, none⟩ = some (.slice Ak nk ck) ∧ w.cell? ⟨b, o + k * 2 + 1, none⟩ = some (.bool (PL.getD k pl0).1) ∧ Pts w Ak nk ck (PL.getD k pl0).2)
theorem Pls.keep {w w' : World} {A : Option Addr} {n c : Nat} {PL : List (Bool × List Pt)} (h : Pls w A n c PL) (hk : Keeps w w') : Pls w' A n c PL := by
  obtain ⟨h1, h2, h3, h4⟩ := h
  refine ⟨h1, h2, h3, fun hn => ?_⟩
  obtain ⟨b, o, e, hb, hc⟩ := h4 hn
  refine ⟨b, o, e, Nat.lt_of_lt_of_le hb hk.size, fun k hk' => ?_⟩
  obtain ⟨Ak, nk, ck, e1, e2, hP⟩ := hc k hk'
  exact ⟨Ak, nk, ck, (hk.cell hb).trans e1, (hk.cell hb).trans e2, hP.keep hk⟩
section
variable {H : Type} {enc : TypeId × Value → H} {w : World} {spare : Nat → Bool} {held : Bool}
set_option maxRecDepth 100000 in
theorem open_polys {r : Reach} {b0 : Nat} {v : Value} {d : DataW H} {p : List MemPlace} (hv : Value.okWide Try.prog w r b0 40 v) (h : DataW.Trod enc Try.prog w 0 spare held 40 v d p) : ∃ A n c PL, v = .slice A n c ∧ Pls w A n c PL := by
  obtain ⟨A0, n0, c0, rfl⟩ := okWide_slice Try.underlying40 hv
  obtain ⟨fuel, hf⟩ := h
  have hk : Try.prog.cellsOf 24 = 2 := by kernel_rfl
  have key : ∃ A n c PL, (Value.slice A0 n0 c0).cells.toList = [.slice A n c] ∧ Pls w A n c PL := by
    rcases open_slice Try.underlying40 hf with ⟨hcs, _⟩ | ⟨a, n, c, m, q, D, Pl, hcs, _, hl, hm, hmm, _, hx⟩
    · exact ⟨none, 0, 0, [], hcs, rfl, Nat.le_refl _, Nat.zero_le _, fun h => absurd h (by omega)⟩
    · have hlm : n ≤ m := by rw [hmm]; split <;> omega
      have each : ∀ i, i < n → ∃ y : Bool × List Pt, ∃ Ak nk ck, w.cell? ((a.add (i * 2)).add 0) = some (.slice Ak nk ck) ∧ w.cell? ((a.add (i * 2)).add 1) = some (.bool y.1) ∧ Pts w Ak nk ck y.2 := fun i hi => by
        obtain ⟨cs', h1, h2⟩ := hx i (by omega)
        rw [hk] at h1
        obtain ⟨_, hlen, hc⟩ := World.cells?_some h1
        obtain ⟨Ak, nk, ck, L, cl, rfl, hP⟩ := poly_cells h2
        exact ⟨(cl, L), Ak, nk, ck, hc 0 (by omega), hc 1 (by omega), hP⟩
      by_cases h0 : 0 < n
      · obtain ⟨b, o, spot⟩ := a
        have hs : spot = none := by
          obtain ⟨y, Ak, nk, ck, h3, _⟩ := each 0 h0
          have := World.cell?_spot h3
          simpa [Addr.add] using this
        subst hs
        obtain ⟨f, hf⟩ := choose_lt (α := Bool × List Pt) each
        refine ⟨some ⟨b, o, none⟩, n, c, (List.range n).map f, hcs, by simp, hl, hm, fun _ => ⟨b, o, rfl, ?_, fun k hk => ?_⟩⟩
        · obtain ⟨Ak, nk, ck, h3, _⟩ := hf 0 h0
          exact World.block_lt_of_cell? w _ h3
        · have e : ((List.range n).map f).getD k pl0 = f k := by simp [List.getD, hk]
          rw [e]
          obtain ⟨Ak, nk, ck, h3, h4, h5⟩ := hf k hk
          exact ⟨Ak, nk, ck, by simpa [Addr.add_lit] using h3, by simpa [Addr.add_lit, Nat.add_assoc] using h4, h5⟩
      · obtain rfl : n = 0 := by omega
        exact ⟨some a, 0, c, [], hcs, rfl, hl, hm, fun h => absurd h (by omega)⟩
  obtain ⟨A, n, c, PL, e, hP⟩ := key
  refine ⟨A, n, c, PL, ?_, hP⟩
  simpa [Value.cells] using e
end
end
end Go.Proofs.Ytihmhpleiefodaa
