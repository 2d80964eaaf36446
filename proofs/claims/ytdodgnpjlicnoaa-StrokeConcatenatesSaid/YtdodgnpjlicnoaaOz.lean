/- Slices of polylines as arguments. -/
import Derived.Test.YtdodgnpjlicnoaaOy
namespace Go.Proofs.Ytdodgnpjlicnoaa
open Go.RowKit Go.ChangeShapes Go.WideShapes Go.Deep
set_option linter.unusedVariables false
def pl0 : Bool × List Pt := (false, [])
/-- A slice that reads as PL. -/
def Pls (w : World) (A : Option Addr) (n c : Nat) (PL : List (Bool × List Pt)) : Prop :=
  PL.length = n ∧ n ≤ c ∧ c ≤ maxLen ∧ (0 < n → ∃ b o, A = some ⟨b, o, none⟩ ∧ b < w.heap.size ∧ ∀ k, k < n → ∃ Ak nk ck, w.cell? ⟨b, o + k * 2, none⟩ = some (.slice Ak nk ck) ∧ w.cell? ⟨b, o + k * 2 + 1, none⟩ = some (.bool (PL.getD k pl0).1) ∧ Pts w Ak nk ck (PL.getD k pl0).2)
theorem Pls.keep {w w' : World} {A : Option Addr} {n c : Nat} {PL : List (Bool × List Pt)} (h : Pls w A n c PL) (hk : Keeps w w') : Pls w' A n c PL := by
  obtain ⟨h1, h2, h3, h4⟩ := h
  refine ⟨h1, h2, h3, fun hn => ?_⟩
  obtain ⟨b, o, e, hb, hc⟩ := h4 hn
  refine ⟨b, o, e, Nat.lt_of_lt_of_le hb hk.size, fun k hk' => ?_⟩
  obtain ⟨Ak, nk, ck, e1, e2, hP⟩ := hc k hk'
  exact ⟨Ak, nk, ck, (hk.cell hb).trans e1, (hk.cell hb).trans e2, hP.keep hk⟩
section
variable {H : Type} {enc : TypeId × Value → H} {w : World} {spare : Nat → Bool} {held : Bool}
set_option maxRecDepth 100000 in
theorem open_polys {r : Reach} {b0 : Nat} {v : Value} {d : DataW H} {p : List MemPlace} (hv : Value.okWide Try.prog w r b0 58 v) (h : DataW.Trod enc Try.prog w 0 spare held 58 v d p) : ∃ A n c PL, v = .slice A n c ∧ Pls w A n c PL := by
  obtain ⟨A0, n0, c0, rfl⟩ := okWide_slice Try.underlying58 hv
  obtain ⟨fuel, hf⟩ := h
  have hk : Try.prog.cellsOf 49 = 2 := by kernel_rfl
  have key : ∃ A n c PL, (Value.slice A0 n0 c0).cells.toList = [.slice A n c] ∧ Pls w A n c PL := by
    rcases open_slice Try.underlying58 hf with ⟨hcs, _⟩ | ⟨a, n, c, m, q, D, Pl, hcs, _, hl, hm, hmm, _, hx⟩
    · exact ⟨none, 0, 0, [], hcs, rfl, Nat.le_refl _, Nat.zero_le _, fun h => absurd h (by omega)⟩
    · have hlm : n ≤ m := by rw [hmm]; split <;> omega
      have each : ∀ i, i < n → ∃ y : Bool × List Pt, ∃ Ak nk ck, w.cell? ((a.add (i * 2)).add 0) = some (.slice Ak nk ck) ∧ w.cell? ((a.add (i * 2)).add 1) = some (.bool y.1) ∧ Pts w Ak nk ck y.2 := fun i hi => by
        obtain ⟨cs', h1, h2⟩ := hx i (by omega)
        rw [hk] at h1
        obtain ⟨_, hlen, hc⟩ := World.cells?_some h1
        obtain ⟨Ak, nk, ck, L, cl, rfl, hP⟩ := poly_cells h2
        exact ⟨(cl, L), Ak, nk, ck, hc 0 (by omega), hc 1 (by omega), hP⟩
      by_cases h0 : 0 < n
      · obtain ⟨b, o, spot⟩ := a
        have hs : spot = none := by
          obtain ⟨y, Ak, nk, ck, h3, _⟩ := each 0 h0
          have := World.cell?_spot h3
          simpa [Addr.add] using this
        subst hs
        obtain ⟨f, hf⟩ := choose_lt (α := Bool × List Pt) each
        refine ⟨some ⟨b, o, none⟩, n, c, (List.range n).map f, hcs, by simp, hl, hm, fun _ => ⟨b, o, rfl, ?_, fun k hk => ?_⟩⟩
        · obtain ⟨Ak, nk, ck, h3, _⟩ := hf 0 h0
          exact World.block_lt_of_cell? w _ h3
        · have e : ((List.range n).map f).getD k pl0 = f k := by simp [List.getD, hk]
          rw [e]
          obtain ⟨Ak, nk, ck, h3, h4, h5⟩ := hf k hk
          exact ⟨Ak, nk, ck, by simpa [Addr.add_lit] using h3, by simpa [Addr.add_lit, Nat.add_assoc] using h4, h5⟩
      · obtain rfl : n = 0 := by omega
        exact ⟨some a, 0, c, [], hcs, rfl, hl, hm, fun h => absurd h (by omega)⟩
  obtain ⟨A, n, c, PL, e, hP⟩ := key
  refine ⟨A, n, c, PL, ?_, hP⟩
  simpa [Value.cells] using e
end
end Go.Proofs.Ytdodgnpjlicnoaa
