/- Contract of grisaillelaw22's within. -/
import Derived.Test.YtdodgnpjlicnoaaQo
import Derived.Test.YtdodgnpjlicnoaaQq
import Derived.Test.YtdodgnpjlicnoaaQm
namespace Go.Proofs.Ytdodgnpjlicnoaa
section
open Go.RowKit
set_option linter.unusedVariables false
/-- The slice returned reads as L; nothing that lay in w0 has turned. -/
def RetP (w0 : World) (L : List Pt) (n : Nat) (e : Ending) (w' : World) : Prop := ∃ A c, e = .returned (.slice A n c) ∧ Pts w' A n c L ∧ Keeps w0 w'
theorem OwnP.ret {w0 w' : World} {L : List Pt} {e : Ending} {n : Nat} (hn : L.length = n) (ho : ∀ p ∈ L, okP p) (h : OwnP w0 L e w') : RetP w0 L n e w' := by
  obtain ⟨v, rfl, hown, hk⟩ := h
  subst hn
  obtain ⟨A, c, rfl, hP⟩ := Pts.of_own hown rfl ho
  exact ⟨A, c, rfl, hP, hk⟩
theorem bodyL_ok (a b : Pt) (v : Int) : ∀ p ∈ bodyL a b v, okP p := by
  unfold bodyL
  cases hm : mayB a b v with
  | false => rw [if_neg (by decide)]; intro p hp; cases hp
  | true =>
    rw [if_pos rfl]
    obtain ⟨⟨b0, b1, b2, b3⟩, ⟨b4, b5, b6, b7⟩, _⟩ := mayB_bd hm
    obtain ⟨⟨n0, n1⟩, n2, n3⟩ := ofs_bd' (subP b a) v
    apply orient_ok
    intro p hp
    simp at hp
    unfold okP i64b
    rcases hp with rfl | rfl | rfl | rfl <;> (simp only [addP, subP] at *; omega)
theorem capL_ok (a b : Pt) (v : Int) : ∀ p ∈ capL a b v, okP p := by
  unfold capL
  cases hm : mayB a b v with
  | false => rw [if_neg (by decide)]; intro p hp; cases hp
  | true =>
    rw [if_pos rfl]
    obtain ⟨⟨b0, b1, b2, b3⟩, ⟨b4, b5, b6, b7⟩, _⟩ := mayB_bd hm
    obtain ⟨⟨n0, n1⟩, n2, n3⟩ := ofs_bd' (subP b a) v
    apply orient_ok
    intro p hp
    simp at hp
    unfold okP i64b
    rcases hp with rfl | rfl | rfl | rfl <;> (simp only [addP, subP] at *; omega)
theorem dotL_ok (q : Pt) (v : Int) : ∀ p ∈ dotL q v, okP p := by
  unfold dotL
  cases hm : mayB q q v with
  | false => rw [if_neg (by decide)]; intro p hp; cases hp
  | true =>
    rw [if_pos rfl]
    obtain ⟨⟨b0, b1, b2, b3⟩, _, bv⟩ := mayB_bd hm
    obtain ⟨d0, d1⟩ := (dvr_Q v 2 (by omega) (by omega)).2
    apply orient_ok
    intro p hp
    simp at hp
    unfold okP i64b
    rcases hp with rfl | rfl | rfl | rfl <;> (dsimp only; omega)
theorem orient_len (L : List Pt) : (orient L).length ≤ L.length := by
  unfold orient
  split
  · exact Nat.le_refl _
  · split
    · rw [revT_length]; exact Nat.le_refl _
    · simp
theorem bodyL_len (a b : Pt) (v : Int) : (bodyL a b v).length ≤ 4 := by
  unfold bodyL; split
  · exact orient_len _
  · simp
theorem capL_len (a b : Pt) (v : Int) : (capL a b v).length ≤ 4 := by
  unfold capL; split
  · exact orient_len _
  · simp
theorem dotL_len (a : Pt) (v : Int) : (dotL a v).length ≤ 4 := by
  unfold dotL; split
  · exact orient_len _
  · simp
end

section
open Go.RowKit
set_option linter.unusedVariables false
set_option linter.unusedSimpArgs false
end
end Go.Proofs.Ytdodgnpjlicnoaa
