/- Contracts of strokegeom's and reference 22's less, plus, across, may. -/
import Derived.Test.YtihmhpleiefodaaQk
import Derived.Test.YtihmhpleiefodaaKu
namespace Go.Proofs.Ytihmhpleiefodaa
open Go.RowKit
attribute [local go_sem ↓] Go.wp_at_zero Go.wp_at_succ
set_option linter.unusedVariables false
set_option linter.unusedSimpArgs false
theorem ofs_bd (p : Pt) (v : Int) (h : ofsOk p v = true) : (-1152921504606846976 ≤ (ofs p v).1 ∧ (ofs p v).1 ≤ 1152921504606846976) ∧ (-1152921504606846976 ≤ (ofs p v).2 ∧ (ofs p v).2 ≤ 1152921504606846976) := by
  obtain ⟨a, b, u, u2, t, t2, m, s, ea, eb, a0, b0, a1, b1, eu, eu2, et, et2, u0, u1, t0, t1, em, es, s1, hO, _⟩ := ofs_ar p.1 p.2 v h
  rw [show ofs p v = ofs (p.1, p.2) v from rfl, hO.out]
  have q : ∀ x : Int, -2251799813685248 ≤ x → x ≤ 2251799813685248 → -1152921504606846976 ≤ dvr x (s : Int) ∧ dvr x (s : Int) ≤ 1152921504606846976 := fun x h0 h1 => by
    by_cases hb : (s : Int) = 0
    · rw [hb, dvr_zero]; omega
    · exact (dvr_Q _ _ hb (by omega)).2
  exact ⟨q u2 (by omega) (by omega), q t2 (by omega) (by omega)⟩
theorem ofs_bd' (p : Pt) (v : Int) : (-1152921504606846976 ≤ (ofs p v).1 ∧ (ofs p v).1 ≤ 1152921504606846976) ∧ (-1152921504606846976 ≤ (ofs p v).2 ∧ (ofs p v).2 ≤ 1152921504606846976) := by
  cases h : ofsOk p v with
  | true => exact ofs_bd p v h
  | false => rw [ofs_no p v h]; exact ⟨⟨by decide, by decide⟩, ⟨by decide, by decide⟩⟩
def subP (p q : Pt) : Pt := (p.1 - q.1, p.2 - q.2)
def addP (p q : Pt) : Pt := (p.1 + q.1, p.2 + q.2)
/-- Both points and the width are valid. -/
def mayB (a b : Pt) (v : Int) : Bool := wideB v && vP a && vP b
def acr (a b : Pt) (v : Int) : Pt := if mayB a b v = true then ofs (subP b a) v else pt0
theorem mayB_bd {a b : Pt} {v : Int} (h : mayB a b v = true) : (-1048576 ≤ a.1 ∧ a.1 ≤ 1048576 ∧ -1048576 ≤ a.2 ∧ a.2 ≤ 1048576) ∧ (-1048576 ≤ b.1 ∧ b.1 ≤ 1048576 ∧ -1048576 ≤ b.2 ∧ b.2 ≤ 1048576) ∧ (1 ≤ v ∧ v ≤ 16384) := by
  unfold mayB at h
  simp only [Bool.and_eq_true] at h
  have h1 := (vP_bd h.1.2).2.2
  have h2 := (vP_bd h.2).2.2
  have h3 := (inB_iff _ _ _).1 h.1.1
  exact ⟨h1, h2, h3⟩
theorem mayB_no {a b : Pt} {v : Int} (h : mayB a b v = false) : wideB v = false ∨ wideB v = true ∧ vP a = false ∨ wideB v = true ∧ vP a = true ∧ vP b = false := by
  unfold mayB at h
  revert h
  cases wideB v <;> cases vP a <;> cases vP b <;> simp
end Go.Proofs.Ytihmhpleiefodaa
