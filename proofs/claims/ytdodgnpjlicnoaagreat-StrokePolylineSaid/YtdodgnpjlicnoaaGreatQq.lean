/- Contracts of SquareDot, of strokegeom and of reference 22. -/
import Derived.Test.YtdodgnpjlicnoaaGreatQo
namespace Go.Proofs.YtdodgnpjlicnoaaGreat
open Go.RowKit
attribute [local go_sem ↓] Go.wp_at_zero Go.wp_at_succ
set_option linter.unusedVariables false
set_option linter.unusedSimpArgs false
def dotL (p : Pt) (v : Int) : List Pt := if mayB p p v = true then orient [(p.1 - dvr v 2, p.2 - dvr v 2), (p.1 + dvr v 2, p.2 - dvr v 2), (p.1 + dvr v 2, p.2 + dvr v 2), (p.1 - dvr v 2, p.2 + dvr v 2)] else []
set_option maxRecDepth 100000 in
set_option maxHeartbeats 4000000 in
theorem dot_any (p : Pt) (v : Int) (w : World) :
    Calls Tryz.prog 48 #[.agg #[.int .i64 p.1, .int .i64 p.2], .int .i64 v] w (OwnP w (dotL p v)) := by
  have HS := Lib.hid (show ∀ w', Keeps (w.alloc (.cells #[.int .i64 p.1, .int .i64 p.2] 37)) w' → w'.cell? ⟨w.heap.size, 0, none⟩ = some (.int .i64 p.1) ∧ w'.frozen? ⟨w.heap.size, 0, none⟩ = false ∧ w'.cell? ⟨w.heap.size, 1, none⟩ = some (.int .i64 p.2) ∧ w'.frozen? ⟨w.heap.size, 1, none⟩ = false from fun w' hk => ⟨(hk.cell (p := ⟨w.heap.size, 0, none⟩) (by first | (simp; done) | (simp; omega))).trans (by simp [go_sem]), (hk.frozen (p := ⟨w.heap.size, 0, none⟩) (by first | (simp; done) | (simp; omega))).trans (by simp [go_sem]), (hk.cell (p := ⟨w.heap.size, 1, none⟩) (by first | (simp; done) | (simp; omega))).trans (by simp [go_sem]), (hk.frozen (p := ⟨w.heap.size, 1, none⟩) (by first | (simp; done) | (simp; omega))).trans (by simp [go_sem])⟩)
  have HB := Lib.hid (show Keeps w (w.alloc (.cells #[.int .i64 p.1, .int .i64 p.2] 37)) from (by (repeat (first | (with_reducible exact Keeps.refl _) | (with_reducible assumption) | (with_reducible refine Keeps.drewN ?_ _) | (with_reducible refine Keeps.drew ?_) | (with_reducible refine Keeps.alloc ?_ _) | (with_reducible refine Keeps.setNew ?_ ?_ _))) <;> (dsimp only; omega)))
  have hk0 := Keeps.refl (w.alloc (.cells #[.int .i64 p.1, .int .i64 p.2] 37))
  have KW := Lib.hid (fun w => wide_any v w)
  have KV := Lib.hid (fun w => valid_any p.1 p.2 w)
  rw [show validB p.1 p.2 = vP p from rfl] at KV
  unfold dotL
  cases hm : mayB p p v with
  | false =>
    rw [if_neg (by decide)]
    rcases mayB_no hm with h3 | ⟨h3, h4⟩ | ⟨h3, h4, h5⟩
    · rw [h3] at KW
      clear h3 hm
      go_enter Tryz.func48, Tryz.ntmps48
      go_wp2_with (first | (go_at_call 24; (with_reducible refine (KW.out _).mono ?_); rintro e w1 ⟨rfl, rfl⟩) | (go_at_call 28; (with_reducible refine (keepk (KV.out _) (by first | assumption | exact Keeps.drew (by assumption) | exact Keeps.drewN (by assumption) _)).mono ?_); rintro e w1 ⟨rfl, hk⟩; have hj := Keeps.trans HB.out hk; have hk := hk; obtain ⟨y0, y1, y2, y3⟩ := HS.out _ hk))
      go_ret
      exact ⟨_, rfl, World.ownsRow_nil _ _ _ _, (by (repeat (first | (with_reducible exact Keeps.refl _) | (with_reducible assumption) | (with_reducible refine Keeps.drewN ?_ _) | (with_reducible refine Keeps.drew ?_) | (with_reducible refine Keeps.alloc ?_ _) | (with_reducible refine Keeps.setNew ?_ ?_ _))) <;> (dsimp only; omega))⟩
    · rw [h3] at KW
      rw [h4] at KV
      clear h3 h4 hm
      go_enter Tryz.func48, Tryz.ntmps48
      go_wp2_with (first | (go_at_call 24; (with_reducible refine (KW.out _).mono ?_); rintro e w1 ⟨rfl, rfl⟩) | (go_at_call 28; (with_reducible refine (keepk (KV.out _) (by first | assumption | exact Keeps.drew (by assumption) | exact Keeps.drewN (by assumption) _)).mono ?_); rintro e w1 ⟨rfl, hk⟩; have hj := Keeps.trans HB.out hk; have hk := hk; obtain ⟨y0, y1, y2, y3⟩ := HS.out _ hk))
      go_ret
      exact ⟨_, rfl, World.ownsRow_nil _ _ _ _, (by (repeat (first | (with_reducible exact Keeps.refl _) | (with_reducible assumption) | (with_reducible refine Keeps.drewN ?_ _) | (with_reducible refine Keeps.drew ?_) | (with_reducible refine Keeps.alloc ?_ _) | (with_reducible refine Keeps.setNew ?_ ?_ _))) <;> (dsimp only; omega))⟩
    · rw [h4] at h5; cases h5
  | true =>
    rw [if_pos rfl]
    obtain ⟨⟨b0, b1, b2, b3⟩, -, bv⟩ := mayB_bd hm
    have hm' := hm
    unfold mayB at hm'
    simp only [Bool.and_eq_true] at hm'
    rw [hm'.1.1] at KW
    rw [hm'.1.2] at KV
    clear hm'
    obtain ⟨d0, d1⟩ := (dvr_Q v 2 (by omega) (by omega)).2
    have KD := Lib.hid (fun w => dvr_any v 2 w (by omega) (by omega) (by omega) (by omega))
    clear hm bv
    generalize dvr v 2 = h at *
    have hok : ∀ q ∈ ([(p.1 - h, p.2 - h), (p.1 + h, p.2 - h), (p.1 + h, p.2 + h), (p.1 - h, p.2 + h)] : List Pt), okP q := by
      intro q hq
      simp at hq
      unfold okP i64b
      rcases hq with rfl | rfl | rfl | rfl <;> (dsimp only; omega)
    have hok := Lib.hid hok
    go_enter Tryz.func48, Tryz.ntmps48
    go_wp2_with (first | (first | (go_at_call 24; (with_reducible refine (KW.out _).mono ?_); rintro e w1 ⟨rfl, rfl⟩) | (go_at_call 28; (with_reducible refine (keepk (KV.out _) (by first | assumption | exact Keeps.drew (by assumption) | exact Keeps.drewN (by assumption) _)).mono ?_); rintro e w1 ⟨rfl, hk⟩; have hj := Keeps.trans HB.out hk; have hk := hk; obtain ⟨y0, y1, y2, y3⟩ := HS.out _ hk)) | (go_at_call 65; (with_reducible refine (keep (KD.out _) (by first | assumption | exact Keeps.drew (by assumption) | exact Keeps.drewN (by assumption) _)).mono ?_); rintro e w1 ⟨rfl, hk⟩; have hj := Keeps.trans HB.out hk; have hk := hk; obtain ⟨y0, y1, y2, y3⟩ := HS.out _ hk; have hP := Lib.hid (Pts.lit w1 [(p.1 - h, p.2 - h), (p.1 + h, p.2 - h), (p.1 + h, p.2 + h), (p.1 - h, p.2 + h)] hok.out 37 (show 4 ≤ maxLen by unfold maxLen; omega)); have hkw := Lib.hid hj) | (go_at_call 51; (with_reducible refine (orient_any _ 4 4 _ _ hP.out (by omega)).mono ?_); rintro e w10 ⟨vv, rfl, hown, hk10⟩; have hown := Lib.hid hown; have hk10 := Lib.hid hk10))
    go_ret
    exact ⟨_, rfl, own_base hown.out (hkw.out.alloc _).size, (hkw.out.alloc _).trans hk10.out⟩
set_option maxRecDepth 100000 in
set_option maxHeartbeats 4000000 in
theorem rdot22_any (p : Pt) (v : Int) (w : World) :
    Calls Tryz.prog 61 #[.agg #[.int .i64 p.1, .int .i64 p.2], .int .i64 v] w (OwnP w (dotL p v)) := by
  have HS := Lib.hid (show ∀ w', Keeps (w.alloc (.cells #[.int .i64 p.1, .int .i64 p.2] 37)) w' → w'.cell? ⟨w.heap.size, 0, none⟩ = some (.int .i64 p.1) ∧ w'.frozen? ⟨w.heap.size, 0, none⟩ = false ∧ w'.cell? ⟨w.heap.size, 1, none⟩ = some (.int .i64 p.2) ∧ w'.frozen? ⟨w.heap.size, 1, none⟩ = false from fun w' hk => ⟨(hk.cell (p := ⟨w.heap.size, 0, none⟩) (by first | (simp; done) | (simp; omega))).trans (by simp [go_sem]), (hk.frozen (p := ⟨w.heap.size, 0, none⟩) (by first | (simp; done) | (simp; omega))).trans (by simp [go_sem]), (hk.cell (p := ⟨w.heap.size, 1, none⟩) (by first | (simp; done) | (simp; omega))).trans (by simp [go_sem]), (hk.frozen (p := ⟨w.heap.size, 1, none⟩) (by first | (simp; done) | (simp; omega))).trans (by simp [go_sem])⟩)
  have HB := Lib.hid (show Keeps w (w.alloc (.cells #[.int .i64 p.1, .int .i64 p.2] 37)) from (by (repeat (first | (with_reducible exact Keeps.refl _) | (with_reducible assumption) | (with_reducible refine Keeps.drewN ?_ _) | (with_reducible refine Keeps.drew ?_) | (with_reducible refine Keeps.alloc ?_ _) | (with_reducible refine Keeps.setNew ?_ ?_ _))) <;> (dsimp only; omega)))
  have hk0 := Keeps.refl (w.alloc (.cells #[.int .i64 p.1, .int .i64 p.2] 37))
  have KM := Lib.hid (fun w => rmay_any p p v w)
  unfold dotL
  cases hm : mayB p p v with
  | false =>
    rw [if_neg (by decide)]
    rw [hm] at KM
    clear hm
    go_enter Tryz.func61, Tryz.ntmps61
    go_wp2_with (go_at_call 74; (with_reducible refine (keepk (KM.out _) (by first | assumption | exact Keeps.drew (by assumption) | exact Keeps.drewN (by assumption) _)).mono ?_); rintro e w1 ⟨rfl, hk⟩; have hj := Keeps.trans HB.out hk; have hk := hk; obtain ⟨y0, y1, y2, y3⟩ := HS.out _ hk)
    go_ret
    exact ⟨_, rfl, own_base (World.ownsRow_lit w1 #[] 0 (Nat.le_refl _) (by unfold maxLen; omega) (by simp)) hj.size, hj.alloc _⟩
  | true =>
    rw [if_pos rfl]
    obtain ⟨⟨b0, b1, b2, b3⟩, -, bv⟩ := mayB_bd hm
    rw [hm] at KM
    obtain ⟨d0, d1⟩ := (dvr_Q v 2 (by omega) (by omega)).2
    have KD := Lib.hid (fun w => rdvr_any v 2 w (by omega) (by omega) (by omega) (by omega))
    clear hm bv
    generalize dvr v 2 = h at *
    have hok : ∀ q ∈ ([(p.1 - h, p.2 - h), (p.1 + h, p.2 - h), (p.1 + h, p.2 + h), (p.1 - h, p.2 + h)] : List Pt), okP q := by
      intro q hq
      simp at hq
      unfold okP i64b
      rcases hq with rfl | rfl | rfl | rfl <;> (dsimp only; omega)
    have hok := Lib.hid hok
    go_enter Tryz.func61, Tryz.ntmps61
    go_wp2_with (first | (go_at_call 74; (with_reducible refine (keepk (KM.out _) (by first | assumption | exact Keeps.drew (by assumption) | exact Keeps.drewN (by assumption) _)).mono ?_); rintro e w1 ⟨rfl, hk⟩; have hj := Keeps.trans HB.out hk; have hk := hk; obtain ⟨y0, y1, y2, y3⟩ := HS.out _ hk) | (go_at_call 82; (with_reducible refine (keepk (KD.out _) (by first | assumption | exact Keeps.drew (by assumption) | exact Keeps.drewN (by assumption) _)).mono ?_); rintro e w1 ⟨rfl, hk⟩; have hj := Keeps.trans HB.out hk; have hk := hk; obtain ⟨y0, y1, y2, y3⟩ := HS.out _ hk; have hP := Lib.hid (Pts.lit w1 [(p.1 - h, p.2 - h), (p.1 + h, p.2 - h), (p.1 + h, p.2 + h), (p.1 - h, p.2 + h)] hok.out 37 (show 4 ≤ maxLen by unfold maxLen; omega)); have hkw := Lib.hid hj) | (go_at_call 77; (with_reducible refine (rorient_any _ 4 4 _ _ hP.out (by omega)).mono ?_); rintro e w10 ⟨vv, rfl, hown, hk10⟩; have hown := Lib.hid hown; have hk10 := Lib.hid hk10))
    go_ret
    exact ⟨_, rfl, own_base hown.out (hkw.out.alloc _).size, (hkw.out.alloc _).trans hk10.out⟩
end Go.Proofs.YtdodgnpjlicnoaaGreat
