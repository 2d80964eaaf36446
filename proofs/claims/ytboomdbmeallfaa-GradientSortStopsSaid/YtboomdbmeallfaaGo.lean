/- Contract of count; what sorting keeps (plain laws). -/
import Derived.Test.YtboomdbmeallfaaGn
namespace Go.Proofs.Ytboomdbmeallfaa
open Go.RowKit
set_option linter.unusedVariables false
set_option linter.unusedSimpArgs false
def cntS (x : St) (L : List St) : Nat := L.countP (fun y => eq5 y x)
theorem cntS_ins (x s : St) (o : List St) : cntS x (ins s o) = cntS x (s :: o) := by
  unfold cntS ins
  rw [List.countP_append, List.countP_cons, List.countP_cons]
  have h := List.countP_append (p := fun y => eq5 y x) (l₁ := o.take (lead s.1 o)) (l₂ := o.drop (lead s.1 o))
  rw [List.take_append_drop] at h
  omega
theorem cntS_take (x : St) (L : List St) (k : Nat) (h : k < L.length) : cntS x (L.take (k + 1)) = cntS x (L.take k) + if eq5 (L.getD k st0) x = true then 1 else 0 := by
  unfold cntS
  rw [take_succ' L k h, List.countP_append]
  simp [List.countP_cons]
theorem cntS_srt (x : St) (L : List St) : ∀ j, j ≤ L.length → cntS x (srt L j) = cntS x (L.take j)
  | 0, _ => by simp [srt, cntS]
  | j + 1, h => by
    rw [srt, cntS_ins, cntS_take x L j (by omega), ← cntS_srt x L j (by omega)]
    unfold cntS
    rw [List.countP_cons]
/-- A list that does not fall is left as it is. -/
theorem srt_same (L : List St) (hr : Rising L) : ∀ j, j ≤ L.length → srt L j = L.take j
  | 0, _ => by simp [srt]
  | j + 1, h => by
    rw [srt, srt_same L hr j (by omega)]
    have hl : (L.take j).length = j := by simp; omega
    have e : lead (L.getD j st0).1 (L.take j) = j := lead_is _ _ j (by omega) (fun k hk => by
      have e1 : (L.take j).getD k st0 = L.getD k st0 := by
        rw [List.getD_eq_getElem?_getD, List.getD_eq_getElem?_getD, List.getElem?_take, if_pos hk]
      rw [e1]; exact hr k j (by omega) (by omega)) (fun hm => by omega)
    unfold ins
    rw [e, List.take_of_length_le (by omega), List.drop_of_length_le (by omega), take_succ' L j (by omega)]
theorem cntS_le (x : St) (L : List St) : cntS x L ≤ L.length := List.countP_le_length
set_option maxRecDepth 100000 in
set_option maxHeartbeats 2000000 in
theorem count_any (A : Option Addr) (n c : Nat) (L : List St) (x : St) (w : World) (h : Sts w A n c L) :
    Calls Try.prog 27 #[.slice A n c, .agg #[.int .i64 x.1, .int .u8 x.2.1, .int .u8 x.2.2.1, .int .u8 x.2.2.2.1, .int .u8 x.2.2.2.2]] w fun e w' => e = .returned (.int .i64 (cntS x L : Nat)) ∧ Keeps w w' := by
  have g3 := csGuard
  have g4 := csEql
  have hl := h.1
  have hmx := h.max
  have HA := Lib.hid h.2.2.2.2
  clear h
  have HS := Lib.hid (show ∀ w', Keeps (w.alloc (.cells #[.int .i64 x.1, .int .u8 x.2.1, .int .u8 x.2.2.1, .int .u8 x.2.2.2.1, .int .u8 x.2.2.2.2] 31)) w' → w'.cell? ⟨w.heap.size, 0, none⟩ = some (.int .i64 x.1) ∧ w'.frozen? ⟨w.heap.size, 0, none⟩ = false ∧ w'.cell? ⟨w.heap.size, 1, none⟩ = some (.int .u8 x.2.1) ∧ w'.frozen? ⟨w.heap.size, 1, none⟩ = false ∧ w'.cell? ⟨w.heap.size, 2, none⟩ = some (.int .u8 x.2.2.1) ∧ w'.frozen? ⟨w.heap.size, 2, none⟩ = false ∧ w'.cell? ⟨w.heap.size, 3, none⟩ = some (.int .u8 x.2.2.2.1) ∧ w'.frozen? ⟨w.heap.size, 3, none⟩ = false ∧ w'.cell? ⟨w.heap.size, 4, none⟩ = some (.int .u8 x.2.2.2.2) ∧ w'.frozen? ⟨w.heap.size, 4, none⟩ = false from fun w' hk => ⟨(hk.cell (p := ⟨w.heap.size, 0, none⟩) (by first | (simp; done) | (simp; omega))).trans (by simp [go_sem]), (hk.frozen (p := ⟨w.heap.size, 0, none⟩) (by first | (simp; done) | (simp; omega))).trans (by simp [go_sem]), (hk.cell (p := ⟨w.heap.size, 1, none⟩) (by first | (simp; done) | (simp; omega))).trans (by simp [go_sem]), (hk.frozen (p := ⟨w.heap.size, 1, none⟩) (by first | (simp; done) | (simp; omega))).trans (by simp [go_sem]), (hk.cell (p := ⟨w.heap.size, 2, none⟩) (by first | (simp; done) | (simp; omega))).trans (by simp [go_sem]), (hk.frozen (p := ⟨w.heap.size, 2, none⟩) (by first | (simp; done) | (simp; omega))).trans (by simp [go_sem]), (hk.cell (p := ⟨w.heap.size, 3, none⟩) (by first | (simp; done) | (simp; omega))).trans (by simp [go_sem]), (hk.frozen (p := ⟨w.heap.size, 3, none⟩) (by first | (simp; done) | (simp; omega))).trans (by simp [go_sem]), (hk.cell (p := ⟨w.heap.size, 4, none⟩) (by first | (simp; done) | (simp; omega))).trans (by simp [go_sem]), (hk.frozen (p := ⟨w.heap.size, 4, none⟩) (by first | (simp; done) | (simp; omega))).trans (by simp [go_sem])⟩)
  have HB := Lib.hid (show Keeps w (w.alloc (.cells #[.int .i64 x.1, .int .u8 x.2.1, .int .u8 x.2.2.1, .int .u8 x.2.2.2.1, .int .u8 x.2.2.2.2] 31)) from (by (repeat (first | (with_reducible exact Keeps.refl _) | (with_reducible assumption) | (with_reducible refine Keeps.drewN ?_ _) | (with_reducible refine Keeps.drew ?_) | (with_reducible refine Keeps.alloc ?_ _) | (with_reducible refine Keeps.setNew ?_ ?_ _))) <;> (dsimp only; omega)))
  have hk0 := Keeps.refl (w.alloc (.cells #[.int .i64 x.1, .int .u8 x.2.1, .int .u8 x.2.2.1, .int .u8 x.2.2.2.1, .int .u8 x.2.2.2.2] 31))
  go_enter Try.func27, Try.ntmps27
  go_wp2_with fail
  generalize (w.alloc (.cells #[.int .i64 x.1, .int .u8 x.2.1, .int .u8 x.2.2.1, .int .u8 x.2.2.2.1, .int .u8 x.2.2.2.2] 31)) = W0 at *
  go_loopw [5, 6] (fun q i wr => ∃ j : Nat, j ≤ n ∧ i = .int .i64 j ∧ q = .int .i64 (cntS x (L.take j) : Nat) ∧ Keeps W0 wr) (fun _ i _ => n - (intOf i).toNat)
  case atStart => exact ⟨0, by omega, rfl, by simp [cntS], hk0⟩
  case round =>
    obtain ⟨j, hj, rfl, rfl, hkw⟩ := hrel
    by_cases hlt : j < n
    · obtain ⟨b1, o1, rfl, hb1, hc1⟩ := HA.out (by omega)
      obtain ⟨c0, c1, c2, c3, c4⟩ := (hc1 j hlt).keep hb1 (HB.out.trans hkw)
      obtain ⟨y0, y1, y2, y3, y4, y5, y6, y7, y8, y9⟩ := HS.out _ hkw
      clear hc1 HA
      have hT := Lib.hid (cntS_take x L j (by omega))
      have hle := cntS_le x (L.take j)
      rw [List.length_take] at hle
      have hlt2 : (j : Int) < n := by omega
      generalize cntS x (L.take j) = q at *
      generalize L.getD j st0 = y at *
      cases he : eq5 y x with
      | true =>
        have hT2 := Lib.hid (show cntS x (L.take (j + 1)) = q + 1 by rw [hT.out, if_pos he])
        go_wp2_with fail
        go_quiet (fail)
        go_wp2_with fail
        go_roundw
        case rel => exact ⟨j + 1, by omega, by go_num, by rw [hT2.out]; go_num, hkw.drewN _⟩
        case measure => simp [intOf]; omega
      | false =>
        have hT2 := Lib.hid (show cntS x (L.take (j + 1)) = q by rw [hT.out, if_neg (by rw [he]; decide)]; omega)
        go_wp2_with fail
        go_quiet (fail)
        go_wp2_with fail
        go_roundw
        case rel => exact ⟨j + 1, by omega, by go_num, by rw [hT2.out], hkw.drewN _⟩
        case measure => simp [intOf]; omega
    · obtain rfl : j = n := by omega
      rw [List.take_of_length_le (by omega)]
      go_wp2_with fail
      go_ret
      exact ⟨rfl, HB.out.trans hkw⟩
end Go.Proofs.Ytboomdbmeallfaa
