/- The contract of (measured).cut. -/
import Derived.Test.YtihmhpleiefodaaDi
namespace Go.Proofs.Ytihmhpleiefodaa
open Go.RowKit Go.Shelf
attribute [local go_sem ↓] Go.wp_at_zero Go.wp_at_succ
set_option linter.unusedVariables false
set_option linter.unusedSimpArgs false
/-- What the cut holds behind the first j points of the polyline. -/
def cutTo (S : List (Pt × Pt)) (M : List Pt) (f t : Int) : Nat → List Pt
  | 0 => [ptF S f]
  | j + 1 => if f < lng (S.take j) ∧ lng (S.take j) < t then addL (cutTo S M f t j) (M.getD j pt0) else cutTo S M f t j
def cutL (S : List (Pt × Pt)) (M : List Pt) (f t : Int) : List Pt := addL (cutTo S M f t S.length) (ptF S t)
theorem cutTo_len (S : List (Pt × Pt)) (M : List Pt) (f t : Int) : ∀ j, 0 < (cutTo S M f t j).length ∧ (cutTo S M f t j).length ≤ j + 1
  | 0 => by simp [cutTo]
  | j + 1 => by
    have ih := cutTo_len S M f t j
    have h1 := addL_len (cutTo S M f t j) (M.getD j pt0)
    have h2 := addL_pos (p := M.getD j pt0) ih.1
    unfold cutTo
    split <;> omega
theorem lerpI_ok (a b n d : Int) : i64b (lerpI a b n d) := by
  have h1 := hc_bd a
  have h2 := hc_bd b
  unfold lerpI i64b
  split
  · omega
  · rename_i h
    have hN : 0 ≤ clI n 0 d ∧ clI n 0 d ≤ 1099511627776 := by unfold clI; split <;> (try split) <;> omega
    obtain ⟨p, hp, h3, h3'⟩ := at_prod (hc a) (hc b) (clI n 0 d) h1.1 h1.2 h2.1 h2.2 hN.1 hN.2
    rw [hp]
    have h4 := dvr_le p d (by omega)
    omega
theorem lerpS_ok (s : Pt × Pt) (a : Int) : okP (lerpS s a) := ⟨lerpI_ok _ _ _ _, lerpI_ok _ _ _ _⟩
theorem ptF_ok : ∀ (S : List (Pt × Pt)) (a : Int), okP (ptF S a)
  | [], _ => okP0
  | s :: r, a => by
    unfold ptF
    split
    · exact lerpS_ok s a
    · exact ptF_ok r _
theorem addL_ok {O : List Pt} {p : Pt} (h : ∀ x ∈ O, okP x) (hp : okP p) : ∀ x ∈ addL O p, okP x := by
  unfold addL
  split
  · exact h
  · intro x hx
    rcases List.mem_append.1 hx with hx | hx
    · exact h x hx
    · rw [List.mem_singleton.1 hx]; exact hp
theorem cutTo_ok (S : List (Pt × Pt)) (M : List Pt) (hM : ∀ p ∈ M, okP p) (f t : Int) : ∀ j, ∀ x ∈ cutTo S M f t j, okP x
  | 0 => fun x hx => by rw [List.mem_singleton.1 hx]; exact ptF_ok _ _
  | j + 1 => by
    unfold cutTo
    split
    · exact addL_ok (cutTo_ok S M hM f t j) (okL M hM j)
    · exact cutTo_ok S M hM f t j
theorem cutL_ok (S : List (Pt × Pt)) (M : List Pt) (hM : ∀ p ∈ M, okP p) (f t : Int) : ∀ x ∈ cutL S M f t, okP x := addL_ok (cutTo_ok S M hM f t _) (ptF_ok _ _)
/-- A call's new slice of points. -/
def RetO (w : World) (L : List Pt) (e : Ending) (w' : World) : Prop := ∃ A c, e = .returned (.slice A L.length c) ∧ w'.ownsRow w.heap.size 50 2 (.slice A L.length c) L.length (rowP L) ∧ Keeps w w'
set_option maxRecDepth 100000 in
set_option maxHeartbeats 2000000 in
theorem cut_any (cl : Bool) (M : List Pt) (A1 A2 : Option Addr) (c1 c2 : Nat) (f t : Int) (w : World) (hP : Pts w A1 M.length c1 M) (hI : Ins w A2 (segs cl M).length c2 (ats (segs cl M))) (hk : 0 < (segs cl M).length) (hm : M.length ≤ 1000000) (hf : 0 ≤ f) (hf2 : f ≤ 4611686018427387904) (ht : 0 ≤ t) (ht2 : t ≤ 4611686018427387904) :
    Calls Try.prog 40 #[.agg #[.slice A1 M.length c1, .slice A2 (segs cl M).length c2, .int .i64 (lng (segs cl M))], .int .i64 f, .int .i64 t] w (RetO w (cutL (segs cl M) M f t)) := by
  have HS := Lib.hid (show ∀ w', Keeps (w.alloc (.cells #[.slice A1 M.length c1, .slice A2 (segs cl M).length c2, .int .i64 (lng (segs cl M))] 54)) w' → w'.cell? ⟨w.heap.size, 0, none⟩ = some (.slice A1 M.length c1) ∧ w'.frozen? ⟨w.heap.size, 0, none⟩ = false ∧ w'.cell? ⟨w.heap.size, 1, none⟩ = some (.slice A2 (segs cl M).length c2) ∧ w'.frozen? ⟨w.heap.size, 1, none⟩ = false ∧ w'.cell? ⟨w.heap.size, 2, none⟩ = some (.int .i64 (lng (segs cl M))) ∧ w'.frozen? ⟨w.heap.size, 2, none⟩ = false from fun w' hk => ⟨(hk.cell (p := ⟨w.heap.size, 0, none⟩) (by first | (simp; done) | (simp; omega))).trans (by simp [go_sem]), (hk.frozen (p := ⟨w.heap.size, 0, none⟩) (by first | (simp; done) | (simp; omega))).trans (by simp [go_sem]), (hk.cell (p := ⟨w.heap.size, 1, none⟩) (by first | (simp; done) | (simp; omega))).trans (by simp [go_sem]), (hk.frozen (p := ⟨w.heap.size, 1, none⟩) (by first | (simp; done) | (simp; omega))).trans (by simp [go_sem]), (hk.cell (p := ⟨w.heap.size, 2, none⟩) (by first | (simp; done) | (simp; omega))).trans (by simp [go_sem]), (hk.frozen (p := ⟨w.heap.size, 2, none⟩) (by first | (simp; done) | (simp; omega))).trans (by simp [go_sem])⟩)
  have HB := Lib.hid (show Keeps w (w.alloc (.cells #[.slice A1 M.length c1, .slice A2 (segs cl M).length c2, .int .i64 (lng (segs cl M))] 54)) from (by (repeat (first | (with_reducible exact Keeps.refl _) | (with_reducible assumption) | (with_reducible refine Keeps.drewN ?_ _) | (with_reducible refine Keeps.drew ?_) | (with_reducible refine Keeps.alloc ?_ _) | (with_reducible refine Keeps.setNew ?_ ?_ _))) <;> (dsimp only; omega)))
  have hk0 := Keeps.refl (w.alloc (.cells #[.slice A1 M.length c1, .slice A2 (segs cl M).length c2, .int .i64 (lng (segs cl M))] 54))
  obtain ⟨hm1, hkm⟩ := segs_pos hk
  have KF := Lib.hid (fun w' (hq : Keeps w w') => point_any cl M A1 A2 c1 c2 f w' (hP.keep hq) (hI.keep hq) hk hm hf hf2)
  have KT := Lib.hid (fun w' (hq : Keeps w w') => point_any cl M A1 A2 c1 c2 t w' (hP.keep hq) (hI.keep hq) hk hm ht ht2)
  have HP := Lib.hid hP
  have HI := Lib.hid hI
  have HG := Lib.hid (fun j (h : j < (segs cl M).length) => ats_get (segs cl M) j h)
  have HC := Lib.hid (cutTo_len (segs cl M) M f t)
  have HL := Lib.hid (show ∀ k, k = (segs cl M).length → cutL (segs cl M) M f t = addL (cutTo (segs cl M) M f t k) (ptF (segs cl M) t) from fun k h => by rw [h]; rfl)
  have HS0 := Lib.hid (show cutTo (segs cl M) M f t 0 = [ptF (segs cl M) f] from rfl)
  have HSS := Lib.hid (show ∀ j, cutTo (segs cl M) M f t (j + 1) = if f < lng ((segs cl M).take j) ∧ lng ((segs cl M).take j) < t then addL (cutTo (segs cl M) M f t j) (M.getD j pt0) else cutTo (segs cl M) M f t j from fun _ => rfl)
  clear hP hI
  generalize cutL (segs cl M) M f t = R at *
  generalize cutTo (segs cl M) M f t = T at *
  generalize hlS : lng (segs cl M) = lS at *
  generalize hS : segs cl M = S at *
  clear hS hlS
  generalize hkk : S.length = k at *
  replace hkk := Lib.hid hkk
  generalize ptF S f = pf at *
  generalize ptF S t = pt at *
  unfold ptA at KF KT
  go_enter Try.func40, Try.ntmps40
  obtain ⟨y0, y1, y2, y3, y4, y5⟩ := HS.out _ hk0
  go_wp2_with (go_at_call 56; (with_reducible refine (KF.out _ HB.out).mono ?_); rintro e w1 ⟨rfl, hk1⟩; obtain ⟨z0, z1, z2, z3, z4, z5⟩ := HS.out _ hk1; have hs1 : w.heap.size < w1.heap.size := (by have := hk1.size; simp at this; omega))
  clear y0 y1 y2 y3 y4 y5 z0 z1 z2 z3 z4 z5
  have hO0 : OutB ((w1.alloc (.cells #[.int .i64 pf.1, .int .i64 pf.2] 50)).alloc (.cells #[.slice (some ⟨w1.heap.size, 0, none⟩) 1 1] 22)) (w1.heap.size + 1) w1.heap.size (T 0) := by
    rw [HS0.out]
    refine ⟨w1.heap.size, 1, ?_, ?_⟩
    · have := BoxN.new (w1.alloc (.cells #[.int .i64 pf.1, .int .i64 pf.2] 50)) 22 #[.slice (some ⟨w1.heap.size, 0, none⟩) 1 1]
      rw [World.size_alloc] at this
      exact this
    · exact row_keep (World.ownsRow_lit (base := w1.heap.size) (e := 50) (size := 2) w1 #[.int .i64 pf.1, .int .i64 pf.2] 1 (Nat.le_refl _) (by unfold maxLen; omega) (by simp)) ((Keeps.refl _).alloc _)
  have hk2 := (hk1.alloc (.cells #[.int .i64 pf.1, .int .i64 pf.2] 50)).alloc (.cells #[.slice (some ⟨w1.heap.size, 0, none⟩) 1 1] 22)
  have hs2 : ((w1.alloc (.cells #[.int .i64 pf.1, .int .i64 pf.2] 50)).alloc (.cells #[.slice (some ⟨w1.heap.size, 0, none⟩) 1 1] 22)).heap.size = w1.heap.size + 2 := by simp
  have hW0 : (w.alloc (.cells #[.slice A1 M.length c1, .slice A2 k c2, .int .i64 lS] 54)).heap.size = w.heap.size + 1 := by simp
  have KA := Lib.hid (fun O (p : Pt) w' (h : OutB w' (w1.heap.size + 1) w1.heap.size O) h1 h2 h3 => addp_any (w1.heap.size + 1) w1.heap.size O p w' h h1 h2 h3)
  unfold ptA at KA
  clear hk1
  generalize ((w1.alloc (.cells #[.int .i64 pf.1, .int .i64 pf.2] 50)).alloc (.cells #[.slice (some ⟨w1.heap.size, 0, none⟩) 1 1] 22)) = W2 at *
  generalize w1.heap.size = B at *
  clear w1
  generalize (w.alloc (.cells #[.slice A1 M.length c1, .slice A2 k c2, .int .i64 lS] 54)) = W0 at *
  go_loopw [19] (fun i wr => ∃ j : Nat, j ≤ k ∧ i = .int .i64 j ∧ Keeps W0 wr ∧ W2.heap.size ≤ wr.heap.size ∧ OutB wr (B + 1) B (T j)) (fun i _ => k - (intOf i).toNat)
  case atStart => exact ⟨0, by omega, rfl, hk2, Nat.le_refl _, hO0⟩
  case round =>
    clear hk2 hO0
    obtain ⟨j, hj, rfl, hkw, hsw, hO⟩ := hrel
    obtain ⟨y0, y1, y2, y3, y4, y5⟩ := HS.out _ hkw
    obtain ⟨t0, t1⟩ := HC.out j
    by_cases hlt : j < k
    · obtain ⟨b2, o2, rfl, hb2, hc2⟩ := HI.out.at hlt
      rw [HG.out j hlt] at hc2
      have c2' := ((HB.out.trans hkw).cell (p := ⟨b2, o2 + j, none⟩) hb2).trans hc2
      have hlt2 : (j : Int) < k := by omega
      have hjm : (j : Int) < M.length := by omega
      obtain ⟨b, o, rfl, hb, hx⟩ := HP.out.2.2.2.2 (by omega)
      obtain ⟨d0, d1⟩ := (hx j (by omega)).keep hb (HB.out.trans hkw)
      have hR := Lib.hid (HSS.out j)
      clear hc2 hx
      generalize lng (S.take j) = v at *
      by_cases h1 : f < v
      · by_cases h2 : v < t
        · have hR2 := Lib.hid (show T (j + 1) = addL (T j) (M.getD j pt0) by rw [hR.out, if_pos ⟨h1, h2⟩])
          have KA2 := Lib.hid (fun h => KA.out (T j) (M.getD j pt0) wr h t0 (by omega) (by omega))
          clear hR
          generalize M.getD j pt0 = p at *
          go_wp2_with (go_at_call 57; (with_reducible refine (KA2.out hO).mono ?_); rintro e w3 ⟨⟨v3, rfl⟩, hO3, hs3, hk3⟩; replace hO3 := Lib.hid hO3)
          go_roundw
          case rel => exact ⟨j + 1, by omega, by go_num, hk3 _ hkw (by omega) (by omega), by omega, by rw [hR2.out]; exact hO3.out⟩
          case measure => simp [intOf]; omega
        · have hR2 := Lib.hid (show T (j + 1) = T j by rw [hR.out, if_neg (fun h => h2 h.2)])
          go_wp2_with fail
          go_roundw
          case rel => exact ⟨j + 1, by omega, by go_num, hkw, by omega, by rw [hR2.out]; exact hO⟩
          case measure => simp [intOf]; omega
      · have hR2 := Lib.hid (show T (j + 1) = T j by rw [hR.out, if_neg (fun h => h1 h.1)])
        go_wp2_with fail
        go_roundw
        case rel => exact ⟨j + 1, by omega, by go_num, hkw, by omega, by rw [hR2.out]; exact hO⟩
        case measure => simp [intOf]; omega
    · obtain rfl : j = k := by omega
      have hRR := Lib.hid (HL.out j rfl)
      have KA2 := Lib.hid (fun w' h h3 => KA.out (T j) pt w' h t0 (by omega) h3)
      go_wp2_with (first | (go_at_call 56; (with_reducible refine (KT.out _ (HB.out.trans hkw)).mono ?_); rintro e w3 ⟨rfl, hk3⟩; have hO3 := hO.keep hk3; have hs3 := hk3.size) | (go_at_call 57; (with_reducible refine (KA2.out _ hO3 (by omega)).mono ?_); rintro e w4 ⟨⟨v4, rfl⟩, ⟨r4, cap4, hb4, hr4⟩, hs4, hk4⟩; have z4 := (hb4.cell 0).trans rfl; replace hr4 := Lib.hid hr4; clear hO3))
      go_ret
      have hk9 := hk4 _ (hkw.trans hk3) (by omega) (by omega)
      rw [hRR.out]
      exact ⟨_, _, rfl, own_base hr4.out (by omega), HB.out.trans hk9⟩
end Go.Proofs.Ytihmhpleiefodaa
