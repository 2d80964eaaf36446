/- DashSublineEnds of grisaillelaw25 returns true for all its arguments: every polyline and every three distances; no condition. -/
import Derived.Test.YtihmhpleiefodaaEe
import Derived.Test.YtihmhpleiefodaaOp
import Derived.Test.YtihmhpleiefodaaOz
namespace Go.Proofs.Ytihmhpleiefodaa.dashSublineEnds
open Go.RowKit Go.ChangeShapes Go.WideShapes Go.ChangeAt
set_option linter.unusedVariables false
open Go.Proofs.Ytihmhpleiefodaa
attribute [local go_sem ↓] Go.wp_at_zero Go.wp_at_succ
set_option linter.unusedSimpArgs false
set_option maxRecDepth 100000 in
set_option maxHeartbeats 8000000 in
theorem ends_open (cl : Bool) (hcl : Hid (cl = false)) (A : Option Addr) (n c : Nat) (L : List Pt) (f m t : Int) (w : World) (h : Pts w A n c L) (a0 : -9223372036854775808 ≤ f) (a1 : f ≤ 9223372036854775807) (b0 : -9223372036854775808 ≤ m) (b1 : m ≤ 9223372036854775807) (d0 : -9223372036854775808 ≤ t) (d1 : t ≤ 9223372036854775807) :
    Calls Try.prog 9 #[.agg #[.slice A n c, .bool cl], .int .i64 f, .int .i64 m, .int .i64 t] w fun e w' => e = .returned (.bool true) ∧ Below w.heap.size w w' := by
  have HS := Lib.hid (show ∀ w', Keeps (w.alloc (.cells #[.slice A n c, .bool cl] 24)) w' → w'.cell? ⟨w.heap.size, 0, none⟩ = some (.slice A n c) ∧ w'.frozen? ⟨w.heap.size, 0, none⟩ = false ∧ w'.cell? ⟨w.heap.size, 1, none⟩ = some (.bool cl) ∧ w'.frozen? ⟨w.heap.size, 1, none⟩ = false from fun w' hk => ⟨(hk.cell (p := ⟨w.heap.size, 0, none⟩) (by first | (simp; done) | (simp; omega))).trans (by simp [go_sem]), (hk.frozen (p := ⟨w.heap.size, 0, none⟩) (by first | (simp; done) | (simp; omega))).trans (by simp [go_sem]), (hk.cell (p := ⟨w.heap.size, 1, none⟩) (by first | (simp; done) | (simp; omega))).trans (by simp [go_sem]), (hk.frozen (p := ⟨w.heap.size, 1, none⟩) (by first | (simp; done) | (simp; omega))).trans (by simp [go_sem])⟩)
  have HB := Lib.hid (show Keeps w (w.alloc (.cells #[.slice A n c, .bool cl] 24)) from (by (repeat (first | (with_reducible exact Keeps.refl _) | (with_reducible assumption) | (with_reducible refine Keeps.drewN ?_ _) | (with_reducible refine Keeps.drew ?_) | (with_reducible refine Keeps.alloc ?_ _) | (with_reducible refine Keeps.setNew ?_ ?_ _))) <;> (dsimp only; omega)))
  have hk0 := Keeps.refl (w.alloc (.cells #[.slice A n c, .bool cl] 24))
  have KF := Lib.hid (few_any cl A n c 0 0 0 0 0 none 0 0)
  have KX := Lib.hid example25_any
  cases hf : fewB n 0 with
  | false =>
    rw [hf] at KF
    clear hf h
    go_enter Try.func9, Try.ntmps9
    obtain ⟨y0, y1, y2, y3⟩ := HS.out _ hk0
    go_wp2_with (first | (go_at_call 10; (with_reducible refine (KF.out _).mono ?_); rintro e w1 ⟨rfl, hk1⟩) | (go_at_call 11; (with_reducible refine (KX.out _).mono ?_); rintro e w2 ⟨rfl, hk2⟩))
    go_ret
    exact ⟨rfl, (HB.out.trans hk1).trans hk2⟩
  | true =>
    have hn : n ≤ 60 := by unfold fewB at hf; simp only [Bool.and_eq_true, decide_eq_true_eq] at hf; exact hf.1
    rw [hf] at KF
    clear hf
    have hl := h.1
    have KL := Lib.hid (fun w' (hk : Keeps w w') => dlen_any cl A n c L w' (h.keep hk) (by omega))
    have KS0 := Lib.hid (fun w' (hk : Keeps w w') => sublP_any cl A n c L 0 (lenP cl L) w' (h.keep hk) (by omega))
    have KD := Lib.hid (fun w' (hk : Keeps w w') => rdedup_any cl A n c L w' (h.keep hk) (by omega))
    have KS1 := Lib.hid (fun w' (hk : Keeps w w') => subl_any cl A n c L f m w' (h.keep hk) (by omega))
    have KS2 := Lib.hid (fun w' (hk : Keeps w w') => subl_any cl A n c L m t w' (h.keep hk) (by omega))
    have ok1 := Lib.hid (subV_ok cl h.2.2.2.1 f m)
    have ok2 := Lib.hid (subV_ok cl h.2.2.2.1 m t)
    have hEn := Lib.hid (fun (h1 : 0 < (subV cl L f m).length) (h2 : 0 < (subV cl L m t).length) => (subV_last h1).trans (subV_head h2).symm)
    have hnu := dedC_len cl L
    by_cases hz : lenP cl L = 0
    · rw [subV_zero hz] at KS0
      rw [hz] at KL KS0
      clear h hEn ok1 ok2 KS1 KS2
      generalize dedC cl L = Mm at *
      go_enter Try.func9, Try.ntmps9
      obtain ⟨y0, y1, y2, y3⟩ := HS.out _ hk0
      go_wp2_with (first | (go_at_call 10; (with_reducible refine (KF.out _).mono ?_); rintro e w1 ⟨rfl, hk1⟩; clear y0 y1 y2 y3; obtain ⟨y0, y1, y2, y3⟩ := HS.out _ hk1) | (go_at_call 12; (with_reducible refine (KL.out _ (HB.out.trans hk1)).mono ?_); rintro e w2 ⟨rfl, hk2⟩; replace hk2 := hk1.trans hk2; clear y0 y1 y2 y3; obtain ⟨y0, y1, y2, y3⟩ := HS.out _ hk2) | (go_at_call 22; (with_reducible refine (KS0.out _ (HB.out.trans hk2)).mono ?_); rintro e w3 ⟨A3, c3, rfl, hP3, hk3⟩; replace hP3 := Lib.hid hP3; replace hk3 := hk2.trans hk3; have hs3 : w.heap.size < w3.heap.size := (by have := hk3.size; simp at this; omega); clear y0 y1 y2 y3; obtain ⟨y0, y1, y2, y3⟩ := HS.out _ hk3) | (go_at_call 24; (with_reducible refine (KD.out _ ((HB.out.trans hk3).alloc _)).mono ?_); rintro e w4 ⟨A4, c4, rfl, hP4, hk4, -⟩; replace hP4 := Lib.hid hP4; have b3 := (BoxN.new _ _ _).keep hk4; have hs4 : w3.heap.size < w4.heap.size := b3.lt; have hs5 : w.heap.size < w4.heap.size := (by omega); have e30 := (b3.cell 0).trans rfl; have e31 := (b3.cell 1).trans rfl; have hP3 := Lib.hid (hP3.out.keep (((Keeps.refl _).alloc _).trans hk4)); replace hk4 := (hk3.alloc _).trans hk4; clear y0 y1 y2 y3; obtain ⟨y0, y1, y2, y3⟩ := HS.out _ hk4) | (go_at_call 11; (with_reducible refine (KX.out _).mono ?_); rintro e w9 ⟨rfl, hk9⟩) | fail "ARM")
      go_ret
      exact ⟨rfl, ((HB.out.trans hk4).alloc _).trans hk9⟩
    · have hR0 := Lib.hid (subV_whole hz)
      obtain ⟨hv, hzz, hzp, hsp⟩ := lenP_pos hz
      obtain ⟨hM1, -⟩ := segs_pos hsp
      have hzb : (lenP cl L == 0) = false := by rw [beq_eq_false_iff_ne]; exact hz
      have hLb : subV cl L f m = subV cl L f m := rfl
      clear h hzz hzp hsp hv hz hLb
      generalize lenP cl L = lp at *
      generalize subV cl L 0 lp = R0 at *
      generalize dedC cl L = Mm at *
      generalize subV cl L f m = R1 at *
      generalize subV cl L m t = R2 at *
      go_enter Try.func9, Try.ntmps9
      obtain ⟨y0, y1, y2, y3⟩ := HS.out _ hk0
      go_upto_region 9 with (first | (go_at_call 10; (with_reducible refine (KF.out _).mono ?_); rintro e w1 ⟨rfl, hk1⟩; clear y0 y1 y2 y3; obtain ⟨y0, y1, y2, y3⟩ := HS.out _ hk1) | (go_at_call 12; (with_reducible refine (KL.out _ (HB.out.trans hk1)).mono ?_); rintro e w2 ⟨rfl, hk2⟩; replace hk2 := hk1.trans hk2; clear y0 y1 y2 y3; obtain ⟨y0, y1, y2, y3⟩ := HS.out _ hk2) | (go_at_call 22; (with_reducible refine (KS0.out _ (HB.out.trans hk2)).mono ?_); rintro e w3 ⟨A3, c3, rfl, hP3, hk3⟩; replace hP3 := Lib.hid hP3; replace hk3 := hk2.trans hk3; have hs3 : w.heap.size < w3.heap.size := (by have := hk3.size; simp at this; omega); clear y0 y1 y2 y3; obtain ⟨y0, y1, y2, y3⟩ := HS.out _ hk3) | (go_at_call 24; (with_reducible refine (KD.out _ ((HB.out.trans hk3).alloc _)).mono ?_); rintro e w4 ⟨A4, c4, rfl, hP4, hk4, -⟩; replace hP4 := Lib.hid hP4; have b3 := (BoxN.new _ _ _).keep hk4; have hs4 : w3.heap.size < w4.heap.size := b3.lt; have hs5 : w.heap.size < w4.heap.size := (by omega); have e30 := (b3.cell 0).trans rfl; have e31 := (b3.cell 1).trans rfl; have hP3 := Lib.hid (hP3.out.keep (((Keeps.refl _).alloc _).trans hk4)); replace hk4 := (hk3.alloc _).trans hk4; clear y0 y1 y2 y3; obtain ⟨y0, y1, y2, y3⟩ := HS.out _ hk4) | (go_at_call 11; (with_reducible refine (KX.out _).mono ?_); rintro e w9 ⟨rfl, hk9⟩) | fail "ARM")
      have hkb := hk4.alloc (.cells #[.slice A4 Mm.length c4, .bool cl] 24)
      have g3 := b3.alloc (.cells #[.slice A4 Mm.length c4, .bool cl] 24)
      have g4 := BoxN.new w4 24 #[.slice A4 Mm.length c4, .bool cl]
      have hQ3 := hP3.out.keep ((Keeps.refl w4).alloc (.cells #[.slice A4 Mm.length c4, .bool cl] 24))
      have hQ4 := hP4.out.keep ((Keeps.refl w4).alloc (.cells #[.slice A4 Mm.length c4, .bool cl] 24))
      clear y0 y1 y2 y3 e30 e31 b3 hP3 hP4 hk4 KL KD KS0 KF
      generalize (w4.alloc (.cells #[.slice A4 Mm.length c4, .bool cl] 24)) = Wb at *
      generalize w4.heap.size = H4 at *
      generalize w3.heap.size = H3 at *
      obtain ⟨b3, o3, rfl, hb3, hx3⟩ := hQ3.2.2.2.2 (by rw [hR0.out]; split <;> (try rw [List.length_append]) <;> omega)
      obtain ⟨b4, o4, rfl, hb4, hx4⟩ := hQ4.2.2.2.2 (by omega)
      have hc3 := hQ3.2.1
      have hcm := hQ3.2.2.1
      have hpre := Lib.hid (fun (k : KW Wb) => Pts.take (hQ3.keep k.keeps) Mm.length (by rw [hR0.out]; split <;> (try rw [List.length_append]) <;> omega) (by omega))
      have hQ4h := Lib.hid (fun (k : KW Wb) => hQ4.keep k.keeps)
      have z0 := fun k : KW Wb => ((g3.keep k.keeps).cell 0).trans rfl
      have z1 := fun k : KW Wb => ((g3.keep k.keeps).cell 1).trans rfl
      have z2 := fun k : KW Wb => ((g4.keep k.keeps).cell 0).trans rfl
      have z3 := fun k : KW Wb => ((g4.keep k.keeps).cell 1).trans rfl
      have hmx := hQ4.max
      have hwn : IntKind.i64.wrap ((Mm.length : Int) + 1) = (Mm.length : Int) + 1 := i64_in _ (by omega)
      have hmc : (Mm.length : Int) ≤ c3 := by
        have : Mm.length ≤ R0.length := by rw [hR0.out]; split <;> (try rw [List.length_append]) <;> omega
        omega
      cases cl with
      | true => exact absurd hcl.out (by simp)
      | false =>
        replace hR0 := hR0.out
        rw [if_neg (by simp)] at hR0
        subst hR0
        have KR := Lib.hid (fun k : KW Wb => keepq (ring_any _ _ R0.length c3 c4 R0 k.w (hQ3.keep k.keeps) (hQ4h.out k)))
        have q0 : decide ((R0.length : Int) < (R0.length : Int)) = false := decide_eq_false (by omega)
        have q0n : decide (R0.length < R0.length) = false := decide_eq_false (by omega)
        have q1 : ((R0.length : Int) == (R0.length : Int)) = true := beq_self_eq_true _
        have q2 : ((R0.length : Int) != (R0.length : Int)) = false := by rw [bne, q1]; rfl
        clear hpre hx3 hx4 hQ4
        refine wp_region_kept (Wb) (by kernel_rfl) (by kernel_rfl) (Keeps.refl _) ?_
        repeat (first | go_big_quiet_skip | (go_big_quiet_want; go_big_quiet_op; first | go_big_quiet_on | go_big_quiet_call ((go_at_call 25; first | (with_reducible exact KR.out _)))))
        refine wpQuiet_nil ?_
        rintro w' ⟨k9, rfl⟩
        have hkc := k9.keeps
        generalize k9.w = Wc at hkc ⊢
        clear k9
        have hkd := hkb.trans hkc
        clear hkb hkc
        go_upto_region 11 with fail
        clear KR z0 z1 z2 z3 q0 q0n q1 q2
        go_cut [13, 14] (fun x y wx => ∃ (p q : Nat) (A5 : Option Addr) (c5 : Nat) (A6 : Option Addr) (c6 : Nat), x = .pointer (some ⟨p, 0, none⟩) ∧ y = .pointer (some ⟨q, 0, none⟩) ∧ wx.cell? ⟨p, 0, none⟩ = some (.slice A5 R1.length c5) ∧ wx.cell? ⟨q, 0, none⟩ = some (.slice A6 R2.length c6) ∧ Pts wx A5 R1.length c5 R1 ∧ Pts wx A6 R2.length c6 R2 ∧ Keeps (w.alloc (.cells #[.slice A n c, .bool false] 24)) wx)
        case first =>
          have HZ := Lib.hid (fun w' (hk : Keeps (w.alloc (.cells #[.slice A n c, .bool false] 24)) w') => (show w'.cell? ⟨w.heap.size, 0, none⟩ = some (.slice A n c) ∧ w'.cell? ⟨w.heap.size, 1, none⟩ = some (.bool false) from ⟨(HS.out _ hk).1, (HS.out _ hk).2.2.1⟩))
          have hsW : w.heap.size < Wc.heap.size := by have := hkd.size; simp at this; omega
          have hsWx := hkd.size
          clear hEn HS KX
          go_region_held3 (fun w' => w'.cell? ⟨w.heap.size, 0, none⟩ = some (.slice A n c) ∧ w'.cell? ⟨w.heap.size, 1, none⟩ = some (.bool false)) (first | exact HZ.out _ (by repeat (first | assumption | exact Keeps.refl _ | refine Keeps.alloc ?_ _ | refine Keeps.drewN ?_ _ | refine Keeps.drew ?_ | refine Keeps.setNew ?_ (by dsimp only; omega) _)) | go_keep) (first | (go_at_call 22; (with_reducible refine (KS1.out _ (HB.out.trans (by repeat (first | assumption | exact Keeps.refl _ | refine Keeps.alloc ?_ _ | refine Keeps.drewN ?_ _ | refine Keeps.drew ?_ | refine Keeps.setNew ?_ (by dsimp only; omega) _)))).mono ?_); rintro e w5 ⟨A5, c5, rfl, ho5, hk5⟩; have hnw5 := new_of_own ho5; replace ho5 := Lib.hid ho5; have hk5w : Keeps Wc w5 := Keeps.trans (by repeat (first | assumption | exact Keeps.refl _ | refine Keeps.alloc ?_ _ | refine Keeps.drewN ?_ _ | refine Keeps.drew ?_ | refine Keeps.setNew ?_ (by dsimp only; omega) _)) hk5; have hk5x : Keeps (w.alloc (.cells #[.slice A n c, .bool false] 24)) w5 := hkd.trans hk5w; have hs5 := hk5w.size; have hs5x := hk5x.size; (first | (have bx10 := BoxN.keep (BoxN.new _ _ _) hk5; (try simp at bx10); have bx10l := bx10.lt; have bx10c := (bx10.cell 0).trans rfl; have bx10d := (bx10.cell 1).trans rfl; have bx10f := bx10.frozen 0; have bx10g := bx10.frozen 1) | (have bx10 := BoxN.keep (BoxN.keep (BoxN.new _ _ _) (Keeps.drew (Keeps.refl _))) hk5; (try simp at bx10); have bx10l := bx10.lt; have bx10c := (bx10.cell 0).trans rfl; have bx10d := (bx10.cell 1).trans rfl; have bx10f := bx10.frozen 0; have bx10g := bx10.frozen 1) | skip); (first | (have bx11 := BoxN.keep (BoxN.alloc (BoxN.new _ _ _) _) hk5; (try simp at bx11); have bx11l := bx11.lt; have bx11c := (bx11.cell 0).trans rfl; have bx11d := (bx11.cell 1).trans rfl; have bx11f := bx11.frozen 0; have bx11g := bx11.frozen 1) | (have bx11 := BoxN.keep (BoxN.keep (BoxN.alloc (BoxN.new _ _ _) _) (Keeps.drew (Keeps.refl _))) hk5; (try simp at bx11); have bx11l := bx11.lt; have bx11c := (bx11.cell 0).trans rfl; have bx11d := (bx11.cell 1).trans rfl; have bx11f := bx11.frozen 0; have bx11g := bx11.frozen 1) | (have bx11 := BoxN.keep (BoxN.keep (BoxN.alloc (BoxN.keep (BoxN.new _ _ _) (Keeps.drew (Keeps.refl _))) _) (Keeps.drew (Keeps.refl _))) hk5; (try simp at bx11); have bx11l := bx11.lt; have bx11c := (bx11.cell 0).trans rfl; have bx11d := (bx11.cell 1).trans rfl; have bx11f := bx11.frozen 0; have bx11g := bx11.frozen 1) | (have bx11 := BoxN.keep (BoxN.alloc (BoxN.keep (BoxN.new _ _ _) (Keeps.drew (Keeps.refl _))) _) hk5; (try simp at bx11); have bx11l := bx11.lt; have bx11c := (bx11.cell 0).trans rfl; have bx11d := (bx11.cell 1).trans rfl; have bx11f := bx11.frozen 0; have bx11g := bx11.frozen 1) | skip);  clear KS1) | (go_at_call 22; (with_reducible refine (KS2.out _ (HB.out.trans (by repeat (first | assumption | exact Keeps.refl _ | refine Keeps.alloc ?_ _ | refine Keeps.drewN ?_ _ | refine Keeps.drew ?_ | refine Keeps.setNew ?_ (by dsimp only; omega) _)))).mono ?_); rintro e w6 ⟨A6, c6, rfl, ho6, hk6⟩; have hnw6 := new_of_own ho6; replace ho6 := Lib.hid ho6; have hk6w : Keeps Wc w6 := Keeps.trans (by repeat (first | assumption | exact Keeps.refl _ | refine Keeps.alloc ?_ _ | refine Keeps.drewN ?_ _ | refine Keeps.drew ?_ | refine Keeps.setNew ?_ (by dsimp only; omega) _)) hk6; have hk6x : Keeps (w.alloc (.cells #[.slice A n c, .bool false] 24)) w6 := hkd.trans hk6w; have hs6 := hk6w.size; have hs6x := hk6x.size; have hs56 := hk6.size; (try simp only [World.size_alloc] at hs56); (first | (have bx20 := BoxN.keep (BoxN.new _ _ _) hk6; (try simp at bx20); have bx20l := bx20.lt; have bx20c := (bx20.cell 0).trans rfl; have bx20d := (bx20.cell 1).trans rfl; have bx20f := bx20.frozen 0; have bx20g := bx20.frozen 1) | (have bx20 := BoxN.keep (BoxN.keep (BoxN.new _ _ _) (Keeps.drew (Keeps.refl _))) hk6; (try simp at bx20); have bx20l := bx20.lt; have bx20c := (bx20.cell 0).trans rfl; have bx20d := (bx20.cell 1).trans rfl; have bx20f := bx20.frozen 0; have bx20g := bx20.frozen 1) | skip); (first | (have bx21 := BoxN.keep (BoxN.alloc (BoxN.new _ _ _) _) hk6; (try simp at bx21); have bx21l := bx21.lt; have bx21c := (bx21.cell 0).trans rfl; have bx21d := (bx21.cell 1).trans rfl; have bx21f := bx21.frozen 0; have bx21g := bx21.frozen 1) | (have bx21 := BoxN.keep (BoxN.keep (BoxN.alloc (BoxN.new _ _ _) _) (Keeps.drew (Keeps.refl _))) hk6; (try simp at bx21); have bx21l := bx21.lt; have bx21c := (bx21.cell 0).trans rfl; have bx21d := (bx21.cell 1).trans rfl; have bx21f := bx21.frozen 0; have bx21g := bx21.frozen 1) | (have bx21 := BoxN.keep (BoxN.keep (BoxN.alloc (BoxN.keep (BoxN.new _ _ _) (Keeps.drew (Keeps.refl _))) _) (Keeps.drew (Keeps.refl _))) hk6; (try simp at bx21); have bx21l := bx21.lt; have bx21c := (bx21.cell 0).trans rfl; have bx21d := (bx21.cell 1).trans rfl; have bx21f := bx21.frozen 0; have bx21g := bx21.frozen 1) | (have bx21 := BoxN.keep (BoxN.alloc (BoxN.keep (BoxN.new _ _ _) (Keeps.drew (Keeps.refl _))) _) hk6; (try simp at bx21); have bx21l := bx21.lt; have bx21c := (bx21.cell 0).trans rfl; have bx21d := (bx21.cell 1).trans rfl; have bx21f := bx21.frozen 0; have bx21g := bx21.frozen 1) | skip); (first | (have bo0 := BoxN.keep bx10 (Keeps.trans (by repeat (first | assumption | exact Keeps.refl _ | refine Keeps.alloc ?_ _ | refine Keeps.drewN ?_ _ | refine Keeps.drew ?_ | refine Keeps.setNew ?_ (by dsimp only; omega) _)) hk6); have bo0l := bo0.lt; have bo0c := (bo0.cell 0).trans rfl; have bo0d := (bo0.cell 1).trans rfl; have bo0f := bo0.frozen 0; have bo0g := bo0.frozen 1) | skip); (first | (have bo1 := BoxN.keep bx11 (Keeps.trans (by repeat (first | assumption | exact Keeps.refl _ | refine Keeps.alloc ?_ _ | refine Keeps.drewN ?_ _ | refine Keeps.drew ?_ | refine Keeps.setNew ?_ (by dsimp only; omega) _)) hk6); have bo1l := bo1.lt; have bo1c := (bo1.cell 0).trans rfl; have bo1d := (bo1.cell 1).trans rfl; have bo1f := bo1.frozen 0; have bo1g := bo1.frozen 1) | skip);  clear KS2) | fail "ARM")
          all_goals (go_wp2_with fail)
          all_goals go_meet
          all_goals
            obtain ⟨_, _, j5, P5⟩ := Pts.of_own ho5.out rfl ok1.out
            cases j5
            obtain ⟨_, _, j6, P6⟩ := Pts.of_own ho6.out rfl ok2.out
            cases j6
            have P56 : Pts w6 A5 R1.length c5 R1 := P5.keep (Keeps.trans (by repeat (first | assumption | exact Keeps.refl _ | refine Keeps.alloc ?_ _ | refine Keeps.drewN ?_ _ | refine Keeps.drew ?_ | refine Keeps.setNew ?_ (by dsimp only; omega) _)) hk6)
            have lt5 : ∀ b o, A5 = some ⟨b, o, none⟩ → b < w5.heap.size := own_blt ho5.out
            have lt6 : ∀ b o, A6 = some ⟨b, o, none⟩ → b < w6.heap.size := own_blt ho6.out
            refine ⟨_, _, A5, c5, A6, c6, rfl, rfl, ?_, ?_, ?_, ?_, ?_⟩
            · first | (go_simp; done) | (simp [go_sem, *]; done) | fail "CELL1"
            · first | (go_simp; done) | (simp [go_sem, *]; done) | fail "CELL2"
            · repeat (first | with_reducible exact P56 | with_reducible refine Pts.keep ?_ (Keeps.alloc (Keeps.refl _) _) | ((with_reducible refine Pts.far ?_ ?_ _ _); rotate_left; (intro b o e; have q1 := hnw5 b o e; have q2 := lt5 b o e; (try simp at q1); (try simp at q2); (try simp only [World.size_alloc]); omega)))
            · repeat (first | with_reducible exact P6 | with_reducible refine Pts.keep ?_ (Keeps.alloc (Keeps.refl _) _) | ((with_reducible refine Pts.far ?_ ?_ _ _); rotate_left; (intro b o e; have q1 := hnw6 b o e; have q2 := lt6 b o e; (try simp at q1); (try simp at q2); (try simp only [World.size_alloc]); omega)))
            · exact (by repeat (first | assumption | exact Keeps.refl _ | refine Keeps.alloc ?_ _ | refine Keeps.drewN ?_ _ | refine Keeps.drew ?_ | refine Keeps.setNew ?_ (by dsimp only; omega) _))
        obtain ⟨p, q, A5, c5, A6, c6, rfl, rfl, e5, e6, hP5, hP6, hke⟩ := hcut
        rename World => W1
        clear hkd ok1 ok2
        by_cases r1 : R1.length = 0
        · have r1i : ((R1.length : Int) == 0) = true := by rw [r1]; rfl
          clear hP5 hP6 hEn r1
          go_wp2_with (go_at_call 11; (with_reducible refine (KX.out _).mono ?_); rintro e w9 ⟨rfl, hk9⟩)
          go_ret
          exact ⟨rfl, (HB.out.trans hke).trans hk9⟩
        · have r1i : ((R1.length : Int) == 0) = false := by simp only [beq_eq_false_iff_ne]; omega
          by_cases r2 : R2.length = 0
          · have r2i : ((R2.length : Int) == 0) = true := by rw [r2]; rfl
            clear hP5 hP6 hEn r1 r2
            go_wp2_with (go_at_call 11; (with_reducible refine (KX.out _).mono ?_); rintro e w9 ⟨rfl, hk9⟩)
            go_ret
            exact ⟨rfl, (HB.out.trans hke).trans hk9⟩
          · have r2i : ((R2.length : Int) == 0) = false := by simp only [beq_eq_false_iff_ne]; omega
            have hEq := hEn.out (by omega) (by omega)
            have hmx1 := hP5.max
            obtain ⟨b5, o5, rfl, hb5, hx5⟩ := hP5.2.2.2.2 (by omega)
            obtain ⟨b6, o6, rfl, hb6, hx6⟩ := hP6.2.2.2.2 (by omega)
            obtain ⟨k, hk⟩ : ∃ k : Nat, (R1.length : Int) - 1 = k := ⟨R1.length - 1, by omega⟩
            have hkn : R1.length - 1 = k := by omega
            rw [hkn] at hEq
            obtain ⟨u0, u1⟩ := hx5 k (by omega)
            obtain ⟨u2, u3⟩ := hx6 0 (by omega)
            rw [hEq] at u0 u1
            simp only [Nat.zero_mul, Nat.add_zero] at u2 u3
            have hwk : IntKind.i64.wrap (k : Int) = k := i64_in _ (by omega)
            have hwk2 : IntKind.i64.wrap ((R1.length : Int) - 1) = k := by rw [hk]; exact hwk
            have hkl : (k : Int) < R1.length := by omega
            have hkln : k < R1.length := by omega
            have hrl : (0 : Int) < R2.length := by omega
            have hrln : 0 < R2.length := by omega
            have hgd := ptGuard
            have heq := fun w => ptEql (R2.getD 0 pt0).1 (R2.getD 0 pt0).2 (R2.getD 0 pt0).1 (R2.getD 0 pt0).2 w
            simp only [beq_self_eq_true, Bool.and_self] at heq
            clear hkn hEn hEq hP5 hP6 hx5 hx6
            generalize R2.getD 0 pt0 = x9 at *
            have hp5 : p < W1.heap.size := World.block_lt_of_cell? W1 _ e5
            have hp6 : q < W1.heap.size := World.block_lt_of_cell? W1 _ e6
            have v0 := fun k : KW W1 => (k.keeps.cell (p := ⟨p, 0, none⟩) hp5).trans e5
            have v1 := fun k : KW W1 => (k.keeps.cell (p := ⟨q, 0, none⟩) hp6).trans e6
            have v2 := fun k' : KW W1 => (k'.keeps.cell (p := ⟨b5, o5 + k * 2, none⟩) hb5).trans u0
            have v3 := fun k' : KW W1 => (k'.keeps.cell (p := ⟨b5, o5 + k * 2 + 1, none⟩) hb5).trans u1
            have v4 := fun k' : KW W1 => (k'.keeps.cell (p := ⟨b6, o6, none⟩) hb6).trans u2
            have v5 := fun k' : KW W1 => (k'.keeps.cell (p := ⟨b6, o6 + 1, none⟩) hb6).trans u3
            have KE := Lib.hid (fun k' : KW W1 => keepq (example25_any k'.w))
            clear r1 r2 u0 u1 u2 u3
            go_upto_region 14 with fail
            clear e5 e6
            refine wp_region_kept (W1) (by kernel_rfl) (by kernel_rfl) (Keeps.refl _) ?_
            repeat (first | go_big_quiet_skip | (go_big_quiet_want; go_big_quiet_op; first | go_big_quiet_on | go_big_quiet_call ((go_at_call 11; first | (with_reducible exact KE.out _)))))
            refine wpQuiet_nil ?_
            rintro w' ⟨k9, rfl⟩
            have hk := k9.keeps
            generalize k9.w = w9 at hk ⊢
            clear k9
            go_wp2_with fail
            go_ret
            exact ⟨rfl, (HB.out.trans hke).trans hk⟩
theorem walk (cl : Bool) (A : Option Addr) (n c : Nat) (L : List Pt) (f m t : Int) (w : World) (h : Pts w A n c L) (a0 : -9223372036854775808 ≤ f) (a1 : f ≤ 9223372036854775807) (b0 : -9223372036854775808 ≤ m) (b1 : m ≤ 9223372036854775807) (d0 : -9223372036854775808 ≤ t) (d1 : t ≤ 9223372036854775807) :
    Calls Try.prog 9 #[.agg #[.slice A n c, .bool cl], .int .i64 f, .int .i64 m, .int .i64 t] w fun e w' => e = .returned (.bool true) ∧ Below w.heap.size w w' := by
  cases cl with
  | true => exact ends_closed true (Lib.hid rfl) A n c L f m t w h a0 a1 b0 b1 d0 d1
  | false => exact ends_open false (Lib.hid rfl) A n c L f m t w h a0 a1 b0 b1 d0 d1
set_option maxRecDepth 100000 in
theorem lifted (os : Os) (started : os.Started) (H : Type) (enc : TypeId × Value → H) :
    ReturnsInHanded {} Try.checked os 9 .any (Rows.dashSublineEndsSpec.pre6 enc Try.prog Try.f9 Rows.dashSublineEndsRow.domain false) (Rows.dashSublineEndsSpec.post enc Try.prog Try.f9 false true false false) := by
  refine returnsInHanded_of_change (C := Try.checked) Try.own started (by kernel_rfl) Try.func9
    (ChangeSpec.witness6 (enc := enc) (C := Try.checked) false ⟨#[], #[.agg #[.slice none 0 0, .bool false], .int .i64 0, .int .i64 0, .int .i64 0], []⟩ 8 (by kernel_rfl) (by kernel_rfl) (by kernel_rfl) (by kernel_rfl)) ?_
  intro W base args ds gs before hval0 hW hcnd _
  have hval : ∀ (j : Nat) t v, Try.f9.params[j]? = some t → args[j]? = some v → Value.okWide Try.prog W .any base t v := hval0
  have hW' := hW
  obtain ⟨p, q, hA0, hV, rfl, hfz, hnd⟩ := hW
  have hA : DataW.TrodAll enc Try.prog W 0 (fun _ => true) true Try.f9.params.toList args.toList ds p := hA0
  have hAll := hA
  rw [Try.params9] at hA hval
  obtain ⟨v0, vs0, d0, ds0, p0, q0, hargs, rfl, rfl, h0, r0⟩ := trodAll_cons hA
  obtain ⟨v1, vs1, d1, ds1, p1, q1, rfl, rfl, rfl, h1, r1⟩ := trodAll_cons r0
  obtain ⟨v2, vs2, d2, ds2, p2, q2, rfl, rfl, rfl, h2, r2⟩ := trodAll_cons r1
  obtain ⟨v3, vs3, d3, ds3, p3, q3, rfl, rfl, rfl, h3, r3⟩ := trodAll_cons r2
  obtain ⟨rfl, rfl, rfl⟩ := trodAll_nil r3
  obtain rfl : args = #[v0, v1, v2, v3] := by cases args; simp_all
  obtain ⟨rfl, rfl⟩ := trodVars_none hV
  obtain ⟨A0, n0, c0, L0, cl0, rfl, P0⟩ := open_poly (hval 0 24 v0 rfl rfl) h0
  obtain ⟨a1, rfl, _, _, w1⟩ := open_int Try.underlying3 (hval 1 3 v1 rfl rfl) h1
  obtain ⟨l1, u1⟩ := bounds_i64 w1
  obtain ⟨a2, rfl, _, _, w2⟩ := open_int Try.underlying3 (hval 2 3 v2 rfl rfl) h2
  obtain ⟨l2, u2⟩ := bounds_i64 w2
  obtain ⟨a3, rfl, _, _, w3⟩ := open_int Try.underlying3 (hval 3 3 v3 rfl rfl) h3
  obtain ⟨l3, u3⟩ := bounds_i64 w3
  clear hA0 hval0
  refine (walk cl0 A0 n0 c0 L0 a1 a2 a3 W P0 l1 u1 l2 u2 l3 u3).mono fun e W' ⟨he, bel⟩ => ?_
  subst he
  exact ⟨_, rfl, _, _, _, [], _, [], hW', trodAll_mk1 (shut_bool Try.underlying4 _), below_trodAll Try.laidOut bel (reads_of (by kernel_rfl)) hAll, rfl, bel.frame _, fun h => by cases h⟩

theorem over : Rows.dashSublineEndsRow.holds Try.pinned (OpenSpec.ofChange Rows.dashSublineEndsSpec) :=
  OpenClaim.holds_of_wide 9 Try.f9 rfl rfl rfl rfl rfl rfl rfl ⟨rfl, rfl, rfl, rfl, rfl⟩ rfl rfl rfl rfl rfl (by kernel_rfl) Try.func9 (by kernel_rfl)
    (of_decide_eq_true (by kernel_rfl)) (by unfold Func.isWrapper; first | (rw [if_pos (by decide +kernel)]; kernel_rfl) | (rw [if_neg (by decide +kernel)]; exact ⟨rfl, rfl⟩))
    (fun os started H enc _ => lifted os started H enc)

/-- The statement. -/
theorem proved : Rows.DashSublineEndsSaid := over
#print axioms proved
end Go.Proofs.Ytihmhpleiefodaa.dashSublineEnds
