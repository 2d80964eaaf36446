/- Contracts of reference 16: Valid, next, DoubleArea, Ring. -/
import Derived.Test.YtgkdcipebefmhaaQf
namespace Go.Proofs.Ytgkdcipebefmhaa
open Go.RowKit
attribute [local go_sem ↓] Go.wp_at_zero Go.wp_at_succ
set_option linter.unusedVariables false
set_option linter.unusedSimpArgs false
set_option maxRecDepth 100000 in
set_option maxHeartbeats 2000000 in
theorem rpvalid_any (A : Option Addr) (n c : Nat) (LL : List (List Pt)) (w : World) (h : Rws w A n c LL) :
    Calls Try.prog 43 #[.slice A n c] w fun e w' => e = .returned (.bool (vRows 0 LL)) ∧ Keeps w w' := by
  have hl := h.1
  have hmx := h.max
  have HS := Lib.hid h
  clear h
  go_enter Try.func43, Try.ntmps43
  go_wp2_with fail
  go_loopw [3, 4] (fun a i wr => ∃ (j x : Nat), j ≤ n ∧ i = .int .i64 j ∧ a = .int .i64 x ∧ x ≤ 4096 ∧ Keeps w wr ∧ Hid (vRows 0 LL = vRows x (LL.drop j))) (fun _ i _ => n - (intOf i).toNat)
  case atStart => exact ⟨0, 0, by omega, rfl, rfl, by omega, Keeps.refl _, Lib.hid rfl⟩
  case round =>
    obtain ⟨j, x, hj, rfl, rfl, hx, hkw, hR⟩ := hrel
    by_cases hlt : j < n
    · rename World => wo
      obtain ⟨b, o, rfl, hb, hc⟩ := HS.out.2.2.2 (by omega)
      obtain ⟨Ak, nk, ck, c0, hP, hnk⟩ := hc j hlt
      have c00 := Lib.hid c0
      have c0 := (hkw.cell hb).trans c0
      have hnl := hP.1
      have hnm := hP.2.1
      have hD := Lib.hid (drop_getDQ LL j [] (by omega))
      rw [hD.out] at hR
      have hni : (nk : Int) ≤ 4611686018427387904 := by omega
      have hxi : (x : Int) ≤ 4096 := by omega
      have hP := Lib.hid hP
      clear hc
      generalize LL.getD j [] = s at *
      have hlt2 : (j : Int) < n := by omega
      by_cases hbig : 4096 < x + nk
      · have hf := Lib.hid (show vRows 0 LL = false by rw [hR.out, vRows, if_pos (Or.inl (by omega))])
        have hbig2 : 4096 - (x : Int) < nk := by omega
        clear hbig
        go_wp2_with fail
        go_ret
        exact ⟨ret_bool hf.out.symm, hkw⟩
      · have hbig2 : (nk : Int) ≤ 4096 - (x : Int) := by omega
        have hbig3 : (x : Int) + nk ≤ 4096 := by omega
        have hx2 : x + nk ≤ 4096 := by omega
        clear hbig
        have hR1 := Lib.hid (show s.all vP = false → vRows 0 LL = false from fun h => by rw [hR.out, vRows, if_pos (Or.inr h)])
        have hR2 := Lib.hid (show s.all vP = true → vRows 0 LL = vRows (x + nk) (LL.drop (j + 1)) from fun h => by rw [hR.out, vRows, if_neg (by rw [h]; simp; omega), hnl])
        clear hR
        go_wp2_with fail
        go_loopw [5] (fun i wr => ∃ k : Nat, k ≤ nk ∧ i = .int .i64 k ∧ Keeps w wr ∧ Hid (s.all vP = (s.drop k).all vP)) (fun i _ => nk - (intOf i).toNat)
        case atStart => exact ⟨0, by omega, rfl, hkw, Lib.hid rfl⟩
        case round =>
          clear hkw c0
          obtain ⟨k, hk, rfl, hkw, hV⟩ := hrel
          have c0 := (hkw.cell hb).trans c00.out
          by_cases hlk : k < nk
          · obtain ⟨b2, o2, rfl, hb2, hc2⟩ := hP.out.2.2.2.2 (by omega)
            obtain ⟨d0, d1⟩ := (hc2 k hlk).keep hb2 hkw
            have K := Lib.hid (fun w => rvalid_any (s.getD k pt0).1 (s.getD k pt0).2 w)
            have hE := Lib.hid (show (s.drop k).all vP = (vP (s.getD k pt0) && (s.drop (k + 1)).all vP) by rw [drop_getDQ s k pt0 (by omega), List.all_cons])
            rw [show validB (s.getD k pt0).1 (s.getD k pt0).2 = vP (s.getD k pt0) from rfl] at K
            have hlk2 : (k : Int) < nk := by omega
            clear hc2
            generalize s.getD k pt0 = p at *
            cases hv : vP p with
            | false =>
              rw [hv] at K
              have hf := Lib.hid (hR1.out (by rw [hV.out, hE.out, hv]; rfl))
              clear hv
              go_wp2_with (go_at_call 59; (with_reducible refine (K.out _).mono ?_); rintro e w1 ⟨rfl, hk⟩)
              go_ret
              exact ⟨ret_bool hf.out.symm, hkw.trans hk⟩
            | true =>
              rw [hv] at K
              have hV2 := Lib.hid (show s.all vP = (s.drop (k + 1)).all vP by rw [hV.out, hE.out, hv]; rfl)
              clear hv
              go_wp2_with (go_at_call 59; (with_reducible refine (K.out _).mono ?_); rintro e w1 ⟨rfl, hk⟩)
              go_roundw
              case rel => exact ⟨k + 1, by omega, by go_num, hkw.trans hk, hV2⟩
              case measure => simp [intOf]; omega
          · obtain rfl : k = nk := by omega
            have hR3 := Lib.hid (hR2.out (by rw [hV.out, List.drop_of_length_le (by omega)]; rfl))
            go_wp2_with fail
            go_roundw
            case rel => exact ⟨j + 1, x + k, by omega, by go_num, by go_num, hx2, hkw, hR3⟩
            case measure => simp [intOf]; omega
    · obtain rfl : j = n := by omega
      have hf := Lib.hid (show vRows 0 LL = true by rw [hR.out, List.drop_of_length_le (by omega)]; rfl)
      go_wp2_with fail
      go_ret
      exact ⟨ret_bool hf.out.symm, hkw⟩
set_option maxHeartbeats 1000000 in
theorem rnext_any (A : Option Addr) (n c j : Nat) (L : List Pt) (w : World) (h : Pts w A n c L) (hj : j < n) (hn : n ≤ 4096) :
    Calls Try.prog 45 #[.slice A n c, .int .i64 (j : Int)] w fun e w' => e = .returned (.agg #[.int .i64 (nxt L j).1, .int .i64 (nxt L j).2]) ∧ Keeps w w' := by
  have hl := h.1
  obtain ⟨b, o, rfl, hb, hC⟩ := h.2.2.2.2 (by omega)
  obtain ⟨m, hm⟩ : ∃ m, m = (j + 1) % n := ⟨_, rfl⟩
  have hmn : m < n := hm ▸ Nat.mod_lt _ (by omega)
  have e : nxt L j = L.getD m pt0 := by unfold nxt; rw [hl, ← hm]
  rw [e]
  obtain ⟨c0, c1⟩ := hC m hmn
  have hmi : (m : Int) < n := by omega
  have hni : (n : Int) ≤ 4096 := by omega
  have hji : (j : Int) < n := by omega
  have r2 : ((j : Int) + 1) % (n : Int) = (m : Int) := by rw [hm]; rfl
  have r6 : ¬ n = 0 := by omega
  clear hC e hm h hl
  generalize L.getD m pt0 = p at *
  go_enter Try.func45, Try.ntmps45
  go_wp2_with fail
  exact bodyPost_ret (v := .agg #[.int .i64 p.1, .int .i64 p.2]) (by simp [results, Try.results45, go_sem, *]) rfl ⟨rfl, (by (repeat (first | (with_reducible exact Keeps.refl _) | (with_reducible assumption) | (with_reducible refine Keeps.drewN ?_ _) | (with_reducible refine Keeps.drew ?_) | (with_reducible refine Keeps.alloc ?_ _) | (with_reducible refine Keeps.setNew ?_ ?_ _))) <;> (dsimp only; omega))⟩
set_option maxRecDepth 100000 in
set_option maxHeartbeats 2000000 in
theorem rdarea_any (A : Option Addr) (n c : Nat) (L : List Pt) (w : World) (h : Pts w A n c L) (hn : n ≤ 4611686018427387904) :
    Calls Try.prog 17 #[.slice A n c] w fun e w' => e = .returned (.int .i64 (area L)) ∧ Keeps w w' := by
  have hl := h.1
  have HR := Lib.hid (fun t => rpvalid_any _ 1 1 [L] _ (Rws.one h hn t))
  rw [vRows_one] at HR
  have HP := Lib.hid h
  clear h
  cases hv : validL L with
  | false =>
    have hA := Lib.hid (area_no hv)
    rw [hv] at HR
    go_enter Try.func17, Try.ntmps17
    go_wp2_with (go_at_call 43; (with_reducible refine (HR.out _).mono ?_); rintro e w1 ⟨rfl, hk⟩)
    go_ret
    exact ⟨ret_i64 hA.out.symm, ((Keeps.refl _).alloc _).trans hk⟩
  | true =>
    obtain ⟨hA, hn2⟩ := area_yes hv
    have hA := Lib.hid hA
    have hni : (n : Int) ≤ 4096 := by omega
    rw [hv] at HR
    clear hn hv
    go_enter Try.func17, Try.ntmps17
    go_wp2_with (go_at_call 43; (with_reducible refine (HR.out _).mono ?_); rintro e w1 ⟨rfl, hk⟩; have hk := Lib.hid (((Keeps.refl w).alloc _).trans hk))
    go_loopw [3, 4] (fun s i wr => ∃ (j : Nat), j ≤ n ∧ i = .int .i64 j ∧ Keeps w wr ∧ s = .int .i64 (areaTo L j)) (fun _ i _ => n - (intOf i).toNat)
    case atStart => exact ⟨0, by omega, rfl, hk.out, rfl⟩
    case round =>
      clear hk HR
      obtain ⟨j, hj, rfl, hkw, rfl⟩ := hrel
      by_cases hlt : j < n
      · obtain ⟨b, o, rfl, hb, hC⟩ := HP.out.2.2.2.2 (by omega)
        have KN := Lib.hid (fun w' (hk : Keeps wr w') => keepk (rnext_any _ n c j L w' (HP.out.keep (hkw.trans hk)) hlt (by omega)) hk)
        have KX := Lib.hid (fun w' (hk : Keeps wr w') => keepk (rcross_any (L.getD j pt0).1 (L.getD j pt0).2 (nxt L j).1 (nxt L j).2 w') hk)
        rw [show crossI (hc (L.getD j pt0).1) (hc (L.getD j pt0).2) (hc (nxt L j).1) (hc (nxt L j).2) = crP (L.getD j pt0) (nxt L j) from rfl] at KX
        have hA1 := Lib.hid (show areaTo L (j + 1) = areaTo L j + crP (L.getD j pt0) (nxt L j) from rfl)
        have hb1 := areaTo_bd L j
        have hb2 := crP_bd (L.getD j pt0) (nxt L j)
        have hcj := hC j hlt
        have HS := Lib.hid (show ∀ w', Keeps wr w' → w'.cell? ⟨b, o + j * 2, none⟩ = some (.int .i64 (L.getD j pt0).1) ∧ w'.cell? ⟨b, o + j * 2 + 1, none⟩ = some (.int .i64 (L.getD j pt0).2) from fun w' hk => hcj.keep hb (hkw.trans hk))
        have hlt2 : (j : Int) < n := by omega
        have hk0 := Keeps.refl wr
        have hb3 : -9007199254740992 ≤ areaTo L j ∧ areaTo L j ≤ 9007199254740992 := by omega
        clear hC hcj hb1
        generalize areaTo L j = s at *
        generalize crP (L.getD j pt0) (nxt L j) = x at *
        generalize L.getD j pt0 = p at *
        generalize nxt L j = q at *
        have hs : IntKind.i64.wrap (s + x) = s + x := IntWalk.i64_in _ (by omega)
        obtain ⟨y0, y1⟩ := HS.out _ hk0
        go_wp2_with fail
        go_region_held3 (fun w' => w'.cell? ⟨b, o + j * 2, none⟩ = some (.int .i64 p.1) ∧ w'.cell? ⟨b, o + j * 2 + 1, none⟩ = some (.int .i64 p.2)) (first | exact HS.out _ (by assumption) | exact HS.out _ (Keeps.drew (by assumption)) | exact HS.out _ (Keeps.drewN (by assumption) _) | go_keep)
          (first | (go_at_call 45; (with_reducible refine (KN.out _ (by first | assumption | exact Keeps.drew (by assumption) | exact Keeps.drewN (by assumption) _)).mono ?_); rintro e w1 ⟨rfl, hk⟩) | (go_at_call 44; (with_reducible refine (KX.out _ (by first | assumption | exact Keeps.drew (by assumption) | exact Keeps.drewN (by assumption) _)).mono ?_); rintro e w2 ⟨rfl, hk⟩))
        all_goals
          go_wp2_with fail
          go_roundw
          case rel => exact ⟨j + 1, by omega, by go_num, hkw.trans (by (repeat (first | (with_reducible exact Keeps.refl _) | (with_reducible assumption) | (with_reducible refine Keeps.drewN ?_ _) | (with_reducible refine Keeps.drew ?_) | (with_reducible refine Keeps.alloc ?_ _) | (with_reducible refine Keeps.setNew ?_ ?_ _))) <;> (dsimp only; omega)), by rw [hA1.out]⟩
          case measure => simp [intOf]; omega
      · obtain rfl : j = n := by omega
        go_wp2_with fail
        go_ret
        exact ⟨ret_i64 (by rw [hA.out, hl]), hkw⟩
set_option maxRecDepth 100000 in
set_option maxHeartbeats 2000000 in
theorem ring_any (A B : Option Addr) (n c c2 : Nat) (L : List Pt) (w : World) (h : Pts w A n c L) (h2 : Pts w B n c2 L) :
    Calls Try.prog 18 #[.slice A n c, .slice B n c2] w fun e w' => e = .returned (.bool true) ∧ Keeps w w' := by
  have g3 := ptGuard
  have g5 := ptNeq
  have hmx := h.max
  have HA := Lib.hid h.2.2.2.2
  have HB := Lib.hid h2.2.2.2.2
  clear h h2
  go_enter Try.func18, Try.ntmps18
  go_wp2_with fail
  go_loopw [5] (fun i wr => ∃ j : Nat, j ≤ n ∧ i = .int .i64 j ∧ Keeps w wr) (fun i _ => n - (intOf i).toNat)
  case atStart => exact ⟨0, by omega, rfl, Keeps.refl _⟩
  case round =>
    obtain ⟨j, hj, rfl, hkw⟩ := hrel
    by_cases hlt : j < n
    · obtain ⟨b1, o1, rfl, hb1, hc1⟩ := HA.out (by omega)
      obtain ⟨b2, o2, rfl, hb2, hc2⟩ := HB.out (by omega)
      obtain ⟨c0, c1⟩ := (hc1 j hlt).keep hb1 hkw
      obtain ⟨d0, d1⟩ := (hc2 j hlt).keep hb2 hkw
      clear hc1 hc2 HA HB
      have hlt2 : (j : Int) < n := by omega
      generalize L.getD j pt0 = y at *
      have q1 : (y.1 == y.1) = true := beq_self_eq_true _
      have q2 : (y.2 == y.2) = true := beq_self_eq_true _
      go_wp2_with fail
      go_quiet (fail)
      go_wp2_with fail
      go_roundw
      case rel => exact ⟨j + 1, by omega, by go_num, hkw.drewN _⟩
      case measure => simp [intOf]; omega
    · obtain rfl : j = n := by omega
      go_wp2_with fail
      go_ret
      exact ⟨rfl, hkw⟩
end Go.Proofs.Ytgkdcipebefmhaa
