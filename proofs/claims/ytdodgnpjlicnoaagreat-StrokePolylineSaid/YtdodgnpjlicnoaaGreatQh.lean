/- Contracts of reference 16: copied, Orient. -/
import Derived.Test.YtdodgnpjlicnoaaGreatQf
namespace Go.Proofs.YtdodgnpjlicnoaaGreat
section
open Go.RowKit
attribute [local go_sem ↓] Go.wp_at_zero Go.wp_at_succ
set_option linter.unusedVariables false
set_option linter.unusedSimpArgs false
set_option maxRecDepth 100000 in
set_option maxHeartbeats 2000000 in
theorem rpvalid_any (A : Option Addr) (n c : Nat) (LL : List (List Pt)) (w : World) (h : Rws w A n c LL) :
    Calls Tryz.prog 109 #[.slice A n c] w fun e w' => e = .returned (.bool (vRows 0 LL)) ∧ Keeps w w' := by
  have hl := h.1
  have hmx := h.max
  have HS := Lib.hid h
  clear h
  go_enter Tryz.func109, Tryz.ntmps109
  go_wp2_with fail
  go_loopw [3, 4] (fun a i wr => ∃ (j x : Nat), j ≤ n ∧ i = .int .i64 j ∧ a = .int .i64 x ∧ x ≤ 4096 ∧ Keeps w wr ∧ Hid (vRows 0 LL = vRows x (LL.drop j))) (fun _ i _ => n - (intOf i).toNat)
  case atStart => exact ⟨0, 0, by omega, rfl, rfl, by omega, Keeps.refl _, Lib.hid rfl⟩
  case round =>
    obtain ⟨j, x, hj, rfl, rfl, hx, hkw, hR⟩ := hrel
    by_cases hlt : j < n
    · rename World => wo
      obtain ⟨b, o, rfl, hb, hc⟩ := HS.out.2.2.2 (by omega)
      obtain ⟨Ak, nk, ck, c0, hP, hnk⟩ := hc j hlt
      have c00 := Lib.hid c0
      have c0 := (hkw.cell hb).trans c0
      have hnl := hP.1
      have hnm := hP.2.1
      have hD := Lib.hid (drop_getDQ LL j [] (by omega))
      rw [hD.out] at hR
      have hni : (nk : Int) ≤ 4611686018427387904 := by omega
      have hxi : (x : Int) ≤ 4096 := by omega
      have hP := Lib.hid hP
      clear hc
      generalize LL.getD j [] = s at *
      have hlt2 : (j : Int) < n := by omega
      by_cases hbig : 4096 < x + nk
      · have hf := Lib.hid (show vRows 0 LL = false by rw [hR.out, vRows, if_pos (Or.inl (by omega))])
        have hbig2 : 4096 - (x : Int) < nk := by omega
        clear hbig
        go_wp2_with fail
        go_ret
        exact ⟨ret_bool hf.out.symm, hkw⟩
      · have hbig2 : (nk : Int) ≤ 4096 - (x : Int) := by omega
        have hbig3 : (x : Int) + nk ≤ 4096 := by omega
        have hx2 : x + nk ≤ 4096 := by omega
        clear hbig
        have hR1 := Lib.hid (show s.all vP = false → vRows 0 LL = false from fun h => by rw [hR.out, vRows, if_pos (Or.inr h)])
        have hR2 := Lib.hid (show s.all vP = true → vRows 0 LL = vRows (x + nk) (LL.drop (j + 1)) from fun h => by rw [hR.out, vRows, if_neg (by rw [h]; simp; omega), hnl])
        clear hR
        go_wp2_with fail
        go_loopw [5] (fun i wr => ∃ k : Nat, k ≤ nk ∧ i = .int .i64 k ∧ Keeps w wr ∧ Hid (s.all vP = (s.drop k).all vP)) (fun i _ => nk - (intOf i).toNat)
        case atStart => exact ⟨0, by omega, rfl, hkw, Lib.hid rfl⟩
        case round =>
          clear hkw c0
          obtain ⟨k, hk, rfl, hkw, hV⟩ := hrel
          have c0 := (hkw.cell hb).trans c00.out
          by_cases hlk : k < nk
          · obtain ⟨b2, o2, rfl, hb2, hc2⟩ := hP.out.2.2.2.2 (by omega)
            obtain ⟨d0, d1⟩ := (hc2 k hlk).keep hb2 hkw
            have K := Lib.hid (fun w => rvalid_any (s.getD k pt0).1 (s.getD k pt0).2 w)
            have hE := Lib.hid (show (s.drop k).all vP = (vP (s.getD k pt0) && (s.drop (k + 1)).all vP) by rw [drop_getDQ s k pt0 (by omega), List.all_cons])
            rw [show validB (s.getD k pt0).1 (s.getD k pt0).2 = vP (s.getD k pt0) from rfl] at K
            have hlk2 : (k : Int) < nk := by omega
            clear hc2
            generalize s.getD k pt0 = p at *
            cases hv : vP p with
            | false =>
              rw [hv] at K
              have hf := Lib.hid (hR1.out (by rw [hV.out, hE.out, hv]; rfl))
              clear hv
              go_wp2_with (go_at_call 40; (with_reducible refine (K.out _).mono ?_); rintro e w1 ⟨rfl, hk⟩)
              go_ret
              exact ⟨ret_bool hf.out.symm, hkw.trans hk⟩
            | true =>
              rw [hv] at K
              have hV2 := Lib.hid (show s.all vP = (s.drop (k + 1)).all vP by rw [hV.out, hE.out, hv]; rfl)
              clear hv
              go_wp2_with (go_at_call 40; (with_reducible refine (K.out _).mono ?_); rintro e w1 ⟨rfl, hk⟩)
              go_roundw
              case rel => exact ⟨k + 1, by omega, by go_num, hkw.trans hk, hV2⟩
              case measure => simp [intOf]; omega
          · obtain rfl : k = nk := by omega
            have hR3 := Lib.hid (hR2.out (by rw [hV.out, List.drop_of_length_le (by omega)]; rfl))
            go_wp2_with fail
            go_roundw
            case rel => exact ⟨j + 1, x + k, by omega, by go_num, by go_num, hx2, hkw, hR3⟩
            case measure => simp [intOf]; omega
    · obtain rfl : j = n := by omega
      have hf := Lib.hid (show vRows 0 LL = true by rw [hR.out, List.drop_of_length_le (by omega)]; rfl)
      go_wp2_with fail
      go_ret
      exact ⟨ret_bool hf.out.symm, hkw⟩
set_option maxHeartbeats 1000000 in
theorem rnext_any (A : Option Addr) (n c j : Nat) (L : List Pt) (w : World) (h : Pts w A n c L) (hj : j < n) (hn : n ≤ 4096) :
    Calls Tryz.prog 111 #[.slice A n c, .int .i64 (j : Int)] w fun e w' => e = .returned (.agg #[.int .i64 (nxt L j).1, .int .i64 (nxt L j).2]) ∧ Keeps w w' := by
  have hl := h.1
  obtain ⟨b, o, rfl, hb, hC⟩ := h.2.2.2.2 (by omega)
  obtain ⟨m, hm⟩ : ∃ m, m = (j + 1) % n := ⟨_, rfl⟩
  have hmn : m < n := hm ▸ Nat.mod_lt _ (by omega)
  have e : nxt L j = L.getD m pt0 := by unfold nxt; rw [hl, ← hm]
  rw [e]
  obtain ⟨c0, c1⟩ := hC m hmn
  have hmi : (m : Int) < n := by omega
  have hni : (n : Int) ≤ 4096 := by omega
  have hji : (j : Int) < n := by omega
  have r2 : ((j : Int) + 1) % (n : Int) = (m : Int) := by rw [hm]; rfl
  have r6 : ¬ n = 0 := by omega
  clear hC e hm h hl
  generalize L.getD m pt0 = p at *
  go_enter Tryz.func111, Tryz.ntmps111
  go_wp2_with fail
  exact bodyPost_ret (v := .agg #[.int .i64 p.1, .int .i64 p.2]) (by simp [results, Tryz.results111, go_sem, *]) rfl ⟨rfl, (by (repeat (first | (with_reducible exact Keeps.refl _) | (with_reducible assumption) | (with_reducible refine Keeps.drewN ?_ _) | (with_reducible refine Keeps.drew ?_) | (with_reducible refine Keeps.alloc ?_ _) | (with_reducible refine Keeps.setNew ?_ ?_ _))) <;> (dsimp only; omega))⟩
set_option maxRecDepth 100000 in
set_option maxHeartbeats 2000000 in
theorem rdarea_any (A : Option Addr) (n c : Nat) (L : List Pt) (w : World) (h : Pts w A n c L) (hn : n ≤ 4611686018427387904) :
    Calls Tryz.prog 94 #[.slice A n c] w fun e w' => e = .returned (.int .i64 (area L)) ∧ Keeps w w' := by
  have hl := h.1
  have HR := Lib.hid (fun t => rpvalid_any _ 1 1 [L] _ (Rws.one h hn t))
  rw [vRows_one] at HR
  have HP := Lib.hid h
  clear h
  cases hv : validL L with
  | false =>
    have hA := Lib.hid (area_no hv)
    rw [hv] at HR
    go_enter Tryz.func94, Tryz.ntmps94
    go_wp2_with (go_at_call 109; (with_reducible refine (HR.out _).mono ?_); rintro e w1 ⟨rfl, hk⟩)
    go_ret
    exact ⟨ret_i64 hA.out.symm, ((Keeps.refl _).alloc _).trans hk⟩
  | true =>
    obtain ⟨hA, hn2⟩ := area_yes hv
    have hA := Lib.hid hA
    have hni : (n : Int) ≤ 4096 := by omega
    rw [hv] at HR
    clear hn hv
    go_enter Tryz.func94, Tryz.ntmps94
    go_wp2_with (go_at_call 109; (with_reducible refine (HR.out _).mono ?_); rintro e w1 ⟨rfl, hk⟩; have hk := Lib.hid (((Keeps.refl w).alloc _).trans hk))
    go_loopw [3, 4] (fun s i wr => ∃ (j : Nat), j ≤ n ∧ i = .int .i64 j ∧ Keeps w wr ∧ s = .int .i64 (areaTo L j)) (fun _ i _ => n - (intOf i).toNat)
    case atStart => exact ⟨0, by omega, rfl, hk.out, rfl⟩
    case round =>
      clear hk HR
      obtain ⟨j, hj, rfl, hkw, rfl⟩ := hrel
      by_cases hlt : j < n
      · obtain ⟨b, o, rfl, hb, hC⟩ := HP.out.2.2.2.2 (by omega)
        have KN := Lib.hid (fun w' (hk : Keeps wr w') => keepk (rnext_any _ n c j L w' (HP.out.keep (hkw.trans hk)) hlt (by omega)) hk)
        have KX := Lib.hid (fun w' (hk : Keeps wr w') => keepk (rcross_any (L.getD j pt0).1 (L.getD j pt0).2 (nxt L j).1 (nxt L j).2 w') hk)
        rw [show crossI (hc (L.getD j pt0).1) (hc (L.getD j pt0).2) (hc (nxt L j).1) (hc (nxt L j).2) = crP (L.getD j pt0) (nxt L j) from rfl] at KX
        have hA1 := Lib.hid (show areaTo L (j + 1) = areaTo L j + crP (L.getD j pt0) (nxt L j) from rfl)
        have hb1 := areaTo_bd L j
        have hb2 := crP_bd (L.getD j pt0) (nxt L j)
        have hcj := hC j hlt
        have HS := Lib.hid (show ∀ w', Keeps wr w' → w'.cell? ⟨b, o + j * 2, none⟩ = some (.int .i64 (L.getD j pt0).1) ∧ w'.cell? ⟨b, o + j * 2 + 1, none⟩ = some (.int .i64 (L.getD j pt0).2) from fun w' hk => hcj.keep hb (hkw.trans hk))
        have hlt2 : (j : Int) < n := by omega
        have hk0 := Keeps.refl wr
        have hb3 : -9007199254740992 ≤ areaTo L j ∧ areaTo L j ≤ 9007199254740992 := by omega
        clear hC hcj hb1
        generalize areaTo L j = s at *
        generalize crP (L.getD j pt0) (nxt L j) = x at *
        generalize L.getD j pt0 = p at *
        generalize nxt L j = q at *
        have hs : IntKind.i64.wrap (s + x) = s + x := IntWalk.i64_in _ (by omega)
        obtain ⟨y0, y1⟩ := HS.out _ hk0
        go_wp2_with fail
        go_region_held3 (fun w' => w'.cell? ⟨b, o + j * 2, none⟩ = some (.int .i64 p.1) ∧ w'.cell? ⟨b, o + j * 2 + 1, none⟩ = some (.int .i64 p.2)) (first | exact HS.out _ (by assumption) | exact HS.out _ (Keeps.drew (by assumption)) | exact HS.out _ (Keeps.drewN (by assumption) _) | go_keep)
          (first | (go_at_call 111; (with_reducible refine (KN.out _ (by first | assumption | exact Keeps.drew (by assumption) | exact Keeps.drewN (by assumption) _)).mono ?_); rintro e w1 ⟨rfl, hk⟩) | (go_at_call 110; (with_reducible refine (KX.out _ (by first | assumption | exact Keeps.drew (by assumption) | exact Keeps.drewN (by assumption) _)).mono ?_); rintro e w2 ⟨rfl, hk⟩))
        all_goals
          go_wp2_with fail
          go_roundw
          case rel => exact ⟨j + 1, by omega, by go_num, hkw.trans (by (repeat (first | (with_reducible exact Keeps.refl _) | (with_reducible assumption) | (with_reducible refine Keeps.drewN ?_ _) | (with_reducible refine Keeps.drew ?_) | (with_reducible refine Keeps.alloc ?_ _) | (with_reducible refine Keeps.setNew ?_ ?_ _))) <;> (dsimp only; omega)), by rw [hA1.out]⟩
          case measure => simp [intOf]; omega
      · obtain rfl : j = n := by omega
        go_wp2_with fail
        go_ret
        exact ⟨ret_i64 (by rw [hA.out, hl]), hkw⟩
end

section
open Go.RowKit
attribute [local go_sem ↓] Go.wp_at_zero Go.wp_at_succ
set_option linter.unusedVariables false
set_option linter.unusedSimpArgs false
theorem takeP_succ (o : List Pt) (k : Nat) (h : k < o.length) : o.take (k + 1) = o.take k ++ [o.getD k pt0] := by
  rw [List.take_succ_eq_append_getElem h, List.getD_eq_getElem?_getD, List.getElem?_eq_getElem h]; rfl
theorem revT_get (L : List Pt) (q : Nat) (h1 : 1 ≤ q) (h2 : q < L.length) : (revT L).getD q pt0 = L.getD (L.length - q) pt0 := by
  unfold revT
  rw [List.getD_eq_getElem?_getD, List.getElem?_append_right (by simp; omega), List.getElem?_reverse (by simp; omega), List.getElem?_drop, List.getD_eq_getElem?_getD]
  congr 2
  simp; omega
theorem two_newA (w : World) (s : Pt) (t : TypeId) (H : Nat) (hH : w.heap.size = H) : ∀ j x, (ptV s)[j]? = some x → (w.alloc (.cells (ptV s).toArray t)).cell? ((⟨H, 0, none⟩ : Addr).add j) = some x := hH ▸ two_new w s t
set_option maxRecDepth 100000 in
set_option maxHeartbeats 2000000 in
theorem rcopied_any (A : Option Addr) (n c : Nat) (L : List Pt) (w : World) (h : Pts w A n c L) (hn : n ≤ 1000000000000) :
    Calls Tryz.prog 95 #[.slice A n c] w (OwnP w L) := by
  obtain ⟨i0, hi, hz0, hz1, hz2⟩ := info_parts pt_info
  have hl := h.1
  have hmx := h.max
  have HA := Lib.hid h
  clear h
  unfold OwnP
  rw [hl]
  go_enter Tryz.func95, Tryz.ntmps95
  go_wp2_with fail
  go_loopw [3, 4] (fun v i wr => ∃ j : Nat, j ≤ n ∧ i = .int .i64 j ∧ Keeps w wr ∧ wr.ownsRow w.heap.size 37 2 v j (rowP (L.take j))) (fun _ i _ => n - (intOf i).toNat)
  case atStart => exact ⟨0, by omega, rfl, (Keeps.refl _).alloc _, World.ownsRow_lit w #[] 0 (Nat.le_refl _) (by unfold maxLen; omega) (by simp)⟩
  case round =>
    obtain ⟨j, hj, rfl, hkw, hown⟩ := hrel
    by_cases hlt : j < n
    · obtain ⟨b, o, rfl, hb, hC⟩ := HA.out.2.2.2.2 (by omega)
      obtain ⟨c0, c1⟩ := (hC j hlt).keep hb hkw
      have hT := Lib.hid (takeP_succ L j (by omega))
      have hlt2 : (j : Int) < n := by omega
      clear hC
      generalize L.getD j pt0 = p at *
      go_wp2_with (at_builtin; refine wpList_append_own _ rfl _ _ 22 rfl w.heap.size 37 i0 (.agg #[.int .i64 0, .int .i64 0]) 2 16 Tryz.underlying22 hi hz0 hz1 hz2 rfl (by decide) _ _ _ rfl ((hown).alloc _) ⟨wr.heap.size, 0, none⟩ 1 1 (ptV p) rfl rfl (two_newA wr _ _ _ (by simp)) (oneCell_ptV _) (by unfold maxLen; omega) (by omega) (by have := (hkw).size; simp at this ⊢; omega) ?_; intro v1 w1 hown1 hgrow1 hz9; clear hz9; have hk1 := below_own (hkw) rfl (hown) hgrow1; clear hgrow1; rw [← rowP_one, ← rowP_append] at hown1)
      go_roundw
      case rel => exact ⟨j + 1, by omega, by go_num, hk1, by rw [hT.out]; exact hown1⟩
      case measure => simp [intOf]; omega
    · obtain rfl : j = n := by omega
      rw [List.take_of_length_le (by omega)] at hown
      have hown := Lib.hid hown
      go_wp2_with fail
      go_ret
      exact ⟨_, rfl, hown.out, hkw⟩
set_option maxRecDepth 100000 in
set_option maxHeartbeats 2000000 in
theorem rorient_any (A : Option Addr) (n c : Nat) (L : List Pt) (w : World) (h : Pts w A n c L) (hn : n ≤ 1000000000000) :
    Calls Tryz.prog 77 #[.slice A n c] w (OwnP w (orient L)) := by
  obtain ⟨i0, hi, hz0, hz1, hz2⟩ := info_parts pt_info
  have hl := h.1
  have hmx := h.max
  have K1 := Lib.hid (rdarea_any A n c L w h (by omega))
  have K2 := Lib.hid (fun w1 (hk : Keeps w w1) => rcopied_any A n c L w1 (h.keep hk) hn)
  have HA := Lib.hid h
  clear h
  rcases Int.lt_trichotomy (area L) 0 with h0 | h0 | h0
  · have h2 : 2 ≤ n := by
      rcases Nat.lt_or_ge L.length 2 with h3 | h3
      · have := area_short h3; omega
      · omega
    have hE : orient L = revT L := by unfold orient; rw [if_neg (by omega), if_pos h0]
    unfold OwnP
    rw [hE, revT_length, hl]
    have hrl := revT_length L
    have hg := Lib.hid (revT_get L)
    have hr0 := Lib.hid (show (revT L).take 1 = [L.getD 0 pt0] by
      unfold revT
      rw [List.take_append_of_le_length (by simp; omega), List.take_take, Nat.min_self, takeP_succ L 0 (by omega)]; rfl)
    rw [hl] at hg hrl
    have hrl := Lib.hid hrl
    have t1 : decide (0 < area L) = false := decide_eq_false (by omega)
    have t2 : decide (area L < 0) = true := decide_eq_true h0
    clear hE
    generalize revT L = R at *
    generalize area L = x at *
    obtain ⟨b, o, rfl, hb, hC⟩ := HA.out.2.2.2.2 (by omega)
    have hC := Lib.hid hC
    have hC0 := hC.out 0 (by omega)
    have HC0 := Lib.hid (show ∀ w1, Keeps w w1 → w1.cell? ⟨b, o, none⟩ = some (.int .i64 (L.getD 0 pt0).1) ∧ w1.cell? ⟨b, o + 1, none⟩ = some (.int .i64 (L.getD 0 pt0).2) from fun w1 hk => by have := hC0.keep hb hk; rw [Nat.zero_mul, Nat.add_zero] at this; exact this)
    have hn0 : (0 : Int) < n := by omega
    have hn1 : 0 < n := by omega
    clear hC0 h0 h2
    generalize L.getD 0 pt0 = p at *
    go_enter Tryz.func77, Tryz.ntmps77
    go_wp2_with (first | (go_at_call 94; (with_reducible refine K1.out.mono ?_); rintro e wa ⟨rfl, hk⟩; obtain ⟨z0, z1⟩ := HC0.out _ (hk.alloc (.cells #[] 37)); have hkA := hk.alloc (.cells #[] 37); have hoo : (wa.alloc (.cells #[] 37)).ownsRow w.heap.size 37 2 (.slice (some ⟨wa.heap.size, 0, none⟩) 0 0) 0 (rowP []) := own_base (World.ownsRow_lit (e := 37) (size := 2) wa #[] 0 (Nat.le_refl _) (by unfold maxLen; omega) (by simp)) hk.size) | (at_builtin; refine wpList_append_own _ rfl _ _ 22 rfl w.heap.size 37 i0 (.agg #[.int .i64 0, .int .i64 0]) 2 16 Tryz.underlying22 hi hz0 hz1 hz2 rfl (by decide) _ _ _ rfl ((hoo).alloc _) ⟨wa.heap.size + 1, 0, none⟩ 1 1 (ptV p) rfl rfl (two_newA (wa.alloc (.cells #[] 37)) _ _ _ (by simp)) (oneCell_ptV _) (by unfold maxLen; omega) (by omega) (by have := (hkA).size; simp at this ⊢; omega) ?_; intro v1 w1 hown1 hgrow1 hz9; clear hz9; have hk1 := below_own (hkA) rfl (hoo) hgrow1; clear hgrow1; rw [← rowP_one, ← rowP_append] at hown1))
    clear hoo z0 z1 K1 hk hkA
    go_loopw [4, 5] (fun v i wr => ∃ k : Nat, k + 1 ≤ n ∧ i = .int .i64 ((n : Int) - 1 - k) ∧ Keeps w wr ∧ wr.ownsRow w.heap.size 37 2 v (k + 1) (rowP (R.take (k + 1)))) (fun _ i _ => (intOf i).toNat)
    case atStart => exact ⟨0, by omega, by go_num, hk1, by rw [hr0.out]; exact hown1⟩
    case round =>
      clear hk1 hown1
      obtain ⟨k, hk, rfl, hkw, hown⟩ := hrel
      by_cases hlt : k + 1 < n
      · obtain ⟨q, hq⟩ : ∃ q : Nat, (n : Int) - 1 - k = q := ⟨n - 1 - k, by omega⟩
        rw [hq]
        have hq2 : n - (k + 1) = q := by omega
        have hqn : q < n := by omega
        obtain ⟨c0, c1⟩ := (hC.out q hqn).keep hb hkw
        have hT := Lib.hid ((takeP_succ R (k + 1) (by rw [hrl.out]; omega)).trans (congrArg (fun x => R.take (k + 1) ++ [x]) ((hg.out (k + 1) (by omega) hlt).trans (by rw [hq2]))))
        have hqi : (q : Int) < n := by omega
        have hq0 : (0 : Int) < q := by omega
        have hq1 : 0 < q := by omega
        have hqq := Lib.hid hq
        clear hq hq2
        generalize L.getD q pt0 = y at *
        go_wp2_with (at_builtin; refine wpList_append_own _ rfl _ _ 22 rfl w.heap.size 37 i0 (.agg #[.int .i64 0, .int .i64 0]) 2 16 Tryz.underlying22 hi hz0 hz1 hz2 rfl (by decide) _ _ _ rfl ((hown).alloc _) ⟨wr.heap.size, 0, none⟩ 1 1 (ptV y) rfl rfl (two_newA wr _ _ _ (by simp)) (oneCell_ptV _) (by unfold maxLen; omega) (by omega) (by have := (hkw).size; simp at this ⊢; omega) ?_; intro v1 w1 hown1 hgrow1 hz9; clear hz9; have hk1 := below_own (hkw) rfl (hown) hgrow1; clear hgrow1; rw [← rowP_one, ← rowP_append] at hown1)
        go_roundw
        case rel => exact ⟨k + 1, by omega, by have := hqq.out; congr 1; omega, hk1, by rw [hT.out]; exact hown1⟩
        case measure => simp [intOf]; omega
      · have hkn : k + 1 = n := by omega
        have hz : (n : Int) - 1 - k = 0 := by omega
        rw [hz]
        rw [hkn, List.take_of_length_le (by rw [hrl.out]; omega)] at hown
        have hown := Lib.hid hown
        clear hkn hz
        go_wp2_with fail
        go_ret
        exact ⟨_, rfl, hown.out, hkw⟩
  · have hE : orient L = [] := by unfold orient; rw [if_neg (by omega), if_neg (by omega)]
    rw [hE]
    have t1 : decide (0 < area L) = false := decide_eq_false (by omega)
    have t2 : decide (area L < 0) = false := decide_eq_false (by omega)
    clear hE
    generalize area L = x at *
    go_enter Tryz.func77, Tryz.ntmps77
    go_wp2_with (first | (go_at_call 94; (with_reducible refine K1.out.mono ?_); rintro e w1 ⟨rfl, hk⟩))
    go_ret
    exact ⟨_, rfl, own_base (World.ownsRow_lit w1 #[] 0 (Nat.le_refl _) (by unfold maxLen; omega) (by simp)) hk.size, hk.alloc _⟩
  · have hE : orient L = L := by unfold orient; rw [if_pos h0]
    rw [hE]
    have t1 : decide (0 < area L) = true := decide_eq_true h0
    clear hE
    generalize area L = x at *
    go_enter Tryz.func77, Tryz.ntmps77
    go_wp2_with (first | (go_at_call 94; (with_reducible refine K1.out.mono ?_); rintro e w1 ⟨rfl, hk⟩; have hk := Lib.hid hk) | (go_at_call 95; (with_reducible refine (K2.out _ hk.out).mono ?_); rintro e w2 ⟨v, rfl, hown, hk2⟩; have hown := Lib.hid hown; have hk2 := Lib.hid hk2))
    go_ret
    exact ⟨_, rfl, own_base hown.out hk.out.size, hk.out.trans hk2.out⟩
end
end Go.Proofs.YtdodgnpjlicnoaaGreat
