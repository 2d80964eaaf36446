/- Contracts of reference 01: DivMod. -/
import Derived.Test.YtihmhpleiefodaaN8
namespace Go.Proofs.Ytihmhpleiefodaa
section
open Go.RowKit
set_option linter.unusedVariables false
set_option linter.unusedSimpArgs false

set_option maxRecDepth 100000 in
set_option maxHeartbeats 2000000 in
theorem shiftl_any (D : List Nat) (A : Option Addr) (n c s : Nat) (w : World) (h : Dg w A n c D) (hsm : n ≤ 1000) (hs : s < 32) :
    Calls Try.prog 90 #[.slice A n c, .int .i64 (s : Int)] w (RetDg w (dig (nv D * 2 ^ s))) := by
  have HU := Lib.hid (up_any D A n c s w h hsm hs)
  go_enter Try.func90, Try.ntmps90
  go_wp2_with (go_at_call 94; (with_reducible refine HU.out.mono ?_); intro e w2 hret; have hret2 := hret; obtain ⟨A2, c2, rfl, hD2, hk2, hF2⟩ := hret)
  go_ret
  assumption
theorem shr_nat (p q s : Nat) (h : p < 4294967296) (h3 : q < 4294967296) (h2 : s < 32) : ∃ m : Nat, (q * 4294967296 + p) / 2 ^ s = m ∧ ((q : Int) * 4294967296 + p) / 2 ^ s = (m : Int) ∧ m ≤ 18446744073709551615 := by
  refine ⟨_, rfl, by simp, ?_⟩
  have := Nat.div_le_self (q * 4294967296 + p) (2 ^ s)
  omega
set_option maxRecDepth 100000 in
set_option maxHeartbeats 2000000 in
theorem shiftr_any (D : List Nat) (A : Option Addr) (n c s : Nat) (w : World) (h : Dg w A n c D) (hsm : n ≤ 1000) (hs : s < 32) (hs0 : 0 < s) :
    Calls Try.prog 90 #[.slice A n c, .int .i64 (-(s : Int))] w (RetDg w (dig (nv D / 2 ^ s))) := by
  have hl := Lib.hid h.len
  have HD := Lib.hid h
  obtain ⟨i0, hi, hz0, hz1, hz2⟩ := info_parts u32_info
  have f1 : (s : Int) / 32 = 0 := by omega
  have f2 : (s : Int) % 32 = s := by omega
  have hK := Keeps.refl w
  clear h
  by_cases hn : n = 0
  · have t1 : -(s : Int) < -32 * n := by omega
    have hE : dig (nv D / 2 ^ s) = [] := by
      have : D = [] := List.eq_nil_of_length_eq_zero (by rw [hl.out]; exact hn)
      rw [this]; simp [nv, dig_zero]
    have hR : RetDg w (dig (nv D / 2 ^ s)) (.returned (.slice (some ⟨w.heap.size, 0, none⟩) 0 0)) (w.alloc (.cells #[] 108)) := by
      rw [hE]
      exact ⟨_, _, rfl, Dg.of_own' (D := []) (World.ownsRow_lit (base := w.heap.size) w #[] 0 (Nat.le_refl _) (by unfold maxLen; omega) (by simp)) isD_nil, (Keeps.refl w).alloc _, Fr.at_ (Nat.le_refl _)⟩
    clear hn hE f1 f2
    go_enter Try.func90, Try.ntmps90
    go_wp2
    go_ret
    exact hR
  · have t1 : ¬ -(s : Int) < -32 * n := by omega
    clear hn
    go_enter Try.func90, Try.ntmps90
    go_wp2
    clear f1 t1
    go_loopw [5, 6] (fun v i wr => ∃ (j : Nat) (L : List Nat), j ≤ n ∧ i = .int .i64 j ∧ Hid (DownR D s j L) ∧ wr.ownsRow w.heap.size 108 1 v j (d32 L) ∧ Keeps w wr) (fun _ i _ => n - (intOf i).toNat)
    case atStart => exact ⟨0, [], by omega, rfl, DownR.zero _ _, World.ownsRow_lit w #[] 0 (Nat.le_refl _) (by unfold maxLen; omega) (by simp), by exact (Keeps.refl _).alloc _⟩
    case round =>
      obtain ⟨j, L, hj, rfl, hR, hown, hkw⟩ := hrel
      by_cases hlt : j < n
      · have R1 := Lib.hid (hR.out.step HD.out.2 hs)
        have b1 := isD.getD HD.out.2 j
        have b2 := isD.getD HD.out.2 (j + 1)
        have G1 := Lib.hid (fun w' hk => digit_nat D A n c j w' w HD.out hk (by omega))
        have G2 := Lib.hid (fun w' hk => digit_nat D A n c (j + 1) w' w HD.out hk (by omega))
        generalize D.getD j 0 = p at *
        generalize D.getD (j + 1) 0 = q at *
        obtain ⟨m, em, em2, bm⟩ := shr_nat p q s b1 b2 hs
        rw [em] at R1
        rw [show (((j + 1 : Nat)) : Int) = (j : Int) + 1 by omega] at G2
        clear em
        go_wp2_with (first | (go_at_call 92; (with_reducible refine (G1.out _ (by assumption)).mono ?_); rintro e w1 ⟨rfl, rfl⟩) | (go_at_call 92; (with_reducible refine (G2.out _ (by assumption)).mono ?_); rintro e w1 ⟨rfl, rfl⟩) | (at_builtin; refine wpList_append_own _ rfl _ _ 95 rfl w.heap.size 108 i0 (.int .u32 0) 1 4 Try.underlying95 hi hz0 hz1 hz2 rfl (by decide) _ _ _ rfl (hown.alloc _) ⟨wr.heap.size, 0, none⟩ 1 1 [.int .u32 ((m : Int) % 4294967296)] rfl rfl (one_new _ _ _) (by intro u hu; simp at hu; subst hu; rfl) (by unfold maxLen; omega) (by omega) (by have := hkw.size; simp; omega) ?_; intro v1 w1 hown1 hgrow1 _; have hk1 := below_own hkw rfl hown hgrow1; clear hgrow1; (rw [show (((m : Int) % 4294967296) : Int) = ((m % 4294967296 : Nat) : Int) by omega, d32_snoc] at hown1); skip))
        go_roundw
        case rel => exact ⟨j + 1, L ++ [m % 4294967296], by omega, by go_num, R1.out, by assumption, by assumption⟩
        case measure => simp [intOf]; omega
      · obtain rfl : j = n := by omega
        have R1 := hR.out
        rw [← hl.out] at R1
        have R2 := Lib.hid (R1.done HD.out.2)
        obtain ⟨A1, c1, ev1, hD1⟩ := Dg.of_own hown hR.out.2.1
        subst ev1
        clear R1 hR
        go_wp2_with (go_at_call 88; (with_reducible refine (normalize_any _ _ _ _ _ hD1 (by omega)).mono ?_); intro e w2 hret; have hret2 := hret; obtain ⟨A2, c2, rfl, hD2, hk2, hF2⟩ := hret)
        go_ret
        exact RetDg.of_norm (by assumption) R2.out (by assumption)
end

section
open Go.RowKit
set_option linter.unusedVariables false
set_option linter.unusedSimpArgs false

set_option maxRecDepth 100000 in
set_option maxHeartbeats 2000000 in
theorem bitlen_any (D : List Nat) (A : Option Addr) (n c : Nat) (w : World) (h : Dg w A n c D) (hsm : n ≤ 1000) :
    Calls Try.prog 89 #[.slice A n c] w fun e w' => e = .returned (.int .i64 (bl (nv D) : Nat)) ∧ Keeps w w' := by
  have hD1 := h
  have hK := Keeps.refl w
  by_cases h0 : nv D = 0
  · have hb : bl (nv D) = 0 := by rw [h0]; rfl
    rw [hb]
    have hn := Lib.hid (normalize_any D A n c w h (by omega))
    rw [h0, dig_zero] at hn
    clear h hD1 h0 hb
    go_enter Try.func89, Try.ntmps89
    go_wp2_with (go_at_call 88; (with_reducible refine hn.out.mono ?_); intro e w2 hret; obtain ⟨A2, c2, rfl, hD2, hk2, hF2⟩ := hret)
    go_ret
    exact ⟨rfl, by assumption⟩
  · obtain ⟨k, hk⟩ : ∃ k, (dig (nv D)).length = k + 1 := Nat.exists_eq_succ_of_ne_zero fun e => h0 (dig_nil.1 (List.eq_nil_of_length_eq_zero e))
    have hk' : k + 1 ≤ 1000 := by have h1 := dig_length (nv_lt h.2); rw [h.len] at h1; omega
    have htop := Lib.hid (bl_top (isD_dig (nv D)) hk (by have := dig_top (nv D) (fun e => h0 (dig_nil.1 e)); rwa [hk, Nat.add_sub_cancel] at this))
    rw [nv_dig] at htop
    have hn := Lib.hid (normalize_any D A n c w h (by omega))
    have hb := isD.getD (isD_dig (nv D)) k
    obtain ⟨X, hX⟩ : ∃ X, X = bl (nv D) := ⟨_, rfl⟩
    rw [← hX] at htop
    rw [← hX]
    have hbl : bl ((dig (nv D)).getD k 0) ≤ 32 := bl_lt.1 hb
    have hX2 : X ≤ 32032 := by rw [htop.out]; omega
    obtain ⟨t, ht⟩ : ∃ t, t = (dig (nv D)).getD k 0 := ⟨_, rfl⟩
    rw [← ht] at htop hb
    have HT := Lib.hid ht
    clear ht
    unfold RetDg at hn
    rw [hk] at hn
    have hnc : Hid (∀ A c w1, Dg w1 A (k + 1) c (dig (nv D)) → ∃ b o, A = some ⟨b, o, none⟩ ∧ w1.cell? ⟨b, o + k, none⟩ = some (.int .u32 (t : Int))) := fun A c w1 hd => by
      obtain ⟨b, o, e1, e2, e3⟩ := hd.at_ (k := k) (by omega)
      exact ⟨b, o, e1, by rw [HT.out]; exact e3⟩
    clear h hD1 h0 hX hk hbl
    go_enter Try.func89, Try.ntmps89
    go_wp2_with (go_at_call 88; (with_reducible refine hn.out.mono ?_); intro e w2 hret; obtain ⟨A2, c2, rfl, hD2, hk2, hF2⟩ := hret; obtain ⟨b, o, rfl, hcell⟩ := hnc.out _ _ _ hD2)
    go_loop [4, 5] (fun x y => ∃ a t : Nat, x = .int .i64 a ∧ y = .int .u32 t ∧ t < 4294967296 ∧ a ≤ X ∧ Hid (X = a + bl t)) (fun _ y => (intOf y).toNat)
    case atStart => exact ⟨32 * k, t, by go_num, rfl, hb, by rw [htop.out]; omega, htop.out⟩
    case round =>
      obtain ⟨a, t, rfl, rfl, hb, ha, hX⟩ := hrel
      by_cases h0 : t = 0
      · subst h0
        obtain rfl : X = a := by rw [hX.out]; rfl
        go_wp2
        go_ret
        exact ⟨rfl, by assumption⟩
      · have h0' : 0 < t := by omega
        have hX' := hX.out
        rw [bl_half h0] at hX'
        have hX'' := Lib.hid hX'
        have : a + 1 ≤ X := by omega
        clear hX' h0
        go_wp2
        go_round
        case rel => exact ⟨a + 1, t / 2, by go_num, by go_num, by omega, by omega, by have := hX''.out; unfold Hid; omega⟩
        case measure => simp [intOf]; omega
end

section
open Go.RowKit
set_option linter.unusedVariables false
set_option linter.unusedSimpArgs false

theorem quo_nat (x t : Nat) : ∃ g : Nat, x / t = g ∧ (x : Int).tdiv (t : Int) = (g : Int) ∧ g ≤ x := ⟨_, rfl, by rw [Int.tdiv_eq_ediv_of_nonneg (by omega)]; simp, Nat.div_le_self _ _⟩
theorem times_len {E : List Nat} {m d : Nat} (h : isD E) (hl : E.length = m) (hd : d < 4294967296) : (dig (nv E * d)).length ≤ m + 1 := by
  apply dig_length
  have h1 := nv_lt h
  rw [hl] at h1
  rw [pow_succ32, Nat.mul_comm 4294967296]
  exact Nat.mul_lt_mul'' h1 hd
theorem cmpN_le0 {a b : Nat} (h : a ≤ b) : cmpN a b ≤ 0 := by unfold cmpN; split <;> (try split) <;> omega
theorem quiet_l {P : Program} {f : FuncId} {args : Array Value} {w : World} {n : Nat} {v : Value}
    (h : Calls P f args (w.drewN n) fun e w' => e = .returned v ∧ w.drewN n = w') : Calls P f args (w.drewN n) fun e w'' => e = .returned v ∧ ∃ m, w'' = w.drewN m :=
  h.mono fun _ _ ⟨he, hm⟩ => ⟨he, n, hm.symm⟩
set_option maxRecDepth 100000 in
set_option maxHeartbeats 2000000 in
theorem often_any (R E : List Nat) (A B : Option Addr) (n c m c2 : Nat) (w : World) (h : Dg w A n c R) (h2 : Dg w B m c2 E) (hsm : n ≤ 500) (hsm2 : m ≤ 500) (hm0 : 1 ≤ m)
    (hlt : nv R < 4294967296 * nv E) (ht : 0 < E.getD (m - 1) 0) :
    Calls Try.prog 91 #[.slice A n c, .slice B m c2] w fun e w' =>
      ∃ A' c', e = .returned (.tuple #[.int .u64 ((nv R / nv E : Nat) : Int), .slice A' (dig (nv R % nv E)).length c']) ∧ Dg w' A' (dig (nv R % nv E)).length c' (dig (nv R % nv E)) ∧ Keeps w w' ∧ Fr w A' := by
  have HR := Lib.hid h
  have HE := Lib.hid h2
  have hlt := Lib.hid hlt
  have HG := Lib.hid (often_ge h.2 h2.2 (n := m - 1) (by rw [h2.len]; omega) hlt.out ht)
  rw [show m - 1 + 1 = m by omega] at HG
  obtain ⟨b', o', rfl, hb', hc1⟩ := h2.at_ (k := m - 1) (by omega)
  have b1 := isD.getD h.2 m
  have b2 := isD.getD h.2 (m - 1)
  have b3 := isD.getD h2.2 (m - 1)
  have G1 := Lib.hid (fun w' hk => digit_nat R A n c m w' w h hk (by omega))
  have G2 := Lib.hid (fun w' hk => digit_nat R A n c (m - 1) w' w h hk (by omega))
  rw [show ((m - 1 : Nat) : Int) = (m : Int) - 1 by omega] at G2
  generalize R.getD m 0 = q at *
  generalize R.getD (m - 1) 0 = p at *
  generalize E.getD (m - 1) 0 = t at *
  have f1 := i64_in ((m : Int) - 1) (by omega)
  have f2 : 0 ≤ (m : Int) - 1 := by omega
  have f3 : ((m : Int) - 1).toNat = m - 1 := by omega
  have f4 := u64_in ((q : Int) * 4294967296) (by omega)
  have f5 := u64_in ((q : Int) * 4294967296 + p) (by omega)
  have f7 : (m : Int) - 1 < m := by omega
  have f8 : (1 : Int) ≤ m := by omega
  have f9 : 0 < m := by omega
  have f10 := u64_in (t : Int) (by omega)
  have f11 : ¬ t = 0 := by omega
  obtain ⟨g, hg, hg2, bg⟩ := quo_nat (q * 4294967296 + p) t
  rw [hg] at HG
  rw [show ((q * 4294967296 + p : Nat) : Int) = (q : Int) * 4294967296 + p by omega] at hg2
  have f12 := u64_in (g : Int) (by omega)
  clear h h2 hg
  go_enter Try.func91, Try.ntmps91
  go_wp2_with fail
  go_quiet ((go_at_call 92; first | (with_reducible exact quiet_l (G1.out _ ((Keeps.refl _).drewN _))) | (with_reducible exact quiet_l (G2.out _ ((Keeps.refl _).drewN _)))))
  clear f1 f2 f3 f4 f5 f7 f10 f11 f12 hg2
  have hq1 : Hid (nv R / nv E ≤ g) := HG.out
  have hE0 : Hid (0 < nv E) := by
    unfold Hid
    rcases Nat.eq_zero_or_pos (nv E) with h | h
    · have := hlt.out; rw [h] at this; omega
    · exact h
  have hq2 : Hid (nv R / nv E ≤ 4294967295) := by
    have := (Nat.div_lt_iff_lt_mul hE0.out).2 (show nv R < 4294967296 * nv E from hlt.out)
    unfold Hid; omega
  have GT := Lib.hid (fun (d : Nat) (hd : d < 4294967296) w' (hk : Keeps w w') => times_any E (some ⟨b', o', none⟩) m c2 d w' (HE.out.keep hk) (by omega) hd)
  obtain ⟨Q, hQ⟩ : ∃ Q, Q = nv R / nv E := ⟨_, rfl⟩
  rw [← hQ] at hq1 hq2
  have hQ' := Lib.hid hQ
  have hq1' := hq1.out
  have hq2' := hq2.out
  clear hQ hq1 hq2 HG hlt
  have GT2 := Lib.hid (GT.out 4294967295 (by omega))
  rw [show ((4294967295 : Nat) : Int) = 4294967295 from rfl] at GT2
  by_cases hgm : g ≤ 4294967295
  · go_wp2_with (go_at_call 95; (with_reducible refine (GT.out _ (by omega) _ ((Keeps.refl w).drewN _)).mono ?_); intro e w2 hret; obtain ⟨A2, c2, rfl, hD2, hk2, hF2⟩ := hret; have hk3 := Keeps.trans ((Keeps.refl w).drewN _) hk2)
    go_loopw [8, 9] (fun x y wr => ∃ (d k : Nat) (A' : Option Addr) (c' : Nat), x = .int .u64 d ∧ y = .slice A' k c' ∧ Dg wr A' k c' (dig (nv E * d)) ∧ Q ≤ d ∧ d < 4294967296 ∧ Keeps w wr) (fun x _ _ => (intOf x).toNat)
    case atStart => exact ⟨g, _, A2, c2, rfl, rfl, by assumption, by omega, by omega, by assumption⟩
    case round =>
      obtain ⟨d, k, A', c', rfl, rfl, hDp, hqd, hd, hkw⟩ := hrel
      have hkl : k ≤ 501 := by have h1 := times_len HE.out.2 HE.out.len hd; rw [hDp.len] at h1; omega
      have GC := Lib.hid (cmp1_any _ _ _ _ _ _ _ _ wr hDp (HR.out.keep hkw) (by omega) (by omega))
      rw [nv_dig] at GC
      by_cases hdr : nv R < nv E * d
      · have h3 := often_step hQ'.out hqd (by rw [Nat.mul_comm]; exact hdr)
        have hd1 : 1 ≤ d := by omega
        have hle : nv E ≤ nv (dig (nv E * d)) := by rw [nv_dig]; exact Nat.le_mul_of_pos_right _ (by omega)
        have GS := Lib.hid (fun w' (hk : Keeps wr w') => sub1_ge _ _ _ _ _ _ _ _ w' (hDp.keep hk) (HE.out.keep (hkw.trans hk)) (by omega) (by omega) hle)
        have e1 : nv (dig (nv E * d)) - nv E = nv E * (d - 1) := by rw [nv_dig, Nat.mul_sub, Nat.mul_one]
        rw [e1] at GS
        rw [cmpN_gt hdr] at GC
        have hkk := Keeps.refl wr
        have hqd2 := h3.1
        clear h3 hle hdr e1
        go_wp2_with (first | (go_at_call 96; (with_reducible refine GC.out.mono ?_); rintro e w2 ⟨rfl, rfl⟩) | (go_at_call 97; (with_reducible refine (GS.out _ (by assumption)).mono ?_); intro e w2 hret; obtain ⟨A3, c3, rfl, hD3, hk3, hF3⟩ := hret; have hk4 := Keeps.trans hkw hk3; have hF4 := hF3.back hkw))
        go_roundw
        case rel => exact ⟨d - 1, _, _, _, by go_num, rfl, by assumption, by omega, by omega, by assumption⟩
        case measure => simp [intOf]; omega
      · have hle : nv (dig (nv E * d)) ≤ nv R := by rw [nv_dig]; omega
        have h3 := Lib.hid (often_done (r := nv R) (b := nv E) (d := d) hQ'.out hE0.out (by omega) (by rw [Nat.mul_comm]; omega))
        have GS := Lib.hid (fun w' (hk : Keeps wr w') => sub1_ge _ _ _ _ _ _ _ _ w' (HR.out.keep (hkw.trans hk)) (hDp.keep hk) (by omega) (by omega) hle)
        have e1 : nv R - nv (dig (nv E * d)) = nv R % nv E := by rw [nv_dig, Nat.mul_comm]; exact h3.out.2
        rw [e1] at GS
        obtain ⟨z, hz, hz0⟩ : ∃ z, cmpN (nv E * d) (nv R) = z ∧ z ≤ 0 := ⟨_, rfl, cmpN_le0 (by omega)⟩
        rw [hz] at GC
        have hkk := Keeps.refl wr
        have hd2 := Lib.hid h3.out.1
        clear hle hdr e1 hz h3
        go_wp2_with (first | (go_at_call 96; (with_reducible refine GC.out.mono ?_); rintro e w2 ⟨rfl, rfl⟩) | (go_at_call 97; (with_reducible refine (GS.out _ (by assumption)).mono ?_); intro e w2 hret; obtain ⟨A3, c3, rfl, hD3, hk3, hF3⟩ := hret; have hk4 := Keeps.trans hkw hk3; have hF4 := hF3.back hkw))
        go_ret2
        exact ⟨_, _, by rw [← hd2.out]; rfl, by assumption, by assumption, by assumption⟩
  · go_wp2_with (go_at_call 95; (with_reducible refine (GT2.out _ ((Keeps.refl w).drewN _)).mono ?_); intro e w2 hret; obtain ⟨A2, c2, rfl, hD2, hk2, hF2⟩ := hret; have hk3 := Keeps.trans ((Keeps.refl w).drewN _) hk2)
    go_loopw [8, 9] (fun x y wr => ∃ (d k : Nat) (A' : Option Addr) (c' : Nat), x = .int .u64 d ∧ y = .slice A' k c' ∧ Dg wr A' k c' (dig (nv E * d)) ∧ Q ≤ d ∧ d < 4294967296 ∧ Keeps w wr) (fun x _ _ => (intOf x).toNat)
    case atStart => exact ⟨4294967295, _, A2, c2, rfl, rfl, by assumption, by omega, by omega, by assumption⟩
    case round =>
      obtain ⟨d, k, A', c', rfl, rfl, hDp, hqd, hd, hkw⟩ := hrel
      have hkl : k ≤ 501 := by have h1 := times_len HE.out.2 HE.out.len hd; rw [hDp.len] at h1; omega
      have GC := Lib.hid (cmp1_any _ _ _ _ _ _ _ _ wr hDp (HR.out.keep hkw) (by omega) (by omega))
      rw [nv_dig] at GC
      by_cases hdr : nv R < nv E * d
      · have h3 := often_step hQ'.out hqd (by rw [Nat.mul_comm]; exact hdr)
        have hd1 : 1 ≤ d := by omega
        have hle : nv E ≤ nv (dig (nv E * d)) := by rw [nv_dig]; exact Nat.le_mul_of_pos_right _ (by omega)
        have GS := Lib.hid (fun w' (hk : Keeps wr w') => sub1_ge _ _ _ _ _ _ _ _ w' (hDp.keep hk) (HE.out.keep (hkw.trans hk)) (by omega) (by omega) hle)
        have e1 : nv (dig (nv E * d)) - nv E = nv E * (d - 1) := by rw [nv_dig, Nat.mul_sub, Nat.mul_one]
        rw [e1] at GS
        rw [cmpN_gt hdr] at GC
        have hkk := Keeps.refl wr
        have hqd2 := h3.1
        clear h3 hle hdr e1
        go_wp2_with (first | (go_at_call 96; (with_reducible refine GC.out.mono ?_); rintro e w2 ⟨rfl, rfl⟩) | (go_at_call 97; (with_reducible refine (GS.out _ (by assumption)).mono ?_); intro e w2 hret; obtain ⟨A3, c3, rfl, hD3, hk3, hF3⟩ := hret; have hk4 := Keeps.trans hkw hk3; have hF4 := hF3.back hkw))
        go_roundw
        case rel => exact ⟨d - 1, _, _, _, by go_num, rfl, by assumption, by omega, by omega, by assumption⟩
        case measure => simp [intOf]; omega
      · have hle : nv (dig (nv E * d)) ≤ nv R := by rw [nv_dig]; omega
        have h3 := Lib.hid (often_done (r := nv R) (b := nv E) (d := d) hQ'.out hE0.out (by omega) (by rw [Nat.mul_comm]; omega))
        have GS := Lib.hid (fun w' (hk : Keeps wr w') => sub1_ge _ _ _ _ _ _ _ _ w' (HR.out.keep (hkw.trans hk)) (hDp.keep hk) (by omega) (by omega) hle)
        have e1 : nv R - nv (dig (nv E * d)) = nv R % nv E := by rw [nv_dig, Nat.mul_comm]; exact h3.out.2
        rw [e1] at GS
        obtain ⟨z, hz, hz0⟩ : ∃ z, cmpN (nv E * d) (nv R) = z ∧ z ≤ 0 := ⟨_, rfl, cmpN_le0 (by omega)⟩
        rw [hz] at GC
        have hkk := Keeps.refl wr
        have hd2 := Lib.hid h3.out.1
        clear hle hdr e1 hz h3
        go_wp2_with (first | (go_at_call 96; (with_reducible refine GC.out.mono ?_); rintro e w2 ⟨rfl, rfl⟩) | (go_at_call 97; (with_reducible refine (GS.out _ (by assumption)).mono ?_); intro e w2 hret; obtain ⟨A3, c3, rfl, hD3, hk3, hF3⟩ := hret; have hk4 := Keeps.trans hkw hk3; have hF4 := hF3.back hkw))
        go_ret2
        exact ⟨_, _, by rw [← hd2.out]; rfl, by assumption, by assumption, by assumption⟩
end

section
open Go.RowKit
set_option linter.unusedVariables false
set_option linter.unusedSimpArgs false

theorem own_keep {w w' : World} {B n size : Nat} {e : TypeId} {v : Value} {xs : List Value} (h : w.ownsRow B e size v n xs) (hk : Keeps w w') : w'.ownsRow B e size v n xs := by
  refine ⟨h.1, ?_⟩
  rcases h.2 with hn | ⟨g, cap, cur, rfl, hb, hg, rest⟩
  · exact .inl hn
  · exact .inr ⟨g, cap, cur, rfl, hb, (hk.block g (Array.getElem?_eq_some_iff.1 hg).1).trans hg, rest⟩
theorem shl_len {x n s : Nat} (h : x < 4294967296 ^ n) (hs : s < 32) : (dig (x * 2 ^ s)).length ≤ n + 1 := by
  apply dig_length
  rw [pow_succ32, Nat.mul_comm 4294967296]
  have hb : (2 : Nat) ^ s ≤ 2 ^ 31 := Nat.pow_le_pow_right (by omega) (by omega)
  exact Nat.mul_lt_mul'' h (by omega)
theorem shiftn_any (D : List Nat) (A : Option Addr) (n c s : Nat) (w : World) (h : Dg w A n c D) (hsm : n ≤ 1000) (hs : s < 32) :
    Calls Try.prog 90 #[.slice A n c, .int .i64 (-(s : Int))] w (RetDg w (dig (nv D / 2 ^ s))) := by
  by_cases h0 : s = 0
  · subst h0
    have := shiftl_any D A n c 0 w h hsm hs
    rw [Nat.pow_zero, Nat.mul_one] at this
    rw [Nat.pow_zero, Nat.div_one]
    exact this
  · exact shiftr_any D A n c s w h hsm hs (by omega)
/-- How far the divisor is shifted. -/
theorem shift_by {x m : Nat} (hx : x ≠ 0) (hm : (dig x).length = m) : ∃ s, 32 * m = bl x + s ∧ s < 32 ∧ 1 ≤ m := by
  obtain ⟨k, hk⟩ : ∃ k, (dig x).length = k + 1 := Nat.exists_eq_succ_of_ne_zero fun e => hx (dig_nil.1 (List.eq_nil_of_length_eq_zero e))
  have ht := dig_top x (fun e => hx (dig_nil.1 e))
  rw [hk, Nat.add_sub_cancel] at ht
  have h1 := bl_top (isD_dig x) hk ht
  rw [nv_dig] at h1
  have h2 : bl ((dig x).getD k 0) ≤ 32 := bl_lt.1 (isD.getD (isD_dig x) k)
  have h3 : bl ((dig x).getD k 0) ≠ 0 := by unfold bl; rw [if_neg ht]; omega
  exact ⟨32 * m - bl x, by omega, by omega, by omega⟩

theorem Dg.far {w : World} {A : Option Addr} {n c g i : Nat} {D : List Nat} (h : Dg w A n c D) (hf : ∀ a, A = some a → a.block ≠ g) (u : Value) : Dg (w.setCell ⟨g, i, none⟩ u) A n c D := by
  obtain ⟨⟨h1, h2, h3, h4⟩, hD⟩ := h
  refine ⟨⟨h1, h2, h3, fun hn => ?_⟩, hD⟩
  obtain ⟨b, o, e, hb, hc⟩ := h4 hn
  refine ⟨b, o, e, by simpa using hb, fun j hj => ?_⟩
  rw [World.cell?_setCell_other w _ _ u (by intro e2; have := hf _ e; injection e2 with e3; exact this e3.symm)]
  exact hc j hj
theorem divr_len {u q : List Nat} {v i r n : Nat} (h : DivR u v i q r) (hn : u.length = n) : q.length = n := h.1.trans hn
theorem rr_len {rr v K : Nat} (hr : rr < v) (hK : (dig v).length = K) : (dig rr).length ≤ K := by
  apply dig_length
  have := nv_lt (isD_dig v)
  rw [nv_dig, hK] at this
  omega
theorem next_len {p rr v K : Nat} (hp : p < 4294967296) (hr : rr < v) (hK : (dig v).length = K) : (dig (p + 4294967296 * rr)).length ≤ K + 1 := by
  apply dig_length
  have := nv_lt (isD_dig v)
  rw [nv_dig, hK] at this
  rw [pow_succ32]
  omega
theorem dig_one_le {x K : Nat} (hx : 0 < x) (hK : (dig x).length = K) : 1 ≤ K := by
  rcases Nat.eq_zero_or_pos K with h | h
  · exact absurd (dig_nil.1 (List.eq_nil_of_length_eq_zero (hK.trans h))) (Nat.pos_iff_ne_zero.1 hx)
  · exact h
theorem dig_top_pos {x K : Nat} (hx : 0 < x) (hK : (dig x).length = K) : 0 < (dig x).getD (K - 1) 0 := by
  have := dig_top x (fun e => absurd (dig_nil.1 e) (Nat.pos_iff_ne_zero.1 hx))
  rw [hK] at this
  exact Nat.pos_of_ne_zero this
theorem div_shift (a b s : Nat) : a * 2 ^ s / (b * 2 ^ s) = a / b ∧ a * 2 ^ s % (b * 2 ^ s) / 2 ^ s = a % b :=
  ⟨Nat.mul_div_mul_right _ _ (Nat.two_pow_pos s), by rw [Nat.mul_mod_mul_right, Nat.mul_div_cancel _ (Nat.two_pow_pos s)]⟩
set_option maxRecDepth 100000 in
set_option maxHeartbeats 4000000 in
theorem divmod1_any (D E : List Nat) (A B : Option Addr) (n c m c2 : Nat) (w : World) (h : Dg w A n c D) (h2 : Dg w B m c2 E) (hsm : n ≤ 100) (hsm2 : m ≤ 100) (hE : nv E ≠ 0) :
    Calls Try.prog 80 #[.slice A n c, .slice B m c2] w fun e w' =>
      ∃ A1 c1 A2 c2, e = .returned (.tuple #[.slice A1 (dig (nv D / nv E)).length c1, .slice A2 (dig (nv D % nv E)).length c2, .int .i64 0]) ∧
        Dg w' A1 (dig (nv D / nv E)).length c1 (dig (nv D / nv E)) ∧ Dg w' A2 (dig (nv D % nv E)).length c2 (dig (nv D % nv E)) ∧ Keeps w w' := by
  have HR := Lib.hid h
  have HE := Lib.hid h2
  have hE' := Lib.hid hE
  obtain ⟨i0, hi, hz0, hz1, hz2⟩ := info_parts u32_info
  obtain ⟨M, hM⟩ : ∃ M, (dig (nv E)).length = M := ⟨_, rfl⟩
  obtain ⟨s, hs1, hs, hM1⟩ := shift_by hE hM
  have hMm : M ≤ 100 := by have h1 := dig_length (nv_lt h2.2); rw [h2.len] at h1; omega
  have GN := Lib.hid (normalize_any E B m c2 w h2 (by omega))
  unfold RetDg at GN
  rw [hM] at GN
  have GB := Lib.hid (fun A1 c1 w1 (hd : Dg w1 A1 M c1 (dig (nv E))) => bitlen_any _ A1 M c1 w1 hd (by omega))
  rw [nv_dig] at GB
  have fs : 32 * (M : Int) - (bl (nv E) : Nat) = (s : Int) := by omega
  have fb : bl (nv E) ≤ 3200 := by omega
  generalize bl (nv E) = X at *
  have GU := Lib.hid (fun w1 (hk : Keeps w w1) => shiftl_any D A n c s w1 (HR.out.keep hk) (by omega) hs)
  have GV := Lib.hid (fun A1 c1 w1 (hd : Dg w1 A1 M c1 (dig (nv E))) => shiftl_any _ A1 M c1 s w1 hd (by omega) hs)
  rw [nv_dig] at GV
  have hM' := Lib.hid hM
  obtain ⟨N, hN⟩ : ∃ N, (dig (nv D * 2 ^ s)).length = N := ⟨_, rfl⟩
  have hN1 : N ≤ 101 := by
    rw [← hN]; have h1 := shl_len (nv_lt h.2) hs; rw [h.len] at h1; omega
  obtain ⟨K, hK⟩ : ∃ K, (dig (nv E * 2 ^ s)).length = K := ⟨_, rfl⟩
  have hK1 : K ≤ 101 := by
    rw [← hK]; have h1 := shl_len (nv_lt h2.2) hs; rw [h2.len] at h1; omega
  unfold RetDg at GU GV
  rw [hN] at GU
  rw [hK] at GV
  have hN' := Lib.hid hN
  have hK' := Lib.hid hK
  clear h h2 hM hE hN hK
  go_enter Try.func80, Try.ntmps80
  go_wp2_with (first | (go_at_call 88; (with_reducible refine GN.out.mono ?_); intro e w1 hret; obtain ⟨A1, c1, rfl, hT, hk1, hF1⟩ := hret)     | (go_at_call 89; (with_reducible refine (GB.out _ _ _ (by assumption)).mono ?_); rintro e w2 ⟨rfl, hk2⟩; have hT2 := hT.keep hk2; have hk2 := hk1.trans hk2)     | (go_at_call 90; (with_reducible refine (GU.out _ (by assumption)).mono ?_); intro e w3 hret; obtain ⟨A3, c3, rfl, hU, hk3, hF3⟩ := hret; have hT3 := hT2.keep hk3; have hk3 := hk2.trans hk3)     | (go_at_call 90; (with_reducible refine (GV.out _ _ _ (by assumption)).mono ?_); intro e w4 hret; obtain ⟨A4, c4, rfl, hV, hk4, hF4⟩ := hret; have hU4 := hU.keep hk4; have hk4 := hk3.trans hk4)     | ((with_reducible refine wpList_make_full _ rfl _ _ 95 rfl w.heap.size 108 i0 (.int .u32 0) 1 Try.underlying95 hi hz0 hz1 .i64 .i64 _ _ N rfl rfl (by omega) (by omega) (by rw [hz2]; omega) (by unfold maxLen; omega) hk4.size ?_); intro w5 hown5 hgrow5; have hk45 := Below.grown (Below.refl _ _) hgrow5 (Nat.le_refl _) (fun k hk => by cases hk); have hk5 := Keeps.trans hk4 hk45; rw [made_d32] at hown5; clear hgrow5))
  have hv0 : Hid (0 < nv E * 2 ^ s) := Nat.mul_pos (Nat.pos_of_ne_zero hE'.out) (Nat.two_pow_pos s)
  have hgl : w4.heap.size < w5.heap.size := (hown5.lt _ rfl).2
  have HU := Lib.hid hU4
  have HV := Lib.hid hV
  have GO := Lib.hid (fun (p rr : Nat) (hp : p < 4294967296) (hr : rr < nv E * 2 ^ s) A7 k7 c7 w7 (h7 : Dg w7 A7 k7 c7 (dig (p + 4294967296 * rr))) (hk : Keeps w4 w7) =>
    often_any _ _ A7 A4 k7 c7 K c4 w7 h7 (HV.out.keep hk) (by have := next_len hp hr hK'.out; rw [h7.len] at this; omega) (by omega)
      (dig_one_le hv0.out hK'.out) (by rw [nv_dig, nv_dig]; exact digit_lt hp hr) (dig_top_pos hv0.out hK'.out))
  simp only [nv_dig] at GO
  clear hT hT2 hT3 hU hU4 hV hk1 hk2 hk3 GN GB GU GV fs
  have hk5' := Lib.hid hk45
  have hown5' := Lib.hid hown5
  have hk4' := Lib.hid hk4
  clear hk45 hown5 hk4 hk5
  go_loopw [12, 13] (fun rv iv wr => ∃ (i : Int) (L : List Nat) (rr k : Nat) (A' : Option Addr) (c' : Nat), -1 ≤ i ∧ i < N ∧ iv = .int .i64 i ∧ rv = .slice A' k c' ∧ Dg wr A' k c' (dig rr) ∧ Hid (DivR (dig (nv D * 2 ^ s)) (nv E * 2 ^ s) (i + 1).toNat L rr) ∧ wr.ownsRow w.heap.size 108 1 (.slice (some ⟨w4.heap.size, 0, none⟩) N N) N (d32 L) ∧ Keeps w4 wr) (fun _ iv _ => (intOf iv + 1).toNat)
  case atStart => exact ⟨_, List.replicate N 0, 0, 0, _, 0, by omega, by omega, rfl, rfl, Dg.of_own' (D := dig 0) (by rw [dig_zero]; exact World.ownsRow_lit (base := w5.heap.size) w5 #[] 0 (Nat.le_refl _) (by unfold maxLen; omega) (by simp)) (isD_dig _),
    by have := DivR.zero (u := dig (nv D * 2 ^ s)) hv0.out; rw [hN'.out] at this; rw [show ((N : Int) - 1 + 1).toNat = N by omega]; exact this, hown5'.out.alloc _, Keeps.alloc hk5'.out _⟩
  case round =>
    rename World => wo
    obtain ⟨i, L, rr, k, A', c', hi0, hi1, rfl, rfl, hDr, hR, hown, hkw⟩ := hrel
    by_cases hlt : 0 ≤ i
    · obtain ⟨j, rfl⟩ := Int.eq_ofNat_of_zero_le hlt
      rw [show ((j : Int) + 1).toNat = j + 1 by omega] at hR
      have hjN : j < N := by omega
      have R1 := Lib.hid (hR.out.step (isD_dig _) (by rw [hN'.out]; exact hjN))
      have hrv := Lib.hid hR.out.2.2.2
      have hLl := Lib.hid (divr_len hR.out hN'.out)
      have hkK : k ≤ K := by have := rr_len hrv.out hK'.out; rw [hDr.len] at this; exact this
      obtain ⟨b, o, rfl, hb, hc0⟩ := HU.out.at_ (k := j) hjN
      have hc := (hkw.cell (p := ⟨b, o + j, none⟩) hb).trans hc0
      have bp := isD.getD (isD_dig (nv D * 2 ^ s)) j
      generalize (dig (nv D * 2 ^ s)).getD j 0 = p at *
      clear hR hc0 hlt
      have hDr' := Lib.hid hDr
      have hown' := Lib.hid hown
      have hkw' := Lib.hid hkw
      clear hDr hown hkw
      go_wp2
      go_loopw [14, 15] (fun nx tv wr => ∃ t : Nat, t ≤ k ∧ tv = .int .i64 t ∧ wr.ownsRow wo.heap.size 108 1 nx (t + 1) (d32 (p :: (dig rr).take t)) ∧ Keeps wo wr) (fun _ tv _ => k - (intOf tv).toNat)
      case atStart => exact ⟨0, by omega, rfl, World.ownsRow_lit wo #[.int .u32 (p : Int)] 1 (Nat.le_refl _) (by unfold maxLen; omega) (by simp), (Keeps.refl _).alloc _⟩
      case round =>
        obtain ⟨t, ht, rfl, hown2, hkq⟩ := hrel
        by_cases htk : t < k
        · obtain ⟨b', o', rfl, hb', hc0⟩ := hDr'.out.at_ (k := t) htk
          have hcr := (hkq.cell (p := ⟨b', o' + t, none⟩) hb').trans hc0
          have hT1 := Lib.hid (take_snoc' hDr'.out.len htk)
          have bz := isD.getD (isD_dig rr) t
          generalize (dig rr).getD t 0 = z at *
          clear hc0 hc
          go_wp2_with (at_builtin; refine wpList_append_own _ rfl _ _ 95 rfl wo.heap.size 108 i0 (.int .u32 0) 1 4 Try.underlying95 hi hz0 hz1 hz2 rfl (by decide) _ _ _ rfl (hown2.alloc _) ⟨wr.heap.size, 0, none⟩ 1 1 [.int .u32 ((z : Int))] rfl rfl (one_new _ _ _) (by intro u hu; simp at hu; subst hu; rfl) (by unfold maxLen; omega) (by omega) (by have := hkq.size; simp; omega) ?_; intro v1 w1 hown1 hgrow1 _; have hk1 := below_own hkq rfl hown2 hgrow1; clear hgrow1; (rw [show (((z : Int)) : Int) = ((z : Nat) : Int) by omega, d32_snoc] at hown1); rw [List.cons_append, ← hT1.out] at hown1)
          go_roundw
          case rel => exact ⟨t + 1, by omega, by go_num, by assumption, by assumption⟩
          case measure => simp [intOf]; omega
        · obtain rfl : t = k := by omega
          have hnext : isD (p :: (dig rr).take t) := isD_cons bp ((isD_dig rr).take t)
          obtain ⟨A6, c6, ev6, hD6⟩ := Dg.of_own hown2 hnext
          subst ev6
          have e6 : nv (p :: (dig rr).take t) = p + 4294967296 * rr := by rw [nv, nv_take_all _ (by rw [hDr'.out.len]; exact Nat.le_refl _), nv_dig]
          have GN := Lib.hid (normalize_any _ A6 (t + 1) c6 wr hD6 (by omega))
          rw [e6] at GN
          have hkq' := Lib.hid hkq
          have GO2 := Lib.hid (GO.out p rr bp hrv.out)
          have bQ := (Nat.div_lt_iff_lt_mul hv0.out).2 (digit_lt bp hrv.out)
          generalize (p + 4294967296 * rr) / (nv E * 2 ^ s) = Qn at *
          generalize (p + 4294967296 * rr) % (nv E * 2 ^ s) = Rn at *
          have hgo : w4.heap.size < wo.heap.size := (hown'.out.lt _ rfl).2
          clear e6 hown2 hkq hnext hc
          go_wp2_with (first | (go_at_call 88; (with_reducible refine GN.out.mono ?_); intro e w7 hret; obtain ⟨A7, c7, rfl, hD7, hk7, hF7⟩ := hret; have hk47 := Keeps.trans hkw'.out (Keeps.trans hkq'.out hk7); have ho7 := Keeps.trans hkq'.out hk7)             | (go_at_call 91; (with_reducible refine (GO2.out _ _ _ _ hD7 hk47).mono ?_); intro e w8 hret; obtain ⟨A8, c8, rfl, hD8, hk8, hF8⟩ := hret; have ho8 := Keeps.trans ho7 hk8; have hQ8 := own_keep hown'.out ho8; have hcO := (hQ8.cellAt j (by omega)).trans (d32_get (by rw [hLl.out]; omega)); have hfO := hQ8.frozenAt j; have hQ8' := Lib.hid hQ8; clear hQ8; have hk8' := Lib.hid (Keeps.trans hk47 hk8); have hsz := ho7.size))
          go_roundw
          case rel => exact ⟨(j : Int) - 1, L.set j Qn, Rn, _, A8, c8, by omega, by omega, rfl, rfl, Dg.far hD8 (fun a ha => by have := hF8 a ha; omega) _, by rw [show ((j : Int) - 1 + 1).toNat = j by omega]; exact R1.out, own_store0 hQ8'.out j Qn rfl, Keeps.setNew hk8'.out (Nat.le_refl _) _⟩
          case measure => first | (simp [intOf]; done) | (simp [intOf]; omega)
    · obtain rfl : i = -1 := by omega
      have R0 := (DivR.done hR.out)
      have hLd := hR.out.2.1
      have e1 : nv L = nv D / nv E := by rw [R0.1, nv_dig, (div_shift _ _ _).1]
      have e2 : rr / 2 ^ s = nv D % nv E := by rw [R0.2, nv_dig, (div_shift _ _ _).2]
      have GN := Lib.hid (normalize_any _ _ _ _ _ (Dg.of_own' hown hLd) (by omega))
      rw [e1] at GN
      have hkK : k ≤ K := by have := rr_len hR.out.2.2.2 hK'.out; rw [hDr.len] at this; exact this
      have GS := Lib.hid (fun w1 (hk : Keeps wo w1) => shiftn_any _ A' k c' s w1 (hDr.keep hk) (by omega) hs)
      rw [nv_dig, e2] at GS
      have hkw' := Lib.hid (Keeps.trans hk4'.out hkw)
      clear R0 hLd e1 e2 hown hDr hkw hR
      go_wp2_with (first | (go_at_call 88; (with_reducible refine GN.out.mono ?_); intro e w7 hret; obtain ⟨A7, c7, rfl, hD7, hk7, hF7⟩ := hret)         | (go_at_call 90; (with_reducible refine (GS.out _ hk7).mono ?_); intro e w8 hret; obtain ⟨A8, c8, rfl, hD8, hk8, hF8⟩ := hret; have hD9 := hD7.keep hk8; have hk9 := Keeps.trans hkw'.out (Keeps.trans hk7 hk8)))
      go_ret3
      exact ⟨_, _, _, _, rfl, by assumption, by assumption, by assumption⟩
end
end Go.Proofs.Ytihmhpleiefodaa
