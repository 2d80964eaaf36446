/- Contracts of reference 01: often, the digit of a quotient. -/
import Derived.Test.YtjfimlcljbdglaaN10
namespace Go.Proofs.Ytjfimlcljbdglaa
open Go.RowKit
set_option linter.unusedVariables false
set_option linter.unusedSimpArgs false

theorem quo_nat (x t : Nat) : ∃ g : Nat, x / t = g ∧ (x : Int).tdiv (t : Int) = (g : Int) ∧ g ≤ x := ⟨_, rfl, by rw [Int.tdiv_eq_ediv_of_nonneg (by omega)]; simp, Nat.div_le_self _ _⟩
theorem times_len {E : List Nat} {m d : Nat} (h : isD E) (hl : E.length = m) (hd : d < 4294967296) : (dig (nv E * d)).length ≤ m + 1 := by
  apply dig_length
  have h1 := nv_lt h
  rw [hl] at h1
  rw [pow_succ32, Nat.mul_comm 4294967296]
  exact Nat.mul_lt_mul'' h1 hd
theorem cmpN_le0 {a b : Nat} (h : a ≤ b) : cmpN a b ≤ 0 := by unfold cmpN; split <;> (try split) <;> omega
theorem quiet_l {P : Program} {f : FuncId} {args : Array Value} {w : World} {n : Nat} {v : Value}
    (h : Calls P f args (w.drewN n) fun e w' => e = .returned v ∧ w.drewN n = w') : Calls P f args (w.drewN n) fun e w'' => e = .returned v ∧ ∃ m, w'' = w.drewN m :=
  h.mono fun _ _ ⟨he, hm⟩ => ⟨he, n, hm.symm⟩
set_option maxRecDepth 100000 in
set_option maxHeartbeats 2000000 in
theorem often_any (R E : List Nat) (A B : Option Addr) (n c m c2 : Nat) (w : World) (h : Dg w A n c R) (h2 : Dg w B m c2 E) (hsm : n ≤ 500) (hsm2 : m ≤ 500) (hm0 : 1 ≤ m)
    (hlt : nv R < 4294967296 * nv E) (ht : 0 < E.getD (m - 1) 0) :
    Calls Try.prog 88 #[.slice A n c, .slice B m c2] w fun e w' =>
      ∃ A' c', e = .returned (.tuple #[.int .u64 ((nv R / nv E : Nat) : Int), .slice A' (dig (nv R % nv E)).length c']) ∧ Dg w' A' (dig (nv R % nv E)).length c' (dig (nv R % nv E)) ∧ Keeps w w' ∧ Fr w A' := by
  have HR := Lib.hid h
  have HE := Lib.hid h2
  have hlt := Lib.hid hlt
  have HG := Lib.hid (often_ge h.2 h2.2 (n := m - 1) (by rw [h2.len]; omega) hlt.out ht)
  rw [show m - 1 + 1 = m by omega] at HG
  obtain ⟨b', o', rfl, hb', hc1⟩ := h2.at_ (k := m - 1) (by omega)
  have b1 := isD.getD h.2 m
  have b2 := isD.getD h.2 (m - 1)
  have b3 := isD.getD h2.2 (m - 1)
  have G1 := Lib.hid (fun w' hk => digit_nat R A n c m w' w h hk (by omega))
  have G2 := Lib.hid (fun w' hk => digit_nat R A n c (m - 1) w' w h hk (by omega))
  rw [show ((m - 1 : Nat) : Int) = (m : Int) - 1 by omega] at G2
  generalize R.getD m 0 = q at *
  generalize R.getD (m - 1) 0 = p at *
  generalize E.getD (m - 1) 0 = t at *
  have f1 := i64_in ((m : Int) - 1) (by omega)
  have f2 : 0 ≤ (m : Int) - 1 := by omega
  have f3 : ((m : Int) - 1).toNat = m - 1 := by omega
  have f4 := u64_in ((q : Int) * 4294967296) (by omega)
  have f5 := u64_in ((q : Int) * 4294967296 + p) (by omega)
  have f7 : (m : Int) - 1 < m := by omega
  have f8 : (1 : Int) ≤ m := by omega
  have f9 : 0 < m := by omega
  have f10 := u64_in (t : Int) (by omega)
  have f11 : ¬ t = 0 := by omega
  obtain ⟨g, hg, hg2, bg⟩ := quo_nat (q * 4294967296 + p) t
  rw [hg] at HG
  rw [show ((q * 4294967296 + p : Nat) : Int) = (q : Int) * 4294967296 + p by omega] at hg2
  have f12 := u64_in (g : Int) (by omega)
  clear h h2 hg
  go_enter Try.func88, Try.ntmps88
  go_wp2_with fail
  go_quiet ((go_at_call 89; first | (with_reducible exact quiet_l (G1.out _ ((Keeps.refl _).drewN _))) | (with_reducible exact quiet_l (G2.out _ ((Keeps.refl _).drewN _)))))
  clear f1 f2 f3 f4 f5 f7 f10 f11 f12 hg2
  have hq1 : Hid (nv R / nv E ≤ g) := HG.out
  have hE0 : Hid (0 < nv E) := by
    unfold Hid
    rcases Nat.eq_zero_or_pos (nv E) with h | h
    · have := hlt.out; rw [h] at this; omega
    · exact h
  have hq2 : Hid (nv R / nv E ≤ 4294967295) := by
    have := (Nat.div_lt_iff_lt_mul hE0.out).2 (show nv R < 4294967296 * nv E from hlt.out)
    unfold Hid; omega
  have GT := Lib.hid (fun (d : Nat) (hd : d < 4294967296) w' (hk : Keeps w w') => times_any E (some ⟨b', o', none⟩) m c2 d w' (HE.out.keep hk) (by omega) hd)
  obtain ⟨Q, hQ⟩ : ∃ Q, Q = nv R / nv E := ⟨_, rfl⟩
  rw [← hQ] at hq1 hq2
  have hQ' := Lib.hid hQ
  have hq1' := hq1.out
  have hq2' := hq2.out
  clear hQ hq1 hq2 HG hlt
  have GT2 := Lib.hid (GT.out 4294967295 (by omega))
  rw [show ((4294967295 : Nat) : Int) = 4294967295 from rfl] at GT2
  by_cases hgm : g ≤ 4294967295
  · go_wp2_with (go_at_call 92; (with_reducible refine (GT.out _ (by omega) _ ((Keeps.refl w).drewN _)).mono ?_); intro e w2 hret; obtain ⟨A2, c2, rfl, hD2, hk2, hF2⟩ := hret; have hk3 := Keeps.trans ((Keeps.refl w).drewN _) hk2)
    go_loopw [8, 9] (fun x y wr => ∃ (d k : Nat) (A' : Option Addr) (c' : Nat), x = .int .u64 d ∧ y = .slice A' k c' ∧ Dg wr A' k c' (dig (nv E * d)) ∧ Q ≤ d ∧ d < 4294967296 ∧ Keeps w wr) (fun x _ _ => (intOf x).toNat)
    case atStart => exact ⟨g, _, A2, c2, rfl, rfl, by assumption, by omega, by omega, by assumption⟩
    case round =>
      obtain ⟨d, k, A', c', rfl, rfl, hDp, hqd, hd, hkw⟩ := hrel
      have hkl : k ≤ 501 := by have h1 := times_len HE.out.2 HE.out.len hd; rw [hDp.len] at h1; omega
      have GC := Lib.hid (cmp1_any _ _ _ _ _ _ _ _ wr hDp (HR.out.keep hkw) (by omega) (by omega))
      rw [nv_dig] at GC
      by_cases hdr : nv R < nv E * d
      · have h3 := often_step hQ'.out hqd (by rw [Nat.mul_comm]; exact hdr)
        have hd1 : 1 ≤ d := by omega
        have hle : nv E ≤ nv (dig (nv E * d)) := by rw [nv_dig]; exact Nat.le_mul_of_pos_right _ (by omega)
        have GS := Lib.hid (fun w' (hk : Keeps wr w') => sub1_ge _ _ _ _ _ _ _ _ w' (hDp.keep hk) (HE.out.keep (hkw.trans hk)) (by omega) (by omega) hle)
        have e1 : nv (dig (nv E * d)) - nv E = nv E * (d - 1) := by rw [nv_dig, Nat.mul_sub, Nat.mul_one]
        rw [e1] at GS
        rw [cmpN_gt hdr] at GC
        have hkk := Keeps.refl wr
        have hqd2 := h3.1
        clear h3 hle hdr e1
        go_wp2_with (first | (go_at_call 93; (with_reducible refine GC.out.mono ?_); rintro e w2 ⟨rfl, rfl⟩) | (go_at_call 94; (with_reducible refine (GS.out _ (by assumption)).mono ?_); intro e w2 hret; obtain ⟨A3, c3, rfl, hD3, hk3, hF3⟩ := hret; have hk4 := Keeps.trans hkw hk3; have hF4 := hF3.back hkw))
        go_roundw
        case rel => exact ⟨d - 1, _, _, _, by go_num, rfl, by assumption, by omega, by omega, by assumption⟩
        case measure => simp [intOf]; omega
      · have hle : nv (dig (nv E * d)) ≤ nv R := by rw [nv_dig]; omega
        have h3 := Lib.hid (often_done (r := nv R) (b := nv E) (d := d) hQ'.out hE0.out (by omega) (by rw [Nat.mul_comm]; omega))
        have GS := Lib.hid (fun w' (hk : Keeps wr w') => sub1_ge _ _ _ _ _ _ _ _ w' (HR.out.keep (hkw.trans hk)) (hDp.keep hk) (by omega) (by omega) hle)
        have e1 : nv R - nv (dig (nv E * d)) = nv R % nv E := by rw [nv_dig, Nat.mul_comm]; exact h3.out.2
        rw [e1] at GS
        obtain ⟨z, hz, hz0⟩ : ∃ z, cmpN (nv E * d) (nv R) = z ∧ z ≤ 0 := ⟨_, rfl, cmpN_le0 (by omega)⟩
        rw [hz] at GC
        have hkk := Keeps.refl wr
        have hd2 := Lib.hid h3.out.1
        clear hle hdr e1 hz h3
        go_wp2_with (first | (go_at_call 93; (with_reducible refine GC.out.mono ?_); rintro e w2 ⟨rfl, rfl⟩) | (go_at_call 94; (with_reducible refine (GS.out _ (by assumption)).mono ?_); intro e w2 hret; obtain ⟨A3, c3, rfl, hD3, hk3, hF3⟩ := hret; have hk4 := Keeps.trans hkw hk3; have hF4 := hF3.back hkw))
        go_ret2
        exact ⟨_, _, by rw [← hd2.out]; rfl, by assumption, by assumption, by assumption⟩
  · go_wp2_with (go_at_call 92; (with_reducible refine (GT2.out _ ((Keeps.refl w).drewN _)).mono ?_); intro e w2 hret; obtain ⟨A2, c2, rfl, hD2, hk2, hF2⟩ := hret; have hk3 := Keeps.trans ((Keeps.refl w).drewN _) hk2)
    go_loopw [8, 9] (fun x y wr => ∃ (d k : Nat) (A' : Option Addr) (c' : Nat), x = .int .u64 d ∧ y = .slice A' k c' ∧ Dg wr A' k c' (dig (nv E * d)) ∧ Q ≤ d ∧ d < 4294967296 ∧ Keeps w wr) (fun x _ _ => (intOf x).toNat)
    case atStart => exact ⟨4294967295, _, A2, c2, rfl, rfl, by assumption, by omega, by omega, by assumption⟩
    case round =>
      obtain ⟨d, k, A', c', rfl, rfl, hDp, hqd, hd, hkw⟩ := hrel
      have hkl : k ≤ 501 := by have h1 := times_len HE.out.2 HE.out.len hd; rw [hDp.len] at h1; omega
      have GC := Lib.hid (cmp1_any _ _ _ _ _ _ _ _ wr hDp (HR.out.keep hkw) (by omega) (by omega))
      rw [nv_dig] at GC
      by_cases hdr : nv R < nv E * d
      · have h3 := often_step hQ'.out hqd (by rw [Nat.mul_comm]; exact hdr)
        have hd1 : 1 ≤ d := by omega
        have hle : nv E ≤ nv (dig (nv E * d)) := by rw [nv_dig]; exact Nat.le_mul_of_pos_right _ (by omega)
        have GS := Lib.hid (fun w' (hk : Keeps wr w') => sub1_ge _ _ _ _ _ _ _ _ w' (hDp.keep hk) (HE.out.keep (hkw.trans hk)) (by omega) (by omega) hle)
        have e1 : nv (dig (nv E * d)) - nv E = nv E * (d - 1) := by rw [nv_dig, Nat.mul_sub, Nat.mul_one]
        rw [e1] at GS
        rw [cmpN_gt hdr] at GC
        have hkk := Keeps.refl wr
        have hqd2 := h3.1
        clear h3 hle hdr e1
        go_wp2_with (first | (go_at_call 93; (with_reducible refine GC.out.mono ?_); rintro e w2 ⟨rfl, rfl⟩) | (go_at_call 94; (with_reducible refine (GS.out _ (by assumption)).mono ?_); intro e w2 hret; obtain ⟨A3, c3, rfl, hD3, hk3, hF3⟩ := hret; have hk4 := Keeps.trans hkw hk3; have hF4 := hF3.back hkw))
        go_roundw
        case rel => exact ⟨d - 1, _, _, _, by go_num, rfl, by assumption, by omega, by omega, by assumption⟩
        case measure => simp [intOf]; omega
      · have hle : nv (dig (nv E * d)) ≤ nv R := by rw [nv_dig]; omega
        have h3 := Lib.hid (often_done (r := nv R) (b := nv E) (d := d) hQ'.out hE0.out (by omega) (by rw [Nat.mul_comm]; omega))
        have GS := Lib.hid (fun w' (hk : Keeps wr w') => sub1_ge _ _ _ _ _ _ _ _ w' (HR.out.keep (hkw.trans hk)) (hDp.keep hk) (by omega) (by omega) hle)
        have e1 : nv R - nv (dig (nv E * d)) = nv R % nv E := by rw [nv_dig, Nat.mul_comm]; exact h3.out.2
        rw [e1] at GS
        obtain ⟨z, hz, hz0⟩ : ∃ z, cmpN (nv E * d) (nv R) = z ∧ z ≤ 0 := ⟨_, rfl, cmpN_le0 (by omega)⟩
        rw [hz] at GC
        have hkk := Keeps.refl wr
        have hd2 := Lib.hid h3.out.1
        clear hle hdr e1 hz h3
        go_wp2_with (first | (go_at_call 93; (with_reducible refine GC.out.mono ?_); rintro e w2 ⟨rfl, rfl⟩) | (go_at_call 94; (with_reducible refine (GS.out _ (by assumption)).mono ?_); intro e w2 hret; obtain ⟨A3, c3, rfl, hD3, hk3, hF3⟩ := hret; have hk4 := Keeps.trans hkw hk3; have hF4 := hF3.back hkw))
        go_ret2
        exact ⟨_, _, by rw [← hd2.out]; rfl, by assumption, by assumption, by assumption⟩
end Go.Proofs.Ytjfimlcljbdglaa
