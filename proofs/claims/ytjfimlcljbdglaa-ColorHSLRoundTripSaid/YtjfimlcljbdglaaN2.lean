/- Contracts of reference 01: Normalize. -/
import Derived.Test.YtjfimlcljbdglaaN1
namespace Go.Proofs.Ytjfimlcljbdglaa
open Go.RowKit
set_option linter.unusedVariables false
set_option linter.unusedSimpArgs false
theorem u32_info : (Try.prog.info? 99).map (fun i => (i.zero, i.size, i.bytes)) = some (some (.int .u32 0), 1, 4) := by kernel_rfl
set_option maxRecDepth 100000 in
set_option maxHeartbeats 1000000 in
theorem normalize_any (D : List Nat) (A : Option Addr) (n c : Nat) (w : World) (h : Dg w A n c D) (hsm : n ≤ 100000) :
    Calls Try.prog 85 #[.slice A n c] w (RetDg w (dig (nv D))) := by
  have hl := Lib.hid h.len
  have HD := Lib.hid h
  obtain ⟨i0, hi, hz0, hz1, hz2⟩ := info_parts u32_info
  clear h
  go_enter Try.func85, Try.ntmps85
  go_wp2
  go_loop [3] (fun t => ∃ k : Nat, k ≤ n ∧ t = .int .i64 k ∧ Hid (∀ j, k ≤ j → D.getD j 0 = 0)) (fun t => (intOf t).toNat)
  case atStart => exact ⟨n, Nat.le_refl _, rfl, fun j hj => by rw [List.getD_eq_getElem?_getD, List.getElem?_eq_none (by rw [hl.out]; exact hj)]; rfl⟩
  case round =>
    obtain ⟨k, hk, rfl, hz⟩ := hrel
    by_cases hgo : k ≠ 0 ∧ D.getD (k - 1) 0 = 0
    · obtain ⟨hk0, hd⟩ := hgo
      obtain ⟨b, o, rfl, hb, hc⟩ := HD.out.at_ (k := k - 1) (by omega)
      have hd' := Lib.hid hd
      rw [hd] at hc
      clear hd
      have t1 : decide ((0 : Int) < k) = true := decide_eq_true (by omega)
      go_wp2
      go_round
      case rel => exact ⟨k - 1, by omega, by go_num, fun j hj => by
        rcases Nat.lt_or_ge j k with h | h
        · rw [show j = k - 1 by omega]; exact hd'.out
        · exact hz j h⟩
      case measure => simp [intOf]; omega
    · have hT := Lib.hid (take_dig (n := k) HD.out.2 (by rw [hl.out]; exact hk) hz (fun h0 hd => hgo ⟨h0, hd⟩))
      clear hz
      by_cases hk0 : 0 < k
      · obtain ⟨b, o, rfl, hb', hc⟩ := HD.out.at_ (k := k - 1) (by omega)
        obtain ⟨d, hd, hd0⟩ : ∃ d, D.getD (k - 1) 0 = d ∧ ((d : Int) == 0) = false := ⟨_, rfl, by simpa using fun e => hgo ⟨by omega, e⟩⟩
        rw [hd] at hc
        clear hd hgo
        go_wp2
        clear hc hd0
        go_loopw [4, 5] (fun v i wr => ∃ j : Nat, j ≤ k ∧ i = .int .i64 j ∧ wr.ownsRow w.heap.size 99 1 v j (d32 (D.take j)) ∧ Keeps w wr) (fun _ i _ => k - (intOf i).toNat)
        case atStart => exact ⟨0, by omega, rfl, World.ownsRow_lit w #[] 0 (Nat.le_refl _) (by unfold maxLen; omega) (by simp), by exact (Keeps.refl _).alloc _⟩
        case round =>
          obtain ⟨j, hj, rfl, hown, hkw⟩ := hrel
          by_cases hlt : j < k
          · obtain ⟨hb, hc0⟩ := HD.out.cellAt (k := j) (by omega)
            have hc := (hkw.cell (p := ⟨b, o + j, none⟩) hb).trans hc0
            have hT1 := Lib.hid (take_snoc' hl.out (show j < n by omega))
            generalize D.getD j 0 = d at *
            clear hc0
            go_wp2_with (at_builtin; refine wpList_append_own _ rfl _ _ 84 rfl w.heap.size 99 i0 (.int .u32 0) 1 4 Try.underlying84 hi hz0 hz1 hz2 rfl (by decide) _ _ _ rfl (hown.alloc _) ⟨wr.heap.size, 0, none⟩ 1 1 [.int .u32 (d : Int)] rfl rfl (one_new _ _ _) (by intro u hu; simp at hu; subst hu; rfl) (by unfold maxLen; omega) (by omega) (by have := hkw.size; simp; omega) ?_; intro v1 w1 hown1 hgrow1 _; have hk1 := below_own hkw rfl hown hgrow1; clear hgrow1; rw [d32_snoc, ← hT1.out] at hown1)
            go_roundw
            case rel => exact ⟨j + 1, by omega, by go_num, by assumption, by assumption⟩
            case measure => simp [intOf]; omega
          · obtain rfl : j = k := by omega
            rw [hT.out] at hown
            obtain ⟨A', c', rfl, hD'⟩ := Dg.of_own hown (isD_dig _)
            have hfr : Fr w A' := own_fresh hown
            have hl2 : (dig (nv D)).length = j := hD'.len
            have hret : RetDg w (dig (nv D)) (.returned (.slice A' j c')) wr := ⟨A', c', by rw [hl2], by rw [hl2]; exact hD', hkw, hfr⟩
            clear hl2 hown hT hl HD
            go_wp2
            go_ret
            exact hret
      · clear hgo
        go_wp2
        clear hk0
        go_loopw [4, 5] (fun v i wr => ∃ j : Nat, j ≤ k ∧ i = .int .i64 j ∧ wr.ownsRow w.heap.size 99 1 v j (d32 (D.take j)) ∧ Keeps w wr) (fun _ i _ => k - (intOf i).toNat)
        case atStart => exact ⟨0, by omega, rfl, World.ownsRow_lit w #[] 0 (Nat.le_refl _) (by unfold maxLen; omega) (by simp), by exact (Keeps.refl _).alloc _⟩
        case round =>
          obtain ⟨j, hj, rfl, hown, hkw⟩ := hrel
          by_cases hlt : j < k
          · obtain ⟨b, o, rfl, hb, hc0⟩ := HD.out.at_ (k := j) (by omega)
            have hc := (hkw.cell (p := ⟨b, o + j, none⟩) hb).trans hc0
            have hT1 := Lib.hid (take_snoc' hl.out (show j < n by omega))
            generalize D.getD j 0 = d at *
            clear hc0
            go_wp2_with (at_builtin; refine wpList_append_own _ rfl _ _ 84 rfl w.heap.size 99 i0 (.int .u32 0) 1 4 Try.underlying84 hi hz0 hz1 hz2 rfl (by decide) _ _ _ rfl (hown.alloc _) ⟨wr.heap.size, 0, none⟩ 1 1 [.int .u32 (d : Int)] rfl rfl (one_new _ _ _) (by intro u hu; simp at hu; subst hu; rfl) (by unfold maxLen; omega) (by omega) (by have := hkw.size; simp; omega) ?_; intro v1 w1 hown1 hgrow1 _; have hk1 := below_own hkw rfl hown hgrow1; clear hgrow1; rw [d32_snoc, ← hT1.out] at hown1)
            go_roundw
            case rel => exact ⟨j + 1, by omega, by go_num, by assumption, by assumption⟩
            case measure => simp [intOf]; omega
          · obtain rfl : j = k := by omega
            rw [hT.out] at hown
            obtain ⟨A', c', rfl, hD'⟩ := Dg.of_own hown (isD_dig _)
            have hfr : Fr w A' := own_fresh hown
            have hl2 : (dig (nv D)).length = j := hD'.len
            have hret : RetDg w (dig (nv D)) (.returned (.slice A' j c')) wr := ⟨A', c', by rw [hl2], by rw [hl2]; exact hD', hkw, hfr⟩
            clear hl2 hown hT hl HD
            go_wp2
            go_ret
            exact hret
end Go.Proofs.Ytjfimlcljbdglaa
