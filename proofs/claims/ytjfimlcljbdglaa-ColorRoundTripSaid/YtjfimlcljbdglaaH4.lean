/- Contracts of the hexadecimal functions: DecodeHex. -/
import Derived.Test.YtjfimlcljbdglaaH3
import Derived.Test.YtjfimlcljbdglaaN12
namespace Go.Proofs.Ytjfimlcljbdglaa
open Go.RowKit
set_option linter.unusedVariables false
set_option linter.unusedSimpArgs false
/-- What DecodeHex returns of these bytes, in a world that keeps the old one. -/
def RetBy (L : List Nat) (w : World) (e : Ending) (w' : World) : Prop :=
  Keeps w w' ∧ ((∃ D A c, unhex L = some D ∧ e = .returned (.tuple #[.slice A D.length c, .int .i64 0]) ∧ By w' A D.length c D) ∨ (unhex L = none ∧ e = .returned (.tuple #[.slice none 0 0, .int .i64 3])))
theorem hexV_nat {c : Nat} (h : ¬ hexV c < 0) : ∃ x : Nat, hexV c = x ∧ x < 16 := by
  have := hexV_lt c
  exact ⟨(hexV c).toNat, by omega, by omega⟩

theorem own_drewN {w : World} {b : Nat} {e : TypeId} {k : Nat} {v : Value} {n : Nat} {xs : List Value} (h : w.ownsRow b e k v n xs) (m : Nat) : (w.drewN m).ownsRow b e k v n xs := by
  induction m with
  | zero => exact h
  | succ m ih => rw [← World.drew_drewN]; exact World.ownsRow.drew ih

set_option maxRecDepth 100000 in
set_option maxHeartbeats 1000000 in
theorem decode_any (s : ByteArray) (w : World) (hn : s.size % 2 = 0) (hsm : s.size ≤ 100000) :
    Calls Try.prog 40 #[.string s] w (RetBy (bytesOf s) w) := by
  have hlen := Lib.hid (bytesOf_length s)
  obtain ⟨n, hn2⟩ : ∃ n, s.size = 2 * n := ⟨s.size / 2, by omega⟩
  have f1 : ((s.size : Nat) : Int) = 2 * n := by omega
  have f2 : ((2 * (n : Int))).tmod 2 = 0 := Int.mul_tmod_right _ _
  obtain ⟨i0, hi, hz0, hz1, hz2⟩ := info_parts u8_info
  have hbd := Lib.hid (bytesOf_bd s)
  have hK := Keeps.refl w
  go_enter Try.func40, Try.ntmps40
  go_wp2
  go_loopw [4, 5] (fun v i wr => ∃ (j : Nat) (D : List Nat), j ≤ n ∧ i = .int .i64 (2 * j) ∧ wr.ownsRow w.heap.size 5 1 v j (d8 D) ∧ Hid (UnR (bytesOf s) j D) ∧ Keeps w wr) (fun _ i _ => 2 * n - (intOf i).toNat)
  case atStart => exact ⟨0, [], by omega, rfl, World.ownsRow_nil _ _ _ _, UnR.zero _, by assumption⟩
  case round =>
    obtain ⟨j, D, hj, rfl, hown, hR, hkw⟩ := hrel
    by_cases hlt : j < n
    · have e1 := fun w => index_byte (P := Try.prog) w 9 s (2 * j) Try.underlying9 (by omega)
      have e2 := fun w => index_byte (P := Try.prog) w 9 s (2 * j + 1) Try.underlying9 (by omega)
      have HN := Lib.hid (fun hb => hR.out.bad (by rw [hlen.out]; omega) hb)
      have HS := Lib.hid (fun x y hx hy => hR.out.step (x := x) (y := y) (by rw [hlen.out]; omega) hx hy)
      have b1 := by_getD hbd.out (2 * j)
      have b2 := by_getD hbd.out (2 * j + 1)
      generalize (bytesOf s).getD (2 * j) 0 = p at *
      generalize (bytesOf s).getD (2 * j + 1) 0 = q at *
      rw [show ((2 * j : Nat) : Int) = 2 * (j : Int) by omega] at e1
      rw [show ((2 * j + 1 : Nat) : Int) = 2 * (j : Int) + 1 by omega] at e2
      have G1 := Lib.hid (fun w => value_any p w b1)
      have G2 := Lib.hid (fun w => value_any q w b2)
      go_wp2
      go_quiet ((go_at_call 64; first | (with_reducible exact quiet_l (G1.out _)) | (with_reducible exact quiet_l (G2.out _))))
      by_cases hp : hexV p < 0
      · have HN2 := HN.out (Or.inl hp)
        generalize hexV p = x at *
        go_wp2
        go_ret2
        exact ⟨hkw.drewN _, Or.inr ⟨HN2, rfl⟩⟩
      · by_cases hq : hexV q < 0
        · have HN2 := HN.out (Or.inr hq)
          generalize hexV p = x at *
          generalize hexV q = y at *
          go_wp2
          go_ret2
          exact ⟨hkw.drewN _, Or.inr ⟨HN2, rfl⟩⟩
        · obtain ⟨x, hx, lx⟩ := hexV_nat hp
          obtain ⟨y, hy, ly⟩ := hexV_nat hq
          have HS := Lib.hid (HS.out x y hx hy)
          rw [hx, hy] at *
          have o1 := or_shift x y lx ly
          clear hp hq hx hy G1 G2 HN
          have hown := own_drewN hown nq
          have hkw := hkw.drewN nq
          go_wp2_with (at_builtin; refine wpList_append_own _ rfl _ _ 55 rfl w.heap.size 5 i0 (.int .u8 0) 1 1 Try.underlying55 hi hz0 hz1 hz2 rfl (by decide) _ _ _ rfl (hown.alloc _) ⟨wr.heap.size, 0, none⟩ 1 1 [.int .u8 (16 * (x : Int) + y)] rfl rfl (one_new (wr.drewN nq) _ _) (by intro u hu; simp at hu; subst hu; rfl) (by unfold maxLen; omega) (by omega) (by have := hkw.size; exact Nat.le_trans this (by simp)) ?_; intro v1 w1 hown1 hgrow1 _; have hk1 := below_own hkw rfl hown hgrow1; clear hgrow1; (rw [show (16 * (x : Int) + y) = ((16 * x + y : Nat) : Int) by omega, d8_snoc] at hown1))
          go_roundw
          case rel => exact ⟨j + 1, D ++ [16 * x + y], by omega, by go_num, by assumption, HS.out, by assumption⟩
          case measure => simp [intOf]; omega
    · obtain rfl : j = n := by omega
      obtain ⟨A', c', ev, hB⟩ := By.of_own hown (by exact hR.out.2.2)
      subst ev
      have hD := hR.out.done (by rw [hlen.out]; omega)
      have hl := hR.out.1
      clear hown
      go_wp2
      go_ret2
      refine ⟨by assumption, Or.inl ⟨D, A', c', hD, ?_, ?_⟩⟩
      · rw [hl]; rfl
      · rw [hl]; exact hB
end Go.Proofs.Ytjfimlcljbdglaa
