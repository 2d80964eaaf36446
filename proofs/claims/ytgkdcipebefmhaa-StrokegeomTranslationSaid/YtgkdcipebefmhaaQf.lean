/- Contract of polygon.Orient. -/
import Derived.Test.YtgkdcipebefmhaaQe
namespace Go.Proofs.Ytgkdcipebefmhaa
open Go.RowKit
attribute [local go_sem ↓] Go.wp_at_zero Go.wp_at_succ
set_option linter.unusedVariables false
set_option linter.unusedSimpArgs false
theorem area_short {L : List Pt} (h : L.length < 2) : area L = 0 := by
  cases hv : validL L with
  | false => exact area_no hv
  | true =>
    rw [(area_yes hv).1]
    match L, h with
    | [], _ => rfl
    | [p], _ => simp [areaTo, nxt, crP, crossI, Int.mul_comm]
    | a :: b :: r, h => simp at h; omega
def OwnP (w0 : World) (L : List Pt) (e : Ending) (w' : World) : Prop := ∃ v, e = .returned v ∧ w'.ownsRow w0.heap.size 28 2 v L.length (rowP L) ∧ Keeps w0 w'
set_option maxRecDepth 100000 in
set_option maxHeartbeats 2000000 in
theorem orient_any (A : Option Addr) (n c : Nat) (L : List Pt) (w : World) (h : Pts w A n c L) (hn : n ≤ 1000000000000) :
    Calls Try.prog 40 #[.slice A n c] w (OwnP w (orient L)) := by
  have hl := h.1
  have K1 := Lib.hid (darea_any A n c L w h (by omega))
  have K2 := Lib.hid (fun w1 (hk : Keeps w w1) => clone_any A n c L w1 (h.keep hk) hn)
  have hsh := fun h2 => area_short (L := L) h2
  have hO0 := Lib.hid (show area L = 0 → orient L = [] from fun h => by unfold orient; rw [if_neg (by omega), if_neg (by omega)])
  have hO1 := Lib.hid (show 0 < area L → orient L = L from fun h => by unfold orient; rw [if_pos h])
  have hO2 := Lib.hid (show area L < 0 → orient L = L.take 1 ++ (L.drop 1).reverse from fun h => by unfold orient; rw [if_neg (by omega), if_pos h]; rfl)
  have hb := area_bd L
  have hrl := revT_length L
  unfold revT at hrl
  have hrl := Lib.hid hrl
  clear h
  rcases Int.lt_trichotomy (area L) 0 with h0 | h0 | h0
  · have h2 : 2 ≤ n := by
      rcases Nat.lt_or_ge L.length 2 with h3 | h3
      · have := hsh h3; omega
      · omega
    have hE := hO2.out h0
    rw [hE]
    clear hE hO0 hO1 hO2 hsh
    unfold OwnP
    rw [hrl.out]
    rw [hl]
    have hrl := Lib.hid hrl
    have t1 : (area L == 0) = false := by simp; omega
    have t2 : decide (area L < 0) = true := decide_eq_true h0
    have hll := Lib.hid hl
    clear hl
    generalize area L = x at *
    go_enter Try.func40, Try.ntmps40
    go_wp2_with (first | (go_at_call 56; (with_reducible refine K1.out.mono ?_); rintro e w1 ⟨rfl, hk⟩; have hk := Lib.hid hk) | (go_at_call 57; (with_reducible refine (K2.out _ hk.out).mono ?_); rintro e w2 ⟨v, rfl, hown, hk2⟩; have hk3 := Lib.hid (hk.out.trans hk2); clear hk2; obtain ⟨g, cap, rfl, hcap, hBg, hown2⟩ := own_slice hown (by omega); have hR := Lib.hid (rev_any _ g cap n 1 (n - 1) (cap - 1) L w2 hown2 hll.out (by omega) hn); rw [Nat.one_mul] at hR; clear hown hown2; have hc1 : ¬ cap = 1 := (by omega); have hc2 : (1 : Int) ≤ n := (by omega); have hc3 : 1 ≤ n := (by omega)) | (go_at_call 58; (with_reducible refine hR.out.mono ?_); rintro e w3 ⟨rfl, hown, hkk⟩; have hown := Lib.hid hown; have hkk := Lib.hid hkk))
    go_ret
    exact ⟨_, rfl, own_base hown.out hk.out.size, hkk.out _ hk3.out hk.out.size⟩
  · have hE := hO0.out h0
    rw [hE]
    clear hE hO0 hO1 hO2 hsh
    have t1 : (area L == 0) = true := by simp; omega
    clear hb
    generalize area L = x at *
    go_enter Try.func40, Try.ntmps40
    go_wp2_with (first | (go_at_call 56; (with_reducible refine K1.out.mono ?_); rintro e w1 ⟨rfl, hk⟩))
    go_ret
    exact ⟨_, rfl, World.ownsRow_nil _ _ _ _, hk⟩
  · have hE := hO1.out h0
    rw [hE]
    clear hE hO0 hO1 hO2 hsh
    have t1 : (area L == 0) = false := by simp; omega
    have t2 : decide (area L < 0) = false := decide_eq_false (by omega)
    generalize area L = x at *
    go_enter Try.func40, Try.ntmps40
    go_wp2_with (first | (go_at_call 56; (with_reducible refine K1.out.mono ?_); rintro e w1 ⟨rfl, hk⟩; have hk := Lib.hid hk) | (go_at_call 57; (with_reducible refine (K2.out _ hk.out).mono ?_); rintro e w2 ⟨v, rfl, hown, hk2⟩; have hown := Lib.hid hown; have hk2 := Lib.hid hk2))
    go_ret
    exact ⟨_, rfl, by rw [hl]; exact own_base hown.out hk.out.size, hk.out.trans hk2.out⟩
end Go.Proofs.Ytgkdcipebefmhaa
