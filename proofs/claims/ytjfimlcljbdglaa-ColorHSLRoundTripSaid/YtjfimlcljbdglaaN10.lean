/- Contracts of reference 01: BitLen. -/
import Derived.Test.YtjfimlcljbdglaaN9
namespace Go.Proofs.Ytjfimlcljbdglaa
open Go.RowKit
set_option linter.unusedVariables false
set_option linter.unusedSimpArgs false

set_option maxRecDepth 100000 in
set_option maxHeartbeats 2000000 in
theorem bitlen_any (D : List Nat) (A : Option Addr) (n c : Nat) (w : World) (h : Dg w A n c D) (hsm : n ≤ 1000) :
    Calls Try.prog 86 #[.slice A n c] w fun e w' => e = .returned (.int .i64 (bl (nv D) : Nat)) ∧ Keeps w w' := by
  have hD1 := h
  have hK := Keeps.refl w
  by_cases h0 : nv D = 0
  · have hb : bl (nv D) = 0 := by rw [h0]; rfl
    rw [hb]
    have hn := Lib.hid (normalize_any D A n c w h (by omega))
    rw [h0, dig_zero] at hn
    clear h hD1 h0 hb
    go_enter Try.func86, Try.ntmps86
    go_wp2_with (go_at_call 85; (with_reducible refine hn.out.mono ?_); intro e w2 hret; obtain ⟨A2, c2, rfl, hD2, hk2, hF2⟩ := hret)
    go_ret
    exact ⟨rfl, by assumption⟩
  · obtain ⟨k, hk⟩ : ∃ k, (dig (nv D)).length = k + 1 := Nat.exists_eq_succ_of_ne_zero fun e => h0 (dig_nil.1 (List.eq_nil_of_length_eq_zero e))
    have hk' : k + 1 ≤ 1000 := by have h1 := dig_length (nv_lt h.2); rw [h.len] at h1; omega
    have htop := Lib.hid (bl_top (isD_dig (nv D)) hk (by have := dig_top (nv D) (fun e => h0 (dig_nil.1 e)); rwa [hk, Nat.add_sub_cancel] at this))
    rw [nv_dig] at htop
    have hn := Lib.hid (normalize_any D A n c w h (by omega))
    have hb := isD.getD (isD_dig (nv D)) k
    obtain ⟨X, hX⟩ : ∃ X, X = bl (nv D) := ⟨_, rfl⟩
    rw [← hX] at htop
    rw [← hX]
    have hbl : bl ((dig (nv D)).getD k 0) ≤ 32 := bl_lt.1 hb
    have hX2 : X ≤ 32032 := by rw [htop.out]; omega
    obtain ⟨t, ht⟩ : ∃ t, t = (dig (nv D)).getD k 0 := ⟨_, rfl⟩
    rw [← ht] at htop hb
    have HT := Lib.hid ht
    clear ht
    unfold RetDg at hn
    rw [hk] at hn
    have hnc : Hid (∀ A c w1, Dg w1 A (k + 1) c (dig (nv D)) → ∃ b o, A = some ⟨b, o, none⟩ ∧ w1.cell? ⟨b, o + k, none⟩ = some (.int .u32 (t : Int))) := fun A c w1 hd => by
      obtain ⟨b, o, e1, e2, e3⟩ := hd.at_ (k := k) (by omega)
      exact ⟨b, o, e1, by rw [HT.out]; exact e3⟩
    clear h hD1 h0 hX hk hbl
    go_enter Try.func86, Try.ntmps86
    go_wp2_with (go_at_call 85; (with_reducible refine hn.out.mono ?_); intro e w2 hret; obtain ⟨A2, c2, rfl, hD2, hk2, hF2⟩ := hret; obtain ⟨b, o, rfl, hcell⟩ := hnc.out _ _ _ hD2)
    go_loop [4, 5] (fun x y => ∃ a t : Nat, x = .int .i64 a ∧ y = .int .u32 t ∧ t < 4294967296 ∧ a ≤ X ∧ Hid (X = a + bl t)) (fun _ y => (intOf y).toNat)
    case atStart => exact ⟨32 * k, t, by go_num, rfl, hb, by rw [htop.out]; omega, htop.out⟩
    case round =>
      obtain ⟨a, t, rfl, rfl, hb, ha, hX⟩ := hrel
      by_cases h0 : t = 0
      · subst h0
        obtain rfl : X = a := by rw [hX.out]; rfl
        go_wp2
        go_ret
        exact ⟨rfl, by assumption⟩
      · have h0' : 0 < t := by omega
        have hX' := hX.out
        rw [bl_half h0] at hX'
        have hX'' := Lib.hid hX'
        have : a + 1 ≤ X := by omega
        clear hX' h0
        go_wp2
        go_round
        case rel => exact ⟨a + 1, t / 2, by go_num, by go_num, by omega, by omega, by have := hX''.out; unfold Hid; omega⟩
        case measure => simp [intOf]; omega
end Go.Proofs.Ytjfimlcljbdglaa
