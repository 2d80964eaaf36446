/- Contracts of reference 01: Mul. -/
import Derived.Test.YtjfimlcljbdglaaN6
import Derived.Deep.QuietTactic
import Derived.BigQuiet
namespace Go.Proofs.Ytjfimlcljbdglaa
open Go.RowKit
set_option linter.unusedVariables false
set_option linter.unusedSimpArgs false

theorem made_d32 (N : Nat) : (madeCells (Value.int .u32 0).cells (N * 1)).toList = d32 (List.replicate N 0) := by
  rw [Nat.mul_one]
  show (madeCells #[Value.int .u32 0] N).toList = _
  rw [toList_madeCells_one]; simp [d32]
theorem u64_in (n : Int) (h : 0 ≤ n ∧ n < 18446744073709551616) : IntKind.u64.wrap n = n := by rw [IntKind.wrap_u64]; omega
theorem i64_in (n : Int) (h : -9223372036854775808 ≤ n ∧ n < 9223372036854775808) : IntKind.i64.wrap n = n := by rw [IntKind.wrap_i64]; omega
theorem Dg.of_own' {w : World} {base c n : Nat} {e : TypeId} {A : Option Addr} {D : List Nat} (h : w.ownsRow base e 1 (.slice A n c) n (d32 D)) (hD : isD D) : Dg w A n c D := by
  obtain ⟨A', c', e', hs⟩ := Dg.of_own h hD
  injection e' with e1 e2 e3
  subst e1 e3
  exact hs
theorem own_store {w : World} {B N g : Nat} {e : TypeId} {L : List Nat} (h : w.ownsRow B e 1 (.slice (some ⟨g, 0, none⟩) N N) N (d32 L)) (nq i y : Nat) {yi : Int} (hy : yi = (y : Int)) :
    ((w.drewN nq).setCell ⟨g, i, none⟩ (.int .u32 yi)).ownsRow B e 1 (.slice (some ⟨g, 0, none⟩) N N) N (d32 (L.set i y)) := by
  subst hy
  rw [← d32_set]
  exact (World.ownsRow.stored (w := w.drewN nq) h i _).1
theorem own_store0 {w : World} {B N g : Nat} {e : TypeId} {L : List Nat} (h : w.ownsRow B e 1 (.slice (some ⟨g, 0, none⟩) N N) N (d32 L)) (i y : Nat) {yi : Int} (hy : yi = (y : Int)) :
    (w.setCell ⟨g, i, none⟩ (.int .u32 yi)).ownsRow B e 1 (.slice (some ⟨g, 0, none⟩) N N) N (d32 (L.set i y)) := own_store h 0 i y hy
set_option maxRecDepth 100000 in
set_option maxHeartbeats 2000000 in
theorem mul1_any (D E : List Nat) (A B : Option Addr) (n c m c2 : Nat) (w : World) (h : Dg w A n c D) (h2 : Dg w B m c2 E) (hsm : n ≤ 1000) (hsm2 : m ≤ 1000) :
    Calls Try.prog 83 #[.slice A n c, .slice B m c2] w (RetDg w (dig (nv D * nv E))) := by
  have hl := Lib.hid h.len
  have hl2 := Lib.hid h2.len
  have HD := Lib.hid h
  have HE := Lib.hid h2
  obtain ⟨i0, hi, hz0, hz1, hz2⟩ := info_parts u32_info
  have hK := Keeps.refl w
  obtain ⟨N, hN0⟩ : ∃ N, N = n + m + 1 := ⟨_, rfl⟩
  have hN := Lib.hid hN0
  have hN1 : (N : Int) ≤ 2001 := by omega
  have hN2 : (n : Int) + m + 1 = N := by omega
  clear h h2 hN0
  go_enter Try.func83, Try.ntmps83
  go_wp2_with ((with_reducible refine wpList_make_full _ rfl _ _ 84 rfl w.heap.size 99 i0 (.int .u32 0) 1 Try.underlying84 hi hz0 hz1 .i64 .i64 _ _ N rfl rfl (by omega) (by omega) (by rw [hz2]; omega) (by unfold maxLen; omega) (Nat.le_refl _) ?_); intro w1 hown1 hgrow1; have hk1 : Keeps w w1 := Below.grown (Below.refl _ _) hgrow1 (Nat.le_refl _) (fun k hk => by cases hk); rw [made_d32] at hown1; clear hgrow1)
  clear hN2
  go_loopw [6] (fun i wr => ∃ (j : Nat) (L : List Nat), j ≤ n ∧ i = .int .i64 j ∧ Hid (MulR D E j L) ∧ wr.ownsRow w.heap.size 99 1 (.slice (some ⟨w.heap.size, 0, none⟩) N N) N (d32 L) ∧ Keeps w wr) (fun i _ => n - (intOf i).toNat)
  case atStart => exact ⟨0, List.replicate N 0, by omega, rfl, by have := MulR.zero D E; rw [hl.out, hl2.out, ← hN.out] at this; exact this, by assumption, by assumption⟩
  case round =>
    obtain ⟨j, L, hj, rfl, hR, hown, hkw⟩ := hrel
    by_cases hlt : j < n
    · go_wp2
      go_loopw [7, 8] (fun cy k wr => ∃ (t x : Nat) (L : List Nat), t ≤ m ∧ k = .int .i64 t ∧ cy = .int .u64 x ∧ Hid (MulI D E j t L x) ∧ wr.ownsRow w.heap.size 99 1 (.slice (some ⟨w.heap.size, 0, none⟩) N N) N (d32 L) ∧ Keeps w wr) (fun _ k _ => m - (intOf k).toNat)
      case atStart => exact ⟨0, 0, L, by omega, rfl, rfl, MulI.zero hR.out, hown, hkw⟩
      case round =>
        clear hown hkw hR
        obtain ⟨t, x, L, ht, rfl, rfl, hR, hown, hkw⟩ := hrel
        by_cases htm : t < m
        · have R1 := Lib.hid (hR.out.step HD.out.2 HE.out.2 (by rw [hl.out]; exact hlt) (by rw [hl2.out]; exact htm))
          have bx := hR.out.2.2.2.1
          have hLl : Hid (L.length = N) := hR.out.1.trans (by rw [hl.out, hl2.out, hN.out])
          have b1 := isD.getD HD.out.2 j
          have b2 := isD.getD HE.out.2 t
          have b3 := isD.getD hR.out.2.1 (j + t)
          obtain ⟨b, o, rfl, hb, hc0⟩ := HD.out.at_ (k := j) hlt
          have hcA := (hkw.cell (p := ⟨b, o + j, none⟩) hb).trans hc0
          obtain ⟨b', o', rfl, hb', hc1⟩ := HE.out.at_ (k := t) htm
          have hcB := (hkw.cell (p := ⟨b', o' + t, none⟩) hb').trans hc1
          have hjN : j + t < N := by have := hN.out; omega
          have hcO : wr.cell? ⟨w.heap.size, j + t, none⟩ = some (.int .u32 ((L.getD (j + t) 0 : Nat) : Int)) := (hown.cellAt (j + t) (by omega)).trans (d32_get (by rw [hLl.out]; omega))
          have hfO : wr.frozen? ⟨w.heap.size, j + t, none⟩ = false := hown.frozenAt _
          have hown' := Lib.hid hown
          have hkw' := Lib.hid hkw
          clear hc0 hc1 hR hown hkw
          generalize D.getD j 0 = p at *
          generalize E.getD t 0 = q at *
          generalize L.getD (j + t) 0 = r at *
          obtain ⟨M, em, em2, bm⟩ := mul_nat p q b1 b2
          rw [em] at R1
          clear em
          have f1 := i64_in ((j : Int) + t) (by omega)
          have f2 : 0 ≤ (j : Int) + t := by omega
          have f3 : ((j : Int) + t).toNat = j + t := by omega
          have f4 := u64_in (M : Int) (by omega)
          have f5 := u64_in ((M : Int) + r) (by omega)
          have f6 := u64_in ((M : Int) + r + x) (by omega)
          have f7 : (j : Int) + t < N := by omega
          have f8 : (j : Int) < n := by omega
          have f9 : (t : Int) < m := by omega
          go_wp2_with fail
          go_quiet (fail)
          go_wp2
          go_roundw
          case rel => exact ⟨t + 1, (M + r + x) / 4294967296, L.set (j + t) ((M + r + x) % 4294967296), by omega, by go_num, by go_num, R1.out, own_store hown'.out nq _ _ (by omega), Keeps.setNew (hkw'.out.drewN _) (Nat.le_refl _) _⟩
          case measure => simp [intOf]; omega
        · obtain rfl : t = m := by omega
          have R0 := hR.out
          rw [← hl2.out] at R0
          have R1 := Lib.hid (MulR.step (by rw [hl.out]; exact hlt) R0)
          rw [hl2.out] at R1
          have bx := hR.out.2.2.2.1
          have hLl : Hid (L.length = N) := hR.out.1.trans (by rw [hl.out, hl2.out, hN.out])
          have hjN : j + t < N := by have := hN.out; omega
          have hcO : wr.cell? ⟨w.heap.size, j + t, none⟩ = some (.int .u32 ((L.getD (j + t) 0 : Nat) : Int)) := (hown.cellAt (j + t) (by omega)).trans (d32_get (by rw [hLl.out]; omega))
          have hfO : wr.frozen? ⟨w.heap.size, j + t, none⟩ = false := hown.frozenAt _
          have hown' := Lib.hid hown
          have hkw' := Lib.hid hkw
          clear hR hown hkw R0
          generalize L.getD (j + t) 0 = r at *
          go_wp2
          go_roundw
          case rel => exact ⟨j + 1, L.set (j + t) x, by omega, by go_num, R1.out, own_store0 hown'.out _ _ (by omega), Keeps.setNew hkw'.out (Nat.le_refl _) _⟩
          case measure => simp [intOf]; omega
    · obtain rfl : j = n := by omega
      have R0 := hR.out
      rw [← hl.out] at R0
      have R1 := Lib.hid R0.done
      have hD1 := Dg.of_own' hown hR.out.2.1
      clear hR R0
      go_wp2_with (go_at_call 85; (with_reducible refine (normalize_any _ _ _ _ _ hD1 (by omega)).mono ?_); intro e w2 hret; have hret2 := hret; obtain ⟨A2, c2, rfl, hD2, hk2, hF2⟩ := hret)
      go_ret
      exact RetDg.of_norm (by assumption) R1.out (by assumption)
end Go.Proofs.Ytjfimlcljbdglaa
