/- The segments of a polyline: plain, and the iterator's contract. -/
import Derived.Test.YtihmhpleiefodaaDd
import Derived.Test.YtihmhpleiefodaaKw
import Derived.RangeFuncNested
import Derived.RangeFuncBound
import Derived.RangeFuncCalls
import Derived.RangeFuncLeaves
import Derived.Shelf.Abstract
import Derived.Shelf.RegionOpen
import Derived.WalkKit
import Derived.OwnWalkIn
import Derived.TacticsInMore
import Derived.LoopNIn
import Derived.LoopIn
namespace Go.Proofs.Ytihmhpleiefodaa
open Go.RowKit Go.Shelf
set_option linter.unusedVariables false
set_option linter.unusedSimpArgs false
/-- segment j of a polyline -/
def seg (M : List Pt) (j : Nat) : Pt × Pt := (M.getD j pt0, M.getD ((j + 1) % M.length) pt0)
def segN (cl : Bool) (n : Nat) : Nat := if n ≤ 1 then 0 else if cl = true then n else n - 1
def upS (M : List Pt) (k : Nat) : List (Pt × Pt) := (List.range k).map (seg M)
def segs (cl : Bool) (M : List Pt) : List (Pt × Pt) := upS M (segN cl M.length)
theorem upS_succ (M : List Pt) (k : Nat) : upS M (k + 1) = upS M k ++ [seg M k] := by simp [upS, List.range_succ]
theorem upS_len (M : List Pt) (k : Nat) : (upS M k).length = k := by simp [upS]
theorem upS_pre (M : List Pt) (k n : Nat) (h : k ≤ n) : upS M k <+: upS M n := by
  obtain ⟨d, rfl⟩ := Nat.exists_eq_add_of_le h
  unfold upS
  rw [List.range_add, List.map_append]
  exact List.prefix_append _ _
theorem grown_drewN (w : World) (n : Nat) : w.grownBy (w.drewN n) none := ⟨rfl, rfl, rfl, Nat.le_refl _, fun _ _ _ => rfl⟩
section
attribute [local go_sem] Oper.semAt_some
set_option maxRecDepth 100000 in
set_option maxHeartbeats 1000000 in
theorem segs1_in (n : Nat) (h1 : 1 ≤ n) (l Bs : Nat) (cl : Bool) (A : Option Addr) (m c : Nat) (M : List Pt) (Kp : World → World → Prop) (hKt : ∀ {X Y Z : World}, Kp X Y → Kp Y Z → Kp X Z) (hKd : ∀ (X : World) (q : Nat), Kp X (X.drewN q)) (J Jx : List (Pt × Pt) → World → Prop) (hm : m ≤ 1000000000000)
    (hY : ∀ pre x W, J pre W → pre.length < (segs cl M).length → YieldAt Fence.wide (n - 1) Try.prog l #[ptA x.1, ptA x.2] W fun e W' =>
      (e = .returned (.bool true) ∧ J (pre ++ [x]) W' ∧ Kp W W') ∨ (e = .returned (.bool false) ∧ Jx (pre ++ [x]) W'))
    (W : World) (hJ : AbidesFrom W.heap.size J) (hKr : Kp W W) (hC : ∀ W', Kp W W' → W'.cell? ⟨Bs, 0, none⟩ = some (.slice A m c) ∧ W'.cell? ⟨Bs, 1, none⟩ = some (.bool cl) ∧ Pts W' A m c M) (h0 : J [] W) :
    CallsIn Fence.wide n Try.prog 62 #[.func (.yield l) #[] #[], .pointer (some ⟨Bs, 0, none⟩)] W fun e W' => (∃ v, e = .returned v) ∧
      ((∃ ys, ys = segs cl M ∧ J ys W') ∨ (∃ pre, pre <+: segs cl M ∧ Jx pre W')) := by
  have hl := (hC W hKr).2.2.1
  obtain ⟨y0, y1, -⟩ := hC W hKr
  have hC := Lib.hid hC
  refine callsIn_of_wp Try.func62 rfl trivial ?_ rfl
  simp only [Try.ntmps62, List.size_toArray, List.length_cons, List.length_nil, Nat.reduceAdd, Nat.reduceSub, Array.replicate_succ, Array.replicate_zero, List.push_toArray, List.append_toArray, List.nil_append, List.cons_append]
  gi_wp2
  gi_loopw [4] (fun i wr => ∃ j : Nat, i = .int .i64 j ∧ 1 ≤ j ∧ (1 < j → j ≤ m) ∧ J (upS M (j - 1)) wr ∧ Kp W wr) (fun i _ => m - (intOf i).toNat)
  case atStart => exact ⟨1, rfl, Nat.le_refl _, fun h => absurd h (by omega), h0, hKr⟩
  case round =>
    clear y0 y1 h0 hKr
    obtain ⟨j, rfl, hj1, hj2, hJs, hkw⟩ := hrel
    obtain ⟨q, hq⟩ : ∃ q : Nat, j = q + 1 := ⟨j - 1, by omega⟩
    have hq1 : (j : Int) - 1 = q := by omega
    rw [show j - 1 = q by omega] at hJs
    have hwq : IntKind.i64.wrap (q : Int) = q := IntWalk.i64_in _ (by omega)
    have hkd := Lib.hid (fun nq => hKt hkw (hKd wr nq))
    have hJd := Lib.hid (fun nq => hJ _ wr (wr.drewN nq) none hJs (grown_drewN wr nq) (fun r e => by cases e))
    obtain ⟨y0, y1, hP⟩ := hC.out _ hkw
    by_cases hlt : j < m
    · have hlti : (j : Int) < m := by omega
      have hqi : (q : Int) < m := by omega
      obtain ⟨b, o, rfl, hb, hx⟩ := hP.2.2.2.2 (by omega)
      obtain ⟨c0, c1⟩ := hx q (by omega)
      obtain ⟨d0, d1⟩ := hx j hlt
      have hseg : seg M q = (M.getD q pt0, M.getD j pt0) := by unfold seg; rw [hl, ← hq, Nat.mod_eq_of_lt hlt]
      have hsn : (segs cl M).length = segN cl m := by unfold segs; rw [upS_len, hl]
      have hq9 : q < segN cl m := by unfold segN; rw [if_neg (by omega)]; split <;> omega
      have hup := upS_succ M q
      have hpre := upS_pre M (q + 1) (segN cl M.length) (by rw [hl]; omega)
      have HY := Lib.hid (fun nq => hY _ (seg M q) (wr.drewN nq) (hJd.out nq) (by rw [upS_len, hsn]; exact hq9))
      rw [hseg] at HY hup
      replace hup := Lib.hid hup
      replace hpre := Lib.hid hpre
      rw [← hq] at hup hpre
      clear hseg hsn hq9 hx hP hJs hY hq
      generalize M.getD q pt0 = pa at *
      generalize M.getD j pt0 = pb at *
      gi_upto_region 4 with fail
      refine wpIn_region_still_tail isWide_wide 12 (by kernel_rfl) (by kernel_rfl) (by kernel_rfl) ?_
      simp only [List.take_succ_cons, List.take_zero, List.drop_succ_cons, List.drop_zero]
      repeat (first | go_big_quiet_skip | (go_big_quiet_want; go_big_quiet_op; go_big_quiet_on))
      refine wpQuiet_nil ?_
      rintro w' ⟨nq, rfl⟩
      obtain ⟨fn, tmps, assign, body, hy, hR⟩ := HY.out nq
      unfold ptA at hy
      have hkq := hkd.out nq
      clear HY hJd hkd
      gi_wp2
      refine hR.mono ?_
      rintro e W3 (⟨rfl, hJ3, hk3⟩ | ⟨rfl, hJ3⟩)
      · rw [← hup.out] at hJ3
        have hk4 := hKt hkq hk3
        gi_wp2
        go_roundw
        case rel => exact ⟨j + 1, by go_num, by omega, fun _ => by omega, hJ3, hk4⟩
        case measure => simp [intOf]; omega
      · rw [← hup.out] at hJ3
        gi_wp2
        refine bodyPost_ret (results_none rfl _ _ _) rfl ?_
        exact ⟨⟨_, rfl⟩, .inr ⟨_, hpre.out, hJ3⟩⟩
    · have hlti : ¬ (j : Int) < m := by omega
      by_cases h1m : 1 < m
      · obtain rfl : j = m := by have := hj2; omega
        have h1i : (1 : Int) < j := by omega
        cases cl with
        | true =>
          obtain ⟨b, o, rfl, hb, hx⟩ := hP.2.2.2.2 (by omega)
          obtain ⟨c0, c1⟩ := hx q (by omega)
          obtain ⟨d0, d1⟩ := hx 0 (by omega)
          rw [Nat.zero_mul, Nat.add_zero] at d0 d1
          have hqi : (q : Int) < j := by omega
          have h0i : (0 : Int) < j := by omega
          have hseg : seg M q = (M.getD q pt0, M.getD 0 pt0) := by unfold seg; rw [hl, ← hq, Nat.mod_self]
          have hsn : segs true M = upS M (q + 1) := by unfold segs segN; rw [hl, if_neg (by omega), if_pos rfl, hq]
          have hup := upS_succ M q
          rw [← hsn] at hup
          have HY := Lib.hid (fun nq => hY _ (seg M q) (wr.drewN nq) (hJd.out nq) (by rw [hsn, upS_len, upS_len]; omega))
          rw [hseg] at HY hup
          replace hup := Lib.hid hup
          clear hseg hsn hx hP hJs hY hq
          generalize M.getD q pt0 = pa at *
          generalize M.getD 0 pt0 = pb at *
          gi_upto_region 6 with fail
          refine wpIn_region_still_tail isWide_wide 11 (by kernel_rfl) (by kernel_rfl) (by kernel_rfl) ?_
          simp only [List.take_succ_cons, List.take_zero, List.drop_succ_cons, List.drop_zero]
          repeat (first | go_big_quiet_skip | (go_big_quiet_want; go_big_quiet_op; go_big_quiet_on))
          refine wpQuiet_nil ?_
          rintro w' ⟨nq, rfl⟩
          obtain ⟨fn, tmps, assign, body, hy, hR⟩ := HY.out nq
          unfold ptA at hy
          clear HY hJd hkd
          gi_wp2
          refine hR.mono ?_
          rintro e W3 (⟨rfl, hJ3, hk3⟩ | ⟨rfl, hJ3⟩)
          · gi_wp2
            go_end0
            exact ⟨⟨_, rfl⟩, .inl ⟨_, rfl, by rw [hup.out]; exact hJ3⟩⟩
          · gi_wp2
            go_end0
            exact ⟨⟨_, rfl⟩, .inr ⟨_, List.prefix_refl _, by rw [hup.out]; exact hJ3⟩⟩
        | false =>
          have hsn : segs false M = upS M q := by unfold segs segN; rw [hl, if_neg (by omega), if_neg (by decide), show j - 1 = q by omega]
          replace hsn := Lib.hid hsn
          clear hq hP
          gi_wp2
          go_end0
          exact ⟨⟨_, rfl⟩, .inl (by rw [hsn.out]; exact hJs)⟩
      · have h1i : ¬ (1 : Int) < m := by omega
        obtain rfl : q = 0 := by
          rcases Nat.lt_or_ge 1 j with h | h
          · exact absurd (hj2 h) (by omega)
          · omega
        have hsn := Lib.hid (show segs cl M = upS M 0 by unfold segs segN; rw [hl, if_pos (by omega)])
        clear hP
        cases cl with
        | true =>
          gi_wp2
          go_end0
          exact ⟨⟨_, rfl⟩, .inl (by rw [hsn.out]; exact hJs)⟩
        | false =>
          gi_wp2
          go_end0
          exact ⟨⟨_, rfl⟩, .inl (by rw [hsn.out]; exact hJs)⟩
set_option maxHeartbeats 1000000 in
theorem segments_any (cl : Bool) (A : Option Addr) (m c : Nat) (w : World) :
    Calls Try.prog 44 #[.agg #[.slice A m c, .bool cl]] w fun e w' => e = .returned (.func (.func 62) #[] #[.pointer (some ⟨w.heap.size, 0, none⟩)]) ∧ w' = w.alloc (.cells #[.slice A m c, .bool cl] 24) := by
  go_enter Try.func44, Try.ntmps44
  go_wp2_with fail
  go_ret
  exact ⟨rfl, rfl⟩
theorem KpX.pts {n : Nat} {E : List Nat} {X Y : World} (h : KpX n E X Y) {A : Option Addr} {m c : Nat} {L : List Pt} (hP : Pts X A m c L) (hb : 0 < m → ∀ b o, A = some ⟨b, o, none⟩ → b < n ∧ b ∉ E) : Pts Y A m c L := by
  obtain ⟨h1, h2, h3, h5, h4⟩ := hP
  refine ⟨h1, h2, h3, h5, fun hn => ?_⟩
  obtain ⟨b, o, e, hb', hc⟩ := h4 hn
  obtain ⟨q1, q2⟩ := hb hn b o e
  exact ⟨b, o, e, Nat.lt_of_lt_of_le hb' h.1, fun k hk' => ⟨(h.cell (p := ⟨b, _, none⟩) q1 q2).trans (hc k hk').1, (h.cell (p := ⟨b, _, none⟩) q1 q2).trans (hc k hk').2⟩⟩
theorem segs_stops (n : Nat) (h1 : 1 ≤ n) (Bs N : Nat) (E : List Nat) (cl : Bool) (A : Option Addr) (m c : Nat) (M : List Pt) (w : World) (hm : m ≤ 1000000000000)
    (hBs : Bs < N) (hE : Bs ∉ E) (hN : N ≤ w.heap.size) (c0 : w.cell? ⟨Bs, 0, none⟩ = some (.slice A m c)) (c1 : w.cell? ⟨Bs, 1, none⟩ = some (.bool cl)) (hP : Pts w A m c M) (hb : 0 < m → ∀ b o, A = some ⟨b, o, none⟩ → b < N ∧ b ∉ E) :
    SeqStopsK Fence.wide n Try.prog 62 #[.pointer (some ⟨Bs, 0, none⟩)] (fun x : Pt × Pt => #[ptA x.1, ptA x.2]) (KpX N E) (fun ys => ys = segs cl M) (fun pre => pre <+: segs cl M) (segs cl M).length w := fun l J Jx W hW hJ _ hY h0 =>
  segs1_in n h1 l Bs cl A m c M (KpX N E) (fun h k => h.trans k) (fun X q => KpX.drewN X q) J Jx hm hY W hJ (KpX.refl N E W)
    (fun W' hk => ⟨(hk.cell (p := ⟨Bs, 0, none⟩) hBs hE).trans ((hW.cell (p := ⟨Bs, 0, none⟩) (by dsimp only; omega)).trans c0), (hk.cell (p := ⟨Bs, 1, none⟩) hBs hE).trans ((hW.cell (p := ⟨Bs, 1, none⟩) (by dsimp only; omega)).trans c1), hk.pts (hP.keep hW) hb⟩) h0
end
end Go.Proofs.Ytihmhpleiefodaa
