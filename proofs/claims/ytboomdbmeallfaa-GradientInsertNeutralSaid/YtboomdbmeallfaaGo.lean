/- Contract of count; what sorting keeps (plain laws). -/
import Derived.Test.YtboomdbmeallfaaGm
import Derived.Laws.CopyOwn
namespace Go.Proofs.Ytboomdbmeallfaa
section
open Go.RowKit
set_option linter.unusedVariables false
set_option linter.unusedSimpArgs false
section
variable {P : Program}
theorem run_copy_rowN (w : World) (dT sT ty elem : TypeId) (size g o dLen dCap : Nat) (a : Addr) (sLen sCap : Nat) (cur : Array Value) (t : TypeId) (cs : List Value)
    (hu : P.underlying dT = some (.slice elem)) (hs : (P.info? elem).map (·.size) = some size)
    (hg : w.heap[g]? = some (.cells cur t (0, 0))) (hn : cs.length = Nat.min sLen dLen * size)
    (hsrc : ∀ j v, cs[j]? = some v → w.cell? (a.add j) = some v) (hfit : o + cs.length ≤ cur.size) (h1 : ∀ v ∈ cs, v.oneCell' = true) :
    (Builtin.copy_ #[dT, sT] ty #[.slice (some ⟨g, o, none⟩) dLen dCap, .slice (some a) sLen sCap]).run P w =
      .ok (goInt (Nat.min sLen dLen)) (w.setRow g (cur.toList.take o ++ cs ++ cur.toList.drop (o + cs.length)).toArray) := by
  have hl := run_loadCells_list (P := P) w a cs hsrc
  have hst := run_storeCells_at P g o t cs 0 cur w hg (by simpa using hfit) h1
  cases hq : P.info? elem with
  | none => simp [hq] at hs
  | some i =>
    have hi : i.size = size := by simpa [hq] using hs
    rw [hn] at hl
    simp [Builtin.copy_, run_underlying hu, Builtin.lenOf, Builtin.firstCells, sizeOf, typeInfo, hq, hi, hl, hst]
theorem wp_copyN {w : World} {o : Oper} {a : Act} {K : Act → World → Prop} {Q : Exit → Act → World → Prop} (d s : Operand) (dT sT : TypeId)
    (ho : o.op = .call { callee := .builtin .copy, args := #[d, s], argTypes := #[dT, sT] }) (elem : TypeId) (size : Nat) (hu : P.underlying dT = some (.slice elem)) (hsz : (P.info? elem).map (·.size) = some size)
    (g off dLen dCap : Nat) (ad : Addr) (sLen sCap : Nat) (hd : a.eval d = .slice (some ⟨g, off, none⟩) dLen dCap) (hs : a.eval s = .slice (some ad) sLen sCap)
    (cur : Array Value) (t : TypeId) (hg : w.heap[g]? = some (.cells cur t (0, 0))) (cs : List Value) (hn : cs.length = Nat.min sLen dLen * size)
    (hsrc : ∀ j v, cs[j]? = some v → w.cell? (ad.add j) = some v) (hfit : off + cs.length ≤ cur.size) (h1 : ∀ v ∈ cs, v.oneCell' = true)
    (h : K (a.put o.dst (goInt (Nat.min sLen dLen))) (w.setRow g (cur.toList.take off ++ cs ++ cur.toList.drop (off + cs.length)).toArray)) : Oper.wp P o a w K Q := by
  have hrun := run_copy_rowN (P := P) w dT sT o.type elem size g off dLen dCap ad sLen sCap cur t cs hu hsz hg hn hsrc hfit h1
  unfold Oper.wp
  simp [execOp, ho, resolve, invoke, builtin, hd, hs, hrun, Result.andThen]
  simp only [List.append_assoc] at h
  exact h
theorem step_copyN {ops : Array Oper} {w : World} {o : Oper} {a : Act} {K : Act → World → Prop} {Q : Exit → Act → World → Prop} {E : Prop} (hgd : o.guard = none) (d s : Operand) (dT sT : TypeId)
    (ho : o.op = .call { callee := .builtin .copy, args := #[d, s], argTypes := #[dT, sT] }) (elem : TypeId) (size : Nat) (hu : P.underlying dT = some (.slice elem)) (hsz : (P.info? elem).map (·.size) = some size)
    (g off dLen dCap : Nat) (ad : Addr) (sLen sCap : Nat) (hd : a.eval d = .slice (some ⟨g, off, none⟩) dLen dCap) (hs : a.eval s = .slice (some ad) sLen sCap)
    (cur : Array Value) (t : TypeId) (hg : w.heap[g]? = some (.cells cur t (0, 0))) (cs : List Value) (hn : cs.length = Nat.min sLen dLen * size)
    (hsrc : ∀ j v, cs[j]? = some v → w.cell? (ad.add j) = some v) (hfit : off + cs.length ≤ cur.size) (h1 : ∀ v ∈ cs, v.oneCell' = true)
    (h : K (a.put o.dst (goInt (Nat.min sLen dLen))) (w.setRow g (cur.toList.take off ++ cs ++ cur.toList.drop (off + cs.length)).toArray)) :
    if Region.wanted o (yielded ops a.tmps) = true then Oper.wp P o a w K Q else E := by
  have hw : Region.wanted o (yielded ops a.tmps) = true := by simp [Region.wanted, hgd]
  rw [if_pos hw]
  exact wp_copyN d s dT sT ho elem size hu hsz g off dLen dCap ad sLen sCap hd hs cur t hg cs hn hsrc hfit h1 h
end
/-- Offsets do not fall. -/
def Rising (o : List St) : Prop := ∀ i k, i ≤ k → k < o.length → (o.getD i st0).1 ≤ (o.getD k st0).1
/-- Where the offsets do not fall, the place that the search from behind finds is the number of leading stops. -/
theorem lead_back (o : List St) (t : Int) (a : Nat) (ha : a ≤ o.length) (h1 : ∀ q, a ≤ q → q < o.length → t < (o.getD q st0).1) (h0 : 0 < a → (o.getD (a - 1) st0).1 ≤ t) (hr : Rising o) : lead t o = a :=
  lead_is o t a ha (fun k hk => Int.le_trans (hr k (a - 1) (by omega) (by omega)) (h0 (by omega))) (fun hm => h1 a (Nat.le_refl _) hm)
theorem getD_ins (s : St) (o : List St) (k : Nat) : (ins s o).getD k st0 = if k < lead s.1 o then o.getD k st0 else if k = lead s.1 o then s else o.getD (k - 1) st0 := by
  have hl := lead_len o s.1
  unfold ins
  generalize lead s.1 o = p at *
  simp only [List.getD_eq_getElem?_getD]
  by_cases h : k < p
  · rw [if_pos h, List.getElem?_append_left (by simp; omega), List.getElem?_take, if_pos h]
  · rw [if_neg h, List.getElem?_append_right (by simp; omega)]
    have e : (o.take p).length = p := by simp; omega
    rw [e]
    by_cases hk : k = p
    · rw [if_pos hk, hk, Nat.sub_self]; rfl
    · rw [if_neg hk]
      obtain ⟨q, rfl⟩ : ∃ q, k = p + q + 1 := ⟨k - p - 1, by omega⟩
      rw [show p + q + 1 - p = q + 1 by omega, List.getElem?_cons_succ, List.getElem?_drop]
      rw [show p + q + 1 - 1 = p + q by omega]
theorem ins_rising (s : St) (o : List St) (hr : Rising o) : Rising (ins s o) := by
  intro i k hik hk
  rw [ins_length] at hk
  rw [getD_ins, getD_ins]
  have hle := lead_le o s.1
  have hst := lead_stop o s.1
  have hl := lead_len o s.1
  generalize lead s.1 o = p at *
  by_cases h1 : i < p
  · rw [if_pos h1]
    by_cases h2 : k < p
    · rw [if_pos h2]; exact hr i k hik (by omega)
    · rw [if_neg h2]
      by_cases h3 : k = p
      · rw [if_pos h3]; exact hle i h1
      · rw [if_neg h3]; exact hr i (k - 1) (by omega) (by omega)
  · rw [if_neg h1, if_neg (show ¬ k < p by omega)]
    by_cases h3 : i = p
    · rw [if_pos h3]
      by_cases h4 : k = p
      · rw [if_pos h4]; exact Int.le_refl _
      · rw [if_neg h4]
        have h5 := hst (by omega)
        have h6 := hr p (k - 1) (by omega) (by omega)
        omega
    · rw [if_neg h3, if_neg (show ¬ k = p by omega)]
      exact hr (i - 1) (k - 1) (by omega) (by omega)
theorem srt_rising (L : List St) : ∀ j, Rising (srt L j)
  | 0 => fun i k _ hk => by simp [srt] at hk
  | j + 1 => ins_rising _ _ (srt_rising L j)
end

section
open Go.RowKit
set_option linter.unusedVariables false
set_option linter.unusedSimpArgs false
def cntS (x : St) (L : List St) : Nat := L.countP (fun y => eq5 y x)
theorem cntS_ins (x s : St) (o : List St) : cntS x (ins s o) = cntS x (s :: o) := by
  unfold cntS ins
  rw [List.countP_append, List.countP_cons, List.countP_cons]
  have h := List.countP_append (p := fun y => eq5 y x) (l₁ := o.take (lead s.1 o)) (l₂ := o.drop (lead s.1 o))
  rw [List.take_append_drop] at h
  omega
theorem cntS_take (x : St) (L : List St) (k : Nat) (h : k < L.length) : cntS x (L.take (k + 1)) = cntS x (L.take k) + if eq5 (L.getD k st0) x = true then 1 else 0 := by
  unfold cntS
  rw [take_succ' L k h, List.countP_append]
  simp [List.countP_cons]
theorem cntS_srt (x : St) (L : List St) : ∀ j, j ≤ L.length → cntS x (srt L j) = cntS x (L.take j)
  | 0, _ => by simp [srt, cntS]
  | j + 1, h => by
    rw [srt, cntS_ins, cntS_take x L j (by omega), ← cntS_srt x L j (by omega)]
    unfold cntS
    rw [List.countP_cons]
/-- A list that does not fall is left as it is. -/
theorem srt_same (L : List St) (hr : Rising L) : ∀ j, j ≤ L.length → srt L j = L.take j
  | 0, _ => by simp [srt]
  | j + 1, h => by
    rw [srt, srt_same L hr j (by omega)]
    have hl : (L.take j).length = j := by simp; omega
    have e : lead (L.getD j st0).1 (L.take j) = j := lead_is _ _ j (by omega) (fun k hk => by
      have e1 : (L.take j).getD k st0 = L.getD k st0 := by
        rw [List.getD_eq_getElem?_getD, List.getD_eq_getElem?_getD, List.getElem?_take, if_pos hk]
      rw [e1]; exact hr k j (by omega) (by omega)) (fun hm => by omega)
    unfold ins
    rw [e, List.take_of_length_le (by omega), List.drop_of_length_le (by omega), take_succ' L j (by omega)]
theorem cntS_le (x : St) (L : List St) : cntS x L ≤ L.length := List.countP_le_length
set_option maxRecDepth 100000 in
set_option maxHeartbeats 2000000 in
theorem count_any (A : Option Addr) (n c : Nat) (L : List St) (x : St) (w : World) (h : Sts w A n c L) :
    Calls Try.prog 27 #[.slice A n c, .agg #[.int .i64 x.1, .int .u8 x.2.1, .int .u8 x.2.2.1, .int .u8 x.2.2.2.1, .int .u8 x.2.2.2.2]] w fun e w' => e = .returned (.int .i64 (cntS x L : Nat)) ∧ Keeps w w' := by
  have g3 := csGuard
  have g4 := csEql
  have hl := h.1
  have hmx := h.max
  have HA := Lib.hid h.2.2.2.2
  clear h
  have HS := Lib.hid (show ∀ w', Keeps (w.alloc (.cells #[.int .i64 x.1, .int .u8 x.2.1, .int .u8 x.2.2.1, .int .u8 x.2.2.2.1, .int .u8 x.2.2.2.2] 31)) w' → w'.cell? ⟨w.heap.size, 0, none⟩ = some (.int .i64 x.1) ∧ w'.frozen? ⟨w.heap.size, 0, none⟩ = false ∧ w'.cell? ⟨w.heap.size, 1, none⟩ = some (.int .u8 x.2.1) ∧ w'.frozen? ⟨w.heap.size, 1, none⟩ = false ∧ w'.cell? ⟨w.heap.size, 2, none⟩ = some (.int .u8 x.2.2.1) ∧ w'.frozen? ⟨w.heap.size, 2, none⟩ = false ∧ w'.cell? ⟨w.heap.size, 3, none⟩ = some (.int .u8 x.2.2.2.1) ∧ w'.frozen? ⟨w.heap.size, 3, none⟩ = false ∧ w'.cell? ⟨w.heap.size, 4, none⟩ = some (.int .u8 x.2.2.2.2) ∧ w'.frozen? ⟨w.heap.size, 4, none⟩ = false from fun w' hk => ⟨(hk.cell (p := ⟨w.heap.size, 0, none⟩) (by first | (simp; done) | (simp; omega))).trans (by simp [go_sem]), (hk.frozen (p := ⟨w.heap.size, 0, none⟩) (by first | (simp; done) | (simp; omega))).trans (by simp [go_sem]), (hk.cell (p := ⟨w.heap.size, 1, none⟩) (by first | (simp; done) | (simp; omega))).trans (by simp [go_sem]), (hk.frozen (p := ⟨w.heap.size, 1, none⟩) (by first | (simp; done) | (simp; omega))).trans (by simp [go_sem]), (hk.cell (p := ⟨w.heap.size, 2, none⟩) (by first | (simp; done) | (simp; omega))).trans (by simp [go_sem]), (hk.frozen (p := ⟨w.heap.size, 2, none⟩) (by first | (simp; done) | (simp; omega))).trans (by simp [go_sem]), (hk.cell (p := ⟨w.heap.size, 3, none⟩) (by first | (simp; done) | (simp; omega))).trans (by simp [go_sem]), (hk.frozen (p := ⟨w.heap.size, 3, none⟩) (by first | (simp; done) | (simp; omega))).trans (by simp [go_sem]), (hk.cell (p := ⟨w.heap.size, 4, none⟩) (by first | (simp; done) | (simp; omega))).trans (by simp [go_sem]), (hk.frozen (p := ⟨w.heap.size, 4, none⟩) (by first | (simp; done) | (simp; omega))).trans (by simp [go_sem])⟩)
  have HB := Lib.hid (show Keeps w (w.alloc (.cells #[.int .i64 x.1, .int .u8 x.2.1, .int .u8 x.2.2.1, .int .u8 x.2.2.2.1, .int .u8 x.2.2.2.2] 31)) from (by (repeat (first | (with_reducible exact Keeps.refl _) | (with_reducible assumption) | (with_reducible refine Keeps.drewN ?_ _) | (with_reducible refine Keeps.drew ?_) | (with_reducible refine Keeps.alloc ?_ _) | (with_reducible refine Keeps.setNew ?_ ?_ _))) <;> (dsimp only; omega)))
  have hk0 := Keeps.refl (w.alloc (.cells #[.int .i64 x.1, .int .u8 x.2.1, .int .u8 x.2.2.1, .int .u8 x.2.2.2.1, .int .u8 x.2.2.2.2] 31))
  go_enter Try.func27, Try.ntmps27
  go_wp2_with fail
  generalize (w.alloc (.cells #[.int .i64 x.1, .int .u8 x.2.1, .int .u8 x.2.2.1, .int .u8 x.2.2.2.1, .int .u8 x.2.2.2.2] 31)) = W0 at *
  go_loopw [5, 6] (fun q i wr => ∃ j : Nat, j ≤ n ∧ i = .int .i64 j ∧ q = .int .i64 (cntS x (L.take j) : Nat) ∧ Keeps W0 wr) (fun _ i _ => n - (intOf i).toNat)
  case atStart => exact ⟨0, by omega, rfl, by simp [cntS], hk0⟩
  case round =>
    obtain ⟨j, hj, rfl, rfl, hkw⟩ := hrel
    by_cases hlt : j < n
    · obtain ⟨b1, o1, rfl, hb1, hc1⟩ := HA.out (by omega)
      obtain ⟨c0, c1, c2, c3, c4⟩ := (hc1 j hlt).keep hb1 (HB.out.trans hkw)
      obtain ⟨y0, y1, y2, y3, y4, y5, y6, y7, y8, y9⟩ := HS.out _ hkw
      clear hc1 HA
      have hT := Lib.hid (cntS_take x L j (by omega))
      have hle := cntS_le x (L.take j)
      rw [List.length_take] at hle
      have hlt2 : (j : Int) < n := by omega
      generalize cntS x (L.take j) = q at *
      generalize L.getD j st0 = y at *
      cases he : eq5 y x with
      | true =>
        have hT2 := Lib.hid (show cntS x (L.take (j + 1)) = q + 1 by rw [hT.out, if_pos he])
        go_wp2_with fail
        go_quiet (fail)
        go_wp2_with fail
        go_roundw
        case rel => exact ⟨j + 1, by omega, by go_num, by rw [hT2.out]; go_num, hkw.drewN _⟩
        case measure => simp [intOf]; omega
      | false =>
        have hT2 := Lib.hid (show cntS x (L.take (j + 1)) = q by rw [hT.out, if_neg (by rw [he]; decide)]; omega)
        go_wp2_with fail
        go_quiet (fail)
        go_wp2_with fail
        go_roundw
        case rel => exact ⟨j + 1, by omega, by go_num, by rw [hT2.out], hkw.drewN _⟩
        case measure => simp [intOf]; omega
    · obtain rfl : j = n := by omega
      rw [List.take_of_length_le (by omega)]
      go_wp2_with fail
      go_ret
      exact ⟨rfl, HB.out.trans hkw⟩
end
end Go.Proofs.Ytboomdbmeallfaa
