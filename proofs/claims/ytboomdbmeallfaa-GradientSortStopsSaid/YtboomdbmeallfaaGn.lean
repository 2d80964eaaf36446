/- copy within rows whose elements are of several cells. -/
import Derived.Test.YtboomdbmeallfaaGm
import Derived.Laws.CopyOwn
namespace Go.Proofs.Ytboomdbmeallfaa
open Go.RowKit
set_option linter.unusedVariables false
set_option linter.unusedSimpArgs false
section
variable {P : Program}
theorem run_copy_rowN (w : World) (dT sT ty elem : TypeId) (size g o dLen dCap : Nat) (a : Addr) (sLen sCap : Nat) (cur : Array Value) (t : TypeId) (cs : List Value)
    (hu : P.underlying dT = some (.slice elem)) (hs : (P.info? elem).map (·.size) = some size)
    (hg : w.heap[g]? = some (.cells cur t (0, 0))) (hn : cs.length = Nat.min sLen dLen * size)
    (hsrc : ∀ j v, cs[j]? = some v → w.cell? (a.add j) = some v) (hfit : o + cs.length ≤ cur.size) (h1 : ∀ v ∈ cs, v.oneCell' = true) :
    (Builtin.copy_ #[dT, sT] ty #[.slice (some ⟨g, o, none⟩) dLen dCap, .slice (some a) sLen sCap]).run P w =
      .ok (goInt (Nat.min sLen dLen)) (w.setRow g (cur.toList.take o ++ cs ++ cur.toList.drop (o + cs.length)).toArray) := by
  have hl := run_loadCells_list (P := P) w a cs hsrc
  have hst := run_storeCells_at P g o t cs 0 cur w hg (by simpa using hfit) h1
  cases hq : P.info? elem with
  | none => simp [hq] at hs
  | some i =>
    have hi : i.size = size := by simpa [hq] using hs
    rw [hn] at hl
    simp [Builtin.copy_, run_underlying hu, Builtin.lenOf, Builtin.firstCells, sizeOf, typeInfo, hq, hi, hl, hst]
theorem wp_copyN {w : World} {o : Oper} {a : Act} {K : Act → World → Prop} {Q : Exit → Act → World → Prop} (d s : Operand) (dT sT : TypeId)
    (ho : o.op = .call { callee := .builtin .copy, args := #[d, s], argTypes := #[dT, sT] }) (elem : TypeId) (size : Nat) (hu : P.underlying dT = some (.slice elem)) (hsz : (P.info? elem).map (·.size) = some size)
    (g off dLen dCap : Nat) (ad : Addr) (sLen sCap : Nat) (hd : a.eval d = .slice (some ⟨g, off, none⟩) dLen dCap) (hs : a.eval s = .slice (some ad) sLen sCap)
    (cur : Array Value) (t : TypeId) (hg : w.heap[g]? = some (.cells cur t (0, 0))) (cs : List Value) (hn : cs.length = Nat.min sLen dLen * size)
    (hsrc : ∀ j v, cs[j]? = some v → w.cell? (ad.add j) = some v) (hfit : off + cs.length ≤ cur.size) (h1 : ∀ v ∈ cs, v.oneCell' = true)
    (h : K (a.put o.dst (goInt (Nat.min sLen dLen))) (w.setRow g (cur.toList.take off ++ cs ++ cur.toList.drop (off + cs.length)).toArray)) : Oper.wp P o a w K Q := by
  have hrun := run_copy_rowN (P := P) w dT sT o.type elem size g off dLen dCap ad sLen sCap cur t cs hu hsz hg hn hsrc hfit h1
  unfold Oper.wp
  simp [execOp, ho, resolve, invoke, builtin, hd, hs, hrun, Result.andThen]
  simp only [List.append_assoc] at h
  exact h
theorem step_copyN {ops : Array Oper} {w : World} {o : Oper} {a : Act} {K : Act → World → Prop} {Q : Exit → Act → World → Prop} {E : Prop} (hgd : o.guard = none) (d s : Operand) (dT sT : TypeId)
    (ho : o.op = .call { callee := .builtin .copy, args := #[d, s], argTypes := #[dT, sT] }) (elem : TypeId) (size : Nat) (hu : P.underlying dT = some (.slice elem)) (hsz : (P.info? elem).map (·.size) = some size)
    (g off dLen dCap : Nat) (ad : Addr) (sLen sCap : Nat) (hd : a.eval d = .slice (some ⟨g, off, none⟩) dLen dCap) (hs : a.eval s = .slice (some ad) sLen sCap)
    (cur : Array Value) (t : TypeId) (hg : w.heap[g]? = some (.cells cur t (0, 0))) (cs : List Value) (hn : cs.length = Nat.min sLen dLen * size)
    (hsrc : ∀ j v, cs[j]? = some v → w.cell? (ad.add j) = some v) (hfit : off + cs.length ≤ cur.size) (h1 : ∀ v ∈ cs, v.oneCell' = true)
    (h : K (a.put o.dst (goInt (Nat.min sLen dLen))) (w.setRow g (cur.toList.take off ++ cs ++ cur.toList.drop (off + cs.length)).toArray)) :
    if Region.wanted o (yielded ops a.tmps) = true then Oper.wp P o a w K Q else E := by
  have hw : Region.wanted o (yielded ops a.tmps) = true := by simp [Region.wanted, hgd]
  rw [if_pos hw]
  exact wp_copyN d s dT sT ho elem size hu hsz g off dLen dCap ad sLen sCap hd hs cur t hg cs hn hsrc hfit h1 h
end
/-- Offsets do not fall. -/
def Rising (o : List St) : Prop := ∀ i k, i ≤ k → k < o.length → (o.getD i st0).1 ≤ (o.getD k st0).1
/-- Where the offsets do not fall, the place that the search from behind finds is the number of leading stops. -/
theorem lead_back (o : List St) (t : Int) (a : Nat) (ha : a ≤ o.length) (h1 : ∀ q, a ≤ q → q < o.length → t < (o.getD q st0).1) (h0 : 0 < a → (o.getD (a - 1) st0).1 ≤ t) (hr : Rising o) : lead t o = a :=
  lead_is o t a ha (fun k hk => Int.le_trans (hr k (a - 1) (by omega) (by omega)) (h0 (by omega))) (fun hm => h1 a (Nat.le_refl _) hm)
theorem getD_ins (s : St) (o : List St) (k : Nat) : (ins s o).getD k st0 = if k < lead s.1 o then o.getD k st0 else if k = lead s.1 o then s else o.getD (k - 1) st0 := by
  have hl := lead_len o s.1
  unfold ins
  generalize lead s.1 o = p at *
  simp only [List.getD_eq_getElem?_getD]
  by_cases h : k < p
  · rw [if_pos h, List.getElem?_append_left (by simp; omega), List.getElem?_take, if_pos h]
  · rw [if_neg h, List.getElem?_append_right (by simp; omega)]
    have e : (o.take p).length = p := by simp; omega
    rw [e]
    by_cases hk : k = p
    · rw [if_pos hk, hk, Nat.sub_self]; rfl
    · rw [if_neg hk]
      obtain ⟨q, rfl⟩ : ∃ q, k = p + q + 1 := ⟨k - p - 1, by omega⟩
      rw [show p + q + 1 - p = q + 1 by omega, List.getElem?_cons_succ, List.getElem?_drop]
      rw [show p + q + 1 - 1 = p + q by omega]
theorem ins_rising (s : St) (o : List St) (hr : Rising o) : Rising (ins s o) := by
  intro i k hik hk
  rw [ins_length] at hk
  rw [getD_ins, getD_ins]
  have hle := lead_le o s.1
  have hst := lead_stop o s.1
  have hl := lead_len o s.1
  generalize lead s.1 o = p at *
  by_cases h1 : i < p
  · rw [if_pos h1]
    by_cases h2 : k < p
    · rw [if_pos h2]; exact hr i k hik (by omega)
    · rw [if_neg h2]
      by_cases h3 : k = p
      · rw [if_pos h3]; exact hle i h1
      · rw [if_neg h3]; exact hr i (k - 1) (by omega) (by omega)
  · rw [if_neg h1, if_neg (show ¬ k < p by omega)]
    by_cases h3 : i = p
    · rw [if_pos h3]
      by_cases h4 : k = p
      · rw [if_pos h4]; exact Int.le_refl _
      · rw [if_neg h4]
        have h5 := hst (by omega)
        have h6 := hr p (k - 1) (by omega) (by omega)
        omega
    · rw [if_neg h3, if_neg (show ¬ k = p by omega)]
      exact hr (i - 1) (k - 1) (by omega) (by omega)
theorem srt_rising (L : List St) : ∀ j, Rising (srt L j)
  | 0 => fun i k _ hk => by simp [srt] at hk
  | j + 1 => ins_rising _ _ (srt_rising L j)
end Go.Proofs.Ytboomdbmeallfaa
