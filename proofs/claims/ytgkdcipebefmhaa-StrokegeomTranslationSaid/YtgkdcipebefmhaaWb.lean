/- Contract of reference 22's ways. -/
import Derived.Test.YtgkdcipebefmhaaWa
import Derived.Deep.RegionLaw
namespace Go.Proofs.Ytgkdcipebefmhaa
open Go.RowKit
attribute [local go_sem ↓] Go.wp_at_zero Go.wp_at_succ
set_option linter.unusedVariables false
set_option linter.unusedSimpArgs false
theorem step_appendQ {P : Program} (w : World) {ops : Array Oper} {o : Oper} {a : Act} {K : Act → World → Prop} {Q : Exit → Act → World → Prop} {E : Prop} (hgd : o.guard = none) (s x : Operand) (t : TypeId)
    (ho : o.op = .call { callee := .builtin .append, args := #[s, x], argTypes := #[t, t] })
    (base : Nat) (e : TypeId) (i : TypeInfo) (z : Value) (size bytes : Nat) (ht : P.underlying t = some (.slice e)) (hi : P.info? e = some i) (hz : i.zero = some z)
    (hsize : i.size = size) (hby : i.bytes = bytes) (hzs : z.cells.size = size) (hsz : 0 < size)
    (v : Value) (n : Nat) (xs : List Value) (hs : a.eval s = v) (hown : w.ownsRow base e size v n xs)
    (ad : Addr) (m c : Nat) (news : List Value) (hx : a.eval x = .slice (some ad) m c) (hl : news.length = m * size) (hnews : ∀ j u, news[j]? = some u → w.cell? (ad.add j) = some u) (h1 : ∀ u ∈ news, u.oneCell' = true)
    (h63 : n + m ≤ maxLen) (hbytes : (n + m) * bytes ≤ 140737488355328) (hbase : base ≤ w.heap.size)
    (h : ∀ v' w', w'.ownsRow base e size v' (n + m) (xs ++ news) → w.grownBy w' v.ownBlock → K (a.put o.dst v') w') : if Region.wanted o (yielded ops a.tmps) = true then Oper.wp P o a w K Q else E := by
  have hw : Region.wanted o (yielded ops a.tmps) = true := by simp [Region.wanted, hgd]
  rw [if_pos hw]
  exact wp_append_own w s x t ho base e i z size bytes ht hi hz hsize hby hzs hsz v n xs hs hown ad m c news hx hl hnews h1 h63 hbytes hbase fun v' w' h2 h3 _ => h v' w' h2 h3
theorem below_ownQ {w wr w0 w1 : World} {B : Nat} {e : TypeId} {size : Nat} {v : Value} {n : Nat} {xs : List Value} (hk : Below B w wr) (hw : B = w.heap.size) (hown : wr.ownsRow B e size v n xs) (hg : w0.grownBy w1 v.ownBlock) (h0 : Below wr.heap.size wr w0) : Below B w w1 := by
  subst hw
  exact (hk.trans (h0.mono hk.size)).grown hg (Nat.le_trans hk.size h0.size) (fun k hk' => (hown.lt k hk').1)
/-- The list that the loop builds: each step appends a quarter turn. -/
def rwayT : Nat → List Pt
  | 0 => base4
  | i + 1 => rwayT i ++ [(-((rwayT i).getD i pt0).2, ((rwayT i).getD i pt0).1)]
theorem rwayT_12 : rwayT 12 = waysL := by decide +kernel
theorem rwayT_len : ∀ i, (rwayT i).length = i + 4
  | 0 => rfl
  | i + 1 => by rw [rwayT, List.length_append, rwayT_len i]; rfl
theorem rwayT_bd : ∀ k, k < 12 → (-16384 ≤ ((rwayT k).getD k pt0).1 ∧ ((rwayT k).getD k pt0).1 ≤ 16384) ∧ (-16384 ≤ ((rwayT k).getD k pt0).2 ∧ ((rwayT k).getD k pt0).2 ≤ 16384) := by
  have h : ∀ k : Fin 12, (-16384 ≤ ((rwayT k).getD k pt0).1 ∧ ((rwayT k).getD k pt0).1 ≤ 16384) ∧ (-16384 ≤ ((rwayT k).getD k pt0).2 ∧ ((rwayT k).getD k pt0).2 ≤ 16384) := by decide +kernel
  intro k hk
  exact h ⟨k, hk⟩
set_option maxRecDepth 100000 in
set_option maxHeartbeats 8000000 in
theorem rways_any (w : World) : Calls Try.prog 52 #[] w (OwnP w waysL) := by
  obtain ⟨i0, hi, hz0, hz1, hz2⟩ := info_parts pt_info
  go_enter Try.func52, Try.ntmps52
  go_wp2_with fail
  go_loopw [1, 2] (fun v i wr => ∃ k : Nat, k ≤ 12 ∧ i = .int .i64 k ∧ Keeps w wr ∧ wr.ownsRow w.heap.size 28 2 v (k + 4) (rowP (rwayT k))) (fun _ i _ => 12 - (intOf i).toNat)
  case atStart => exact ⟨0, by omega, rfl, (Keeps.refl _).alloc _, World.ownsRow_lit w (rowP base4).toArray 4 (Nat.le_refl _) (by unfold maxLen; omega) rfl⟩
  case round =>
    obtain ⟨k, hk, rfl, hkw, hown⟩ := hrel
    by_cases hlt : k < 12
    · obtain ⟨g, cap, rfl, hcap, hBg, hown2⟩ := own_slice hown (by omega)
      have hl := rwayT_len k
      obtain ⟨-, q0, -, -⟩ := rowAt hown2 (k * 2) (by omega)
      obtain ⟨-, q1, -, -⟩ := rowAt hown2 (k * 2 + 1) (by omega)
      have p0 := rowP_get (rwayT k) k 0 (by omega) (by omega)
      have p1 := rowP_get (rwayT k) k 1 (by omega) (by omega)
      rw [Nat.add_zero] at p0
      rw [p0] at q0
      rw [p1] at q1
      obtain ⟨⟨b0, b1⟩, b2, b3⟩ := rwayT_bd k hlt
      have hT := Lib.hid (show rwayT (k + 1) = rwayT k ++ [(-((rwayT k).getD k pt0).2, ((rwayT k).getD k pt0).1)] from rfl)
      have hlt2 : (k : Int) < 12 := by omega
      have hlt3 : (k : Int) < (k : Int) + 4 := by omega
      have r1 : IntKind.i64.wrap (-((rwayT k).getD k pt0).2) = -((rwayT k).getD k pt0).2 := IntWalk.i64_in _ (by omega)
      clear p0 p1 hl hown hcap hBg
      simp only [ptV, List.getElem?_cons_zero, List.getElem?_cons_succ] at q0 q1
      generalize hXX : rwayT k = X at *
      generalize X.getD k pt0 = p at *
      clear hXX
      go_wp2_with fail
      have hown' := World.ownsRow.drew hown2
      go_region_law
        ((refine step_appendQ _ (by rfl) (.tmp 12) (.tmp 25) 32 (by rfl) w.heap.size 28 i0 (.agg #[.int .i64 0, .int .i64 0]) 2 16 Try.underlying32 hi hz0 hz1 hz2 rfl (by decide) _ _ _ (by rfl) (hown'.alloc _) ⟨wr.heap.size, 0, none⟩ 1 1 (ptV (-p.2, p.1)) (by rfl) rfl (two_new wr.drew (-p.2, p.1) _) (oneCell_ptV _) (by unfold maxLen; omega) (by omega) (by have := hkw.size; simp; omega) ?_; intro v1 w1 hown1 hgrow1; have hk1 := below_ownQ hkw rfl hown2 hgrow1 (Keeps.alloc (Keeps.drew (Keeps.refl wr)) _); clear hgrow1; rw [← rowP_one, ← rowP_append] at hown1))
      all_goals
        go_wp2_with fail
        go_roundw
        case rel => exact ⟨k + 1, by omega, by go_num, by assumption, by rw [hT.out]; assumption⟩
        case measure => simp [intOf]; omega
    · obtain rfl : k = 12 := by omega
      rw [rwayT_12] at hown
      have hown := Lib.hid hown
      go_wp2_with fail
      go_ret
      exact ⟨_, rfl, hown.out, hkw⟩
end Go.Proofs.Ytgkdcipebefmhaa
