/- Contract of reference 22's ways. -/
import Derived.Test.YtdodgnpjlicnoaaGreatQs
import Derived.Deep.MidRow
import Derived.Deep.CutRange
import Derived.Deep.RegionLaw
namespace Go.Proofs.YtdodgnpjlicnoaaGreat
section
open Go.RowKit
attribute [local go_sem ↓] Go.wp_at_zero Go.wp_at_succ
set_option linter.unusedVariables false
set_option linter.unusedSimpArgs false
def rotP (p : Pt) : Pt := (-hc p.2, hc p.1)
def base4 : List Pt := [(16384, 0), (15137, 6270), (11585, 11585), (6270, 15137)]
/-- The inner loop: the list and the point, after k steps from place i. -/
def wayI (X : List Pt) (i : Nat) (p : Pt) : Nat → List Pt × Pt
  | 0 => (X, p)
  | k + 1 => ((wayI X i p k).1.set (4 * k + i) (wayI X i p k).2, rotP (wayI X i p k).2)
def wayO : Nat → List Pt
  | 0 => List.replicate 16 pt0
  | i + 1 => (wayI (wayO i) i (base4.getD i pt0) 4).1
def waysL : List Pt := [(16384, 0), (15137, 6270), (11585, 11585), (6270, 15137), (0, 16384), (-6270, 15137), (-11585, 11585), (-15137, 6270), (-16384, 0), (-15137, -6270), (-11585, -11585), (-6270, -15137), (0, -16384), (6270, -15137), (11585, -11585), (15137, -6270)]
theorem wayO_4 : wayO 4 = waysL := by decide +kernel
theorem wayI_len (X : List Pt) (i : Nat) (p : Pt) : ∀ k, (wayI X i p k).1.length = X.length
  | 0 => rfl
  | k + 1 => by rw [wayI, List.length_set, wayI_len X i p k]
theorem wayO_len : ∀ i, (wayO i).length = 16
  | 0 => rfl
  | i + 1 => by rw [wayO, wayI_len, wayO_len i]
theorem index4 (k : Nat) (hk : k < 4) (w : World) : (Instr.index 94 (.agg #[.int .i64 16384, .int .i64 0, .int .i64 15137, .int .i64 6270, .int .i64 11585, .int .i64 11585, .int .i64 6270, .int .i64 15137]) (.int .i64 (k : Int))).run Tryz.prog w = .ok (.agg #[.int .i64 (base4.getD k pt0).1, .int .i64 (base4.getD k pt0).2]) w := by
  have u := Tryz.underlying94
  have u2 := Tryz.underlying37
  have hq : k = 0 ∨ k = 1 ∨ k = 2 ∨ k = 3 := by omega
  rcases hq with rfl | rfl | rfl | rfl <;> simp [Instr.index, go_sem, u, u2, base4]
theorem own_litH (w : World) (cs : Array Value) (n size B H : Nat) (e : TypeId) (hH : w.heap.size = H) (hb : B ≤ H) (hm : n ≤ maxLen) (hs : cs.size = n * size) :
    (w.alloc (.cells cs e)).ownsRow B e size (.slice (some ⟨H, 0, none⟩) n n) n cs.toList := by
  subst hH
  exact World.ownsRow_lit w cs n hb hm hs
theorem there_new (w : World) (cs : Array Value) (e : TypeId) (n : Nat) (hn : cs.size = n) : (w.alloc (.cells cs e)).there w.heap.size 0 n := by
  intro j hj
  have hg := heap_alloc_new w (.cells cs e (0, 0))
  refine ⟨?_, ?_⟩
  · rw [Nat.zero_add, cell_of_row _ w.heap.size j cs e (0, 0) hg, Array.getElem?_eq_getElem (by omega)]; rfl
  · rw [Nat.zero_add]; exact frozen_of_row _ w.heap.size j cs e hg
theorem own_setFar {w : World} {B g b o n cap size : Nat} {e : TypeId} {xs : List Value} {u : Value} (h : w.ownsRow B e size (.slice (some ⟨g, 0, none⟩) n cap) n xs) (hne : b ≠ g) : (w.setCell ⟨b, o, none⟩ u).ownsRow B e size (.slice (some ⟨g, 0, none⟩) n cap) n xs := by
  refine ⟨h.1, ?_⟩
  rcases h.2 with ⟨h', _⟩ | ⟨g', cap', cur, h', hb, hg, rest⟩
  · simp at h'
  · simp only [Value.slice.injEq, Option.some.injEq, Addr.mk.injEq, and_true, true_and] at h'
    obtain ⟨rfl, rfl⟩ := h'
    exact .inr ⟨g, cap, cur, rfl, hb, (heap_setCell_other w ⟨b, o, none⟩ g u hne.symm).trans hg, rest⟩
theorem Keeps.setCellsNew {w0 : World} {b : Nat} (hb : w0.heap.size ≤ b) : ∀ (vs : List Value) (o : Nat) (w : World), Keeps w0 w → Keeps w0 (w.setCells b o vs)
  | [], o, w, h => h
  | v :: r, o, w, h => Keeps.setCellsNew hb r (o + 1) _ (h.setNew (p := ⟨b, o, none⟩) hb v)
set_option maxRecDepth 100000 in
set_option maxHeartbeats 8000000 in
theorem ways_any (w : World) : Calls Tryz.prog 66 #[] w fun e w' => e = .returned (.agg (rowP waysL).toArray) ∧ Keeps w w' := by
  have HI := Lib.hid index4
  go_enter Tryz.func66, Tryz.ntmps66
  go_wp2_with fail
  refine name_world (fun W hW => ?_)
  have hk1 : Keeps (w.alloc (.cells (rowP (wayO 0)).toArray 81)) W := by rw [hW]; exact (Keeps.refl _).alloc _
  have hown : W.ownsRow (w.heap.size + 1) 81 2 (.slice (some ⟨w.heap.size + 1, 0, none⟩) 16 16) 16 (rowP (wayO 0)) := by
    rw [hW]; exact own_litH _ (rowP (wayO 0)).toArray 16 2 _ _ _ (by simp) (Nat.le_refl _) (by unfold maxLen; omega) (by decide +kernel)
  have hth := there_new w (rowP (wayO 0)).toArray 81 32 (by decide +kernel)
  have hkw := (Keeps.refl w).alloc (.cells (rowP (wayO 0)).toArray 81)
  have hz : (w.alloc (.cells (rowP (wayO 0)).toArray 81)).heap.size = w.heap.size + 1 := by simp
  clear hW
  generalize w.alloc (.cells (rowP (wayO 0)).toArray 81) = W1 at *
  have hth := Lib.hid hth
  go_loopw [10] (fun i wr => ∃ k : Nat, k ≤ 4 ∧ i = .int .i64 k ∧ Keeps W1 wr ∧ wr.ownsRow (w.heap.size + 1) 81 2 (.slice (some ⟨w.heap.size + 1, 0, none⟩) 16 16) 16 (rowP (wayO k))) (fun i _ => 4 - (intOf i).toNat)
  case atStart => exact ⟨0, by omega, rfl, hk1, hown⟩
  case round =>
    clear hk1 hown
    obtain ⟨i, hi, rfl, hkr, hown⟩ := hrel
    by_cases hlt : i < 4
    · rename World => wo
      have hI := HI.out i hlt
      have hO := Lib.hid (show wayO (i + 1) = (wayI (wayO i) i (base4.getD i pt0) 4).1 from rfl)
      have hXl := Lib.hid (wayO_len i)
      have hi4 : (i : Int) < 4 := by omega
      generalize wayO i = X at *
      generalize base4.getD i pt0 = p at *
      have hown := Lib.hid hown
      have hgs := hkr.size
      have hgl := (rowBase hown.out).2
      have hne : w.heap.size + 1 ≠ wo.heap.size := by omega
      go_wp2_with fail
      go_loopw [14] (fun a wr => ∃ k : Nat, k ≤ 4 ∧ a = .int .i64 k ∧ Keeps W1 wr ∧ Hid (wr.ownsRow (w.heap.size + 1) 81 2 (.slice (some ⟨w.heap.size + 1, 0, none⟩) 16 16) 16 (rowP (wayI X i p k).1)) ∧ wo.heap.size < wr.heap.size ∧ wr.cell? ⟨wo.heap.size, 0, none⟩ = some (.int .i64 (wayI X i p k).2.1) ∧ wr.cell? ⟨wo.heap.size, 1, none⟩ = some (.int .i64 (wayI X i p k).2.2) ∧ wr.frozen? ⟨wo.heap.size, 0, none⟩ = false ∧ wr.frozen? ⟨wo.heap.size, 1, none⟩ = false) (fun a _ => 4 - (intOf a).toNat)
      case atStart => exact ⟨0, by omega, rfl, hkr.alloc _, Lib.hid (own_keep hown.out ((Keeps.refl _).alloc _)), by simp, by simp [go_sem, wayI], by simp [go_sem, wayI], by simp [go_sem], by simp [go_sem]⟩
      case round =>
        clear hkr hown
        obtain ⟨k, hk, rfl, hkr, hown, hsz, c0, c1, f0, f1⟩ := hrel
        by_cases hlk : k < 4
        · have hY := Lib.hid (show wayI X i p (k + 1) = ((wayI X i p k).1.set (4 * k + i) (wayI X i p k).2, rotP (wayI X i p k).2) from rfl)
          have hYl := wayI_len X i p k
          rw [hXl.out] at hYl
          have hYl := Lib.hid hYl
          generalize wayI X i p k = Y at *
          obtain ⟨-, -, q0, u0, e0⟩ := rowAt hown.out ((4 * k + i) * 2) (by omega)
          obtain ⟨-, -, q1, u1, e1⟩ := rowAt hown.out ((4 * k + i) * 2 + 1) (by omega)
          have n1 := fun (w' : World) (u : Value) => setOff w' (w.heap.size + 1) ((4 * k + i) * 2) ((4 * k + i) * 2 + 1) u (by omega)
          have n2 := fun (w' : World) (a o : Nat) (u : Value) => setFar w' (w.heap.size + 1) a wo.heap.size o u hne
          have r1 : (4 : Int) * (k : Int) + (i : Int) < 16 := by omega
          have r2 : ((4 : Int) * (k : Int) + (i : Int)).toNat = 4 * k + i := by omega
          have hlk2 : (k : Int) < 4 := by omega
          have KP := Lib.hid (fun w => perp_any Y.2.1 Y.2.2 w)
          have hst := Lib.hid (World.ownsRow.stored (World.ownsRow.stored hown.out ((4 * k + i) * 2) (.int .i64 Y.2.1)).1 ((4 * k + i) * 2 + 1) (.int .i64 Y.2.2)).1
          have hrs := Lib.hid (rowP_set Y.1 Y.2 (4 * k + i) (by rw [hYl.out]; omega))
          rw [hrs.out] at hst
          have hks0 := Lib.hid ((hkr.setNew (p := ⟨w.heap.size + 1, (4 * k + i) * 2, none⟩) (by show W1.heap.size ≤ w.heap.size + 1; omega) (.int .i64 Y.2.1)).setNew (p := ⟨w.heap.size + 1, (4 * k + i) * 2 + 1, none⟩) (by show W1.heap.size ≤ w.heap.size + 1; omega) (.int .i64 Y.2.2))
          have hcc := Lib.hid (And.intro c0 (And.intro c1 (And.intro f0 f1)))
          clear hkr hown hrs
          go_wp2_with (go_at_call 86; (with_reducible refine (KP.out _).mono ?_); rintro e wp ⟨rfl, hks⟩; have d0 : wp.cell? ⟨wo.heap.size, 0, none⟩ = some (.int .i64 Y.2.1) := (hks.cell (by simpa using hsz)).trans ((setFar _ _ _ _ _ _ hne).trans ((setFar _ _ _ _ _ _ hne).trans hcc.out.1)); have d1 : wp.cell? ⟨wo.heap.size, 1, none⟩ = some (.int .i64 Y.2.2) := (hks.cell (by simpa using hsz)).trans ((setFar _ _ _ _ _ _ hne).trans ((setFar _ _ _ _ _ _ hne).trans hcc.out.2.1)); have e0 : wp.frozen? ⟨wo.heap.size, 0, none⟩ = false := (hks.frozen (by simpa using hsz)).trans (by simp [go_sem, hcc.out.2.2.1]); have e1 : wp.frozen? ⟨wo.heap.size, 1, none⟩ = false := (hks.frozen (by simpa using hsz)).trans (by simp [go_sem, hcc.out.2.2.2]))
          have hks1 := Lib.hid hks
          have hsz2 := hks.size
          have H0 := Lib.hid (And.intro d0 (And.intro d1 (And.intro e0 e1)))
          clear hks
          go_roundw
          case rel => exact ⟨k + 1, by omega, by go_num, ((hks0.out.trans hks1.out).setNew (p := ⟨wo.heap.size, 0, none⟩) hgs _).setNew (p := ⟨wo.heap.size, 1, none⟩) hgs _, Lib.hid (by rw [hY.out]; exact own_setFar (own_setFar (own_keep hst.out hks1.out) hne.symm) hne.symm), by simp at hsz2 ⊢; omega, by rw [hY.out]; simp [go_sem, d0, d1, rotP], by rw [hY.out]; simp [go_sem, d0, d1, rotP], by simp [go_sem, e0], by simp [go_sem, e1]⟩
          case measure => simp [intOf]; omega
        · obtain rfl : k = 4 := by omega
          rw [← hO.out] at hown
          go_wp2_with fail
          go_roundw
          case rel => exact ⟨i + 1, by omega, by go_num, hkr, hown.out⟩
          case measure => simp [intOf]; omega
    · obtain rfl : i = 4 := by omega
      rw [wayO_4] at hown
      have hr : wr.rangeAt (w.heap.size + 1) 0 (rowP waysL) := fun j v hv => by
        have hj := (List.getElem?_eq_some_iff.1 hv).1
        rw [rowP_length, show waysL.length = 16 from rfl] at hj
        rw [Nat.zero_add, ← hv]
        exact (rowAt hown j (by omega)).2.1
      have ht : wr.there w.heap.size 0 32 := fun j hj => by
        obtain ⟨h1, h2⟩ := hth.out j hj
        have hlt : w.heap.size < W1.heap.size := by omega
        exact ⟨by rw [hkr.cell (p := ⟨w.heap.size, 0 + j, none⟩) hlt]; exact h1, (hkr.frozen (p := ⟨w.heap.size, 0 + j, none⟩) hlt).trans h2⟩
      have hone := all_oneCell_toArray (oneCell_rowP waysL)
      have hKw := Lib.hid (hkw.trans hkr)
      have uu := Tryz.underlying81
      have hinf : (Tryz.prog.info? 81).map (·.size) = some (rowP waysL).length := by rw [rowP_length]; kernel_rfl
      clear hown hth HI hkw hkr
      have hr := Lib.hid hr
      have ht := Lib.hid ht
      generalize hXX : rowP waysL = XX at *
      have hXX := Lib.hid hXX
      go_upto_region 12 with fail
      apply wp_region_lit
      refine wpList_load_mid rfl 81 _ rfl (w.heap.size + 1) 0 rfl XX _ hr.out uu rfl hinf ?_
      simp only [Act.put, List.setIfInBounds_toArray, List.set_cons_zero, List.set_cons_succ]
      refine wpList_store_mid rfl 81 _ _ rfl w.heap.size 0 XX.toArray rfl rfl (by have h := ht.out; rw [show XX.toArray.size = 32 by simp [← hXX.out, rowP_length]; rfl]; exact h) (by simpa using hinf) hone ?_
      have hr2 := World.rangeAt_setCells_same wr w.heap.size 0 XX (by have h := ht.out; rw [show XX.length = 32 by rw [← hXX.out, rowP_length]; rfl]; exact h)
      have hk2 := Keeps.setCellsNew (Nat.le_refl _) XX 0 wr hKw.out
      change wpList _ _ _ _ _ (wr.setCells w.heap.size 0 XX)
      generalize wr.setCells w.heap.size 0 XX = W2 at *
      have hres := run_loadVar_mid (P := Tryz.prog) W2 w.heap.size 0 81 XX _ hr2 uu rfl hinf
      simp only [Act.put, List.setIfInBounds_toArray, List.set_cons_zero, List.set_cons_succ]
      clear uu
      have ha : (asAddr (.pointer (some ⟨w.heap.size, 0, none⟩))).run Tryz.prog W2 = .ok ⟨w.heap.size, 0, none⟩ W2 := rfl
      go_wp2_with fail
      exact bodyPost_ret (v := .agg XX.toArray) (by simp [results, Tryz.results66, ha, Result.andThen, hres]) rfl ⟨by rw [hXX.out], hk2⟩
end

section
open Go.RowKit
attribute [local go_sem ↓] Go.wp_at_zero Go.wp_at_succ
set_option linter.unusedVariables false
set_option linter.unusedSimpArgs false
theorem step_appendQ {P : Program} (w : World) {ops : Array Oper} {o : Oper} {a : Act} {K : Act → World → Prop} {Q : Exit → Act → World → Prop} {E : Prop} (hgd : o.guard = none) (s x : Operand) (t : TypeId)
    (ho : o.op = .call { callee := .builtin .append, args := #[s, x], argTypes := #[t, t] })
    (base : Nat) (e : TypeId) (i : TypeInfo) (z : Value) (size bytes : Nat) (ht : P.underlying t = some (.slice e)) (hi : P.info? e = some i) (hz : i.zero = some z)
    (hsize : i.size = size) (hby : i.bytes = bytes) (hzs : z.cells.size = size) (hsz : 0 < size)
    (v : Value) (n : Nat) (xs : List Value) (hs : a.eval s = v) (hown : w.ownsRow base e size v n xs)
    (ad : Addr) (m c : Nat) (news : List Value) (hx : a.eval x = .slice (some ad) m c) (hl : news.length = m * size) (hnews : ∀ j u, news[j]? = some u → w.cell? (ad.add j) = some u) (h1 : ∀ u ∈ news, u.oneCell' = true)
    (h63 : n + m ≤ maxLen) (hbytes : (n + m) * bytes ≤ 140737488355328) (hbase : base ≤ w.heap.size)
    (h : ∀ v' w', w'.ownsRow base e size v' (n + m) (xs ++ news) → w.grownBy w' v.ownBlock → K (a.put o.dst v') w') : if Region.wanted o (yielded ops a.tmps) = true then Oper.wp P o a w K Q else E := by
  have hw : Region.wanted o (yielded ops a.tmps) = true := by simp [Region.wanted, hgd]
  rw [if_pos hw]
  exact wp_append_own w s x t ho base e i z size bytes ht hi hz hsize hby hzs hsz v n xs hs hown ad m c news hx hl hnews h1 h63 hbytes hbase fun v' w' h2 h3 _ => h v' w' h2 h3
theorem below_ownQ {w wr w0 w1 : World} {B : Nat} {e : TypeId} {size : Nat} {v : Value} {n : Nat} {xs : List Value} (hk : Below B w wr) (hw : B = w.heap.size) (hown : wr.ownsRow B e size v n xs) (hg : w0.grownBy w1 v.ownBlock) (h0 : Below wr.heap.size wr w0) : Below B w w1 := by
  subst hw
  exact (hk.trans (h0.mono hk.size)).grown hg (Nat.le_trans hk.size h0.size) (fun k hk' => (hown.lt k hk').1)
/-- The list that the loop builds: each step appends a quarter turn. -/
def rwayT : Nat → List Pt
  | 0 => base4
  | i + 1 => rwayT i ++ [(-((rwayT i).getD i pt0).2, ((rwayT i).getD i pt0).1)]
theorem rwayT_12 : rwayT 12 = waysL := by decide +kernel
theorem rwayT_len : ∀ i, (rwayT i).length = i + 4
  | 0 => rfl
  | i + 1 => by rw [rwayT, List.length_append, rwayT_len i]; rfl
theorem rwayT_bd : ∀ k, k < 12 → (-16384 ≤ ((rwayT k).getD k pt0).1 ∧ ((rwayT k).getD k pt0).1 ≤ 16384) ∧ (-16384 ≤ ((rwayT k).getD k pt0).2 ∧ ((rwayT k).getD k pt0).2 ≤ 16384) := by
  have h : ∀ k : Fin 12, (-16384 ≤ ((rwayT k).getD k pt0).1 ∧ ((rwayT k).getD k pt0).1 ≤ 16384) ∧ (-16384 ≤ ((rwayT k).getD k pt0).2 ∧ ((rwayT k).getD k pt0).2 ≤ 16384) := by decide +kernel
  intro k hk
  exact h ⟨k, hk⟩
set_option maxRecDepth 100000 in
set_option maxHeartbeats 8000000 in
theorem rways_any (w : World) : Calls Tryz.prog 83 #[] w (OwnP w waysL) := by
  obtain ⟨i0, hi, hz0, hz1, hz2⟩ := info_parts pt_info
  go_enter Tryz.func83, Tryz.ntmps83
  go_wp2_with fail
  go_loopw [1, 2] (fun v i wr => ∃ k : Nat, k ≤ 12 ∧ i = .int .i64 k ∧ Keeps w wr ∧ wr.ownsRow w.heap.size 37 2 v (k + 4) (rowP (rwayT k))) (fun _ i _ => 12 - (intOf i).toNat)
  case atStart => exact ⟨0, by omega, rfl, (Keeps.refl _).alloc _, World.ownsRow_lit w (rowP base4).toArray 4 (Nat.le_refl _) (by unfold maxLen; omega) rfl⟩
  case round =>
    obtain ⟨k, hk, rfl, hkw, hown⟩ := hrel
    by_cases hlt : k < 12
    · obtain ⟨g, cap, rfl, hcap, hBg, hown2⟩ := own_slice hown (by omega)
      have hl := rwayT_len k
      obtain ⟨-, q0, -, -⟩ := rowAt hown2 (k * 2) (by omega)
      obtain ⟨-, q1, -, -⟩ := rowAt hown2 (k * 2 + 1) (by omega)
      have p0 := rowP_get (rwayT k) k 0 (by omega) (by omega)
      have p1 := rowP_get (rwayT k) k 1 (by omega) (by omega)
      rw [Nat.add_zero] at p0
      rw [p0] at q0
      rw [p1] at q1
      obtain ⟨⟨b0, b1⟩, b2, b3⟩ := rwayT_bd k hlt
      have hT := Lib.hid (show rwayT (k + 1) = rwayT k ++ [(-((rwayT k).getD k pt0).2, ((rwayT k).getD k pt0).1)] from rfl)
      have hlt2 : (k : Int) < 12 := by omega
      have hlt3 : (k : Int) < (k : Int) + 4 := by omega
      have r1 : IntKind.i64.wrap (-((rwayT k).getD k pt0).2) = -((rwayT k).getD k pt0).2 := IntWalk.i64_in _ (by omega)
      clear p0 p1 hl hown hcap hBg
      simp only [ptV, List.getElem?_cons_zero, List.getElem?_cons_succ] at q0 q1
      generalize hXX : rwayT k = X at *
      generalize X.getD k pt0 = p at *
      clear hXX
      go_wp2_with fail
      have hown' := World.ownsRow.drew hown2
      go_region_law
        ((refine step_appendQ _ (by rfl) (.tmp 12) (.tmp 25) 22 (by rfl) w.heap.size 37 i0 (.agg #[.int .i64 0, .int .i64 0]) 2 16 Tryz.underlying22 hi hz0 hz1 hz2 rfl (by decide) _ _ _ (by rfl) (hown'.alloc _) ⟨wr.heap.size, 0, none⟩ 1 1 (ptV (-p.2, p.1)) (by rfl) rfl (two_new wr.drew (-p.2, p.1) _) (oneCell_ptV _) (by unfold maxLen; omega) (by omega) (by have := hkw.size; simp; omega) ?_; intro v1 w1 hown1 hgrow1; have hk1 := below_ownQ hkw rfl hown2 hgrow1 (Keeps.alloc (Keeps.drew (Keeps.refl wr)) _); clear hgrow1; rw [← rowP_one, ← rowP_append] at hown1))
      all_goals
        go_wp2_with fail
        go_roundw
        case rel => exact ⟨k + 1, by omega, by go_num, by assumption, by rw [hT.out]; assumption⟩
        case measure => simp [intOf]; omega
    · obtain rfl : k = 12 := by omega
      rw [rwayT_12] at hown
      have hown := Lib.hid hown
      go_wp2_with fail
      go_ret
      exact ⟨_, rfl, hown.out, hkw⟩
end
end Go.Proofs.YtdodgnpjlicnoaaGreat
