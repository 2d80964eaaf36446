/- Contracts of polygon.DoubleArea, slices.Clone and slices.Reverse for points, polygon.Orient. -/
import Derived.Test.YtdodgnpjlicnoaaGreatQb
import Derived.Test.YtdodgnpjlicnoaaGreatRo
import Derived.Deep.RegionHeld3
import Derived.IntWalk
import Derived.Lib.SliceRun
namespace Go.Proofs.YtdodgnpjlicnoaaGreat
section
open Go.RowKit
attribute [local go_sem ↓] Go.wp_at_zero Go.wp_at_succ
set_option linter.unusedVariables false
set_option linter.unusedSimpArgs false
set_option maxRecDepth 100000 in
set_option maxHeartbeats 1000000 in
theorem da1_any (p q : Pt) (g : Nat) (s : Int) (w : World) (hg : w.cell? ⟨g, 0, none⟩ = some (.int .i64 s)) (hf : w.frozen? ⟨g, 0, none⟩ = false) (l : -9007199254740992 ≤ s) (u : s ≤ 9007199254740992) :
    Calls Tryz.prog 91 #[.agg #[.int .i64 p.1, .int .i64 p.2], .agg #[.int .i64 q.1, .int .i64 q.2], .pointer (some ⟨g, 0, none⟩)] w fun e w' => e = .returned (.tuple #[]) ∧ ∃ u, Keeps w u ∧ w' = u.setCell ⟨g, 0, none⟩ (.int .i64 (s + crP p q)) := by
  have hb := crP_bd p q
  have hlt := World.block_lt_of_cell? w _ hg
  have KX := Lib.hid (fun w => vcrossx_any p.1 p.2 q.1 q.2 w)
  unfold crP at *
  generalize crossI (hc p.1) (hc p.2) (hc q.1) (hc q.2) = x at *
  have HC := Lib.hid (And.intro hlt (And.intro hg hf))
  clear hlt hg hf
  have HS := Lib.hid (show ∀ w', Keeps ((w.alloc (.cells #[.int .i64 p.1, .int .i64 p.2] 37)).alloc (.cells #[.int .i64 q.1, .int .i64 q.2] 37)) w' → w'.cell? ⟨w.heap.size, 0, none⟩ = some (.int .i64 p.1) ∧ w'.frozen? ⟨w.heap.size, 0, none⟩ = false ∧ w'.cell? ⟨w.heap.size, 1, none⟩ = some (.int .i64 p.2) ∧ w'.frozen? ⟨w.heap.size, 1, none⟩ = false ∧ w'.cell? ⟨w.heap.size + 1, 0, none⟩ = some (.int .i64 q.1) ∧ w'.frozen? ⟨w.heap.size + 1, 0, none⟩ = false ∧ w'.cell? ⟨w.heap.size + 1, 1, none⟩ = some (.int .i64 q.2) ∧ w'.frozen? ⟨w.heap.size + 1, 1, none⟩ = false from fun w' hk => ⟨(hk.cell (p := ⟨w.heap.size, 0, none⟩) (by first | (simp; done) | (simp; omega))).trans (by simp [go_sem]), (hk.frozen (p := ⟨w.heap.size, 0, none⟩) (by first | (simp; done) | (simp; omega))).trans (by simp [go_sem]), (hk.cell (p := ⟨w.heap.size, 1, none⟩) (by first | (simp; done) | (simp; omega))).trans (by simp [go_sem]), (hk.frozen (p := ⟨w.heap.size, 1, none⟩) (by first | (simp; done) | (simp; omega))).trans (by simp [go_sem]), (hk.cell (p := ⟨w.heap.size + 1, 0, none⟩) (by first | (simp; done) | (simp; omega))).trans (by simp [go_sem]), (hk.frozen (p := ⟨w.heap.size + 1, 0, none⟩) (by first | (simp; done) | (simp; omega))).trans (by simp [go_sem]), (hk.cell (p := ⟨w.heap.size + 1, 1, none⟩) (by first | (simp; done) | (simp; omega))).trans (by simp [go_sem]), (hk.frozen (p := ⟨w.heap.size + 1, 1, none⟩) (by first | (simp; done) | (simp; omega))).trans (by simp [go_sem])⟩)
  have HB := Lib.hid (show Keeps w ((w.alloc (.cells #[.int .i64 p.1, .int .i64 p.2] 37)).alloc (.cells #[.int .i64 q.1, .int .i64 q.2] 37)) from (by (repeat (first | (with_reducible exact Keeps.refl _) | (with_reducible assumption) | (with_reducible refine Keeps.drewN ?_ _) | (with_reducible refine Keeps.drew ?_) | (with_reducible refine Keeps.alloc ?_ _) | (with_reducible refine Keeps.setNew ?_ ?_ _))) <;> (dsimp only; omega)))
  have hk0 := Keeps.refl ((w.alloc (.cells #[.int .i64 p.1, .int .i64 p.2] 37)).alloc (.cells #[.int .i64 q.1, .int .i64 q.2] 37))
  have HG := Lib.hid (show ∀ w', Keeps ((w.alloc (.cells #[.int .i64 p.1, .int .i64 p.2] 37)).alloc (.cells #[.int .i64 q.1, .int .i64 q.2] 37)) w' → w'.cell? ⟨g, 0, none⟩ = some (.int .i64 s) ∧ w'.frozen? ⟨g, 0, none⟩ = false from fun w' hk => ⟨((HB.out.trans hk).cell HC.out.1).trans HC.out.2.1, ((HB.out.trans hk).frozen HC.out.1).trans HC.out.2.2⟩)
  obtain ⟨y8, y9⟩ := HG.out _ hk0
  have hw : IntKind.i64.wrap (s + x) = s + x := IntWalk.i64_in _ (by omega)
  go_enter Tryz.func91, Tryz.ntmps91
  go_wp2_with fail
  go_region_with (go_at_call 92; (with_reducible refine (keepk (KX.out _) (by first | assumption | exact Keeps.drew (by assumption) | exact Keeps.drewN (by assumption) _)).mono ?_); rintro e w1 ⟨rfl, hk⟩; obtain ⟨y0, y1, y2, y3, y4, y5, y6, y7⟩ := HS.out _ hk; obtain ⟨y8, y9⟩ := HG.out _ hk)
  all_goals (go_end0; exact ⟨rfl, _, HB.out.trans hk, rfl⟩)
theorem areaTo_j (L : List Pt) (j m : Nat) (h : (j + 1) % L.length = m) : areaTo L (j + 1) = areaTo L j + crP (L.getD j pt0) (L.getD m pt0) := by
  rw [areaTo, nxt, h]
set_option maxRecDepth 100000 in
set_option maxHeartbeats 2000000 in
theorem each_any (A : Option Addr) (n c : Nat) (L : List Pt) (g : Nat) (w0 w : World) (h : Pts w0 A n c L) (hk : Keeps w0 w) (hg : w0.heap.size ≤ g) (hn : n ≤ 4096)
    (hc : w.cell? ⟨g, 0, none⟩ = some (.int .i64 0)) (hf : w.frozen? ⟨g, 0, none⟩ = false) :
    Calls Tryz.prog 90 #[.slice A n c, .func (.func 91) #[] #[.pointer (some ⟨g, 0, none⟩)]] w fun e w' =>
      e = .returned (.tuple #[]) ∧ Keeps w0 w' ∧ w'.cell? ⟨g, 0, none⟩ = some (.int .i64 (areaTo L n)) ∧ w'.frozen? ⟨g, 0, none⟩ = false := by
  have hl := h.1
  have HS := Lib.hid h
  have hni : (n : Int) ≤ 4096 := by omega
  clear h
  have HC := Lib.hid (And.intro hc hf)
  clear hc hf
  go_enter Tryz.func90, Tryz.ntmps90
  go_wp2_with fail
  go_loopw [8] (fun i wr => ∃ (j : Nat), j ≤ n ∧ i = .int .i64 j ∧ Keeps w0 wr ∧ wr.cell? ⟨g, 0, none⟩ = some (.int .i64 (areaTo L j)) ∧ wr.frozen? ⟨g, 0, none⟩ = false) (fun i _ => n - (intOf i).toNat)
  case atStart => exact ⟨0, by omega, rfl, hk, HC.out.1, HC.out.2⟩
  case round =>
    clear HC hk
    obtain ⟨j, hj, rfl, hkw, hc, hf⟩ := hrel
    by_cases hlt : j < n
    · obtain ⟨b, o, rfl, hb, hC⟩ := HS.out.2.2.2.2 (by omega)
      obtain ⟨m, hm⟩ : ∃ m, m = (j + 1) % n := ⟨_, rfl⟩
      have hmn : m < n := hm ▸ Nat.mod_lt _ (by omega)
      have hA := Lib.hid (areaTo_j L j m (by rw [hl, hm]))
      have hbd := areaTo_bd L j
      have hbb := Nat.lt_of_lt_of_le hb hkw.size
      obtain ⟨c0, c1⟩ := (hC j hlt).keep hb hkw
      obtain ⟨d0, d1⟩ := (hC m hmn).keep hb hkw
      have hgl := World.block_lt_of_cell? wr _ hc
      have hgl2 := hgl
      dsimp only at hgl2
      have HGK := Lib.hid (fun w' (hk : Keeps wr w') => And.intro ((hk.cell hgl).trans hc) ((hk.frozen hgl).trans hf))
      have hlt2 : (j : Int) < n := by omega
      have hmi : (m : Int) < n := by omega
      have hm0 : (0 : Int) ≤ (m : Int) := by omega
      have r1 : IntKind.i64.wrap ((j : Int) + 1) = (j : Int) + 1 := IntWalk.i64_in _ (by omega)
      have r2 : ((j : Int) + 1).tmod (n : Int) = (m : Int) := by rw [Int.tmod_eq_emod_of_nonneg (by omega), hm]; rfl
      have r5 : ¬ (n : Int) = 0 := by omega
      have r6 : ¬ n = 0 := by omega
      have r7 : 0 ≤ (j : Int) + 1 := by omega
      have r3 : IntKind.i64.wrap (m : Int) = (m : Int) := IntWalk.i64_in _ (by omega)
      have r4 : ((m : Int)).toNat = m := by omega
      have hS1 : -9007199254740992 ≤ areaTo L j ∧ areaTo L j ≤ 9007199254740992 := by omega
      clear hm hC hbd
      generalize areaTo L j = s at *
      generalize L.getD j pt0 = p at *
      generalize L.getD m pt0 = q at *
      go_wp2_with fail
      go_region_with (go_at_call 91; (with_reducible refine (da1_any p q g s _ (HGK.out _ (by (repeat (first | (with_reducible exact Keeps.refl _) | (with_reducible assumption) | (with_reducible refine Keeps.drewN ?_ _) | (with_reducible refine Keeps.drew ?_) | (with_reducible refine Keeps.alloc ?_ _) | (with_reducible refine Keeps.setNew ?_ ?_ _))) <;> (dsimp only; omega))).1 (HGK.out _ (by (repeat (first | (with_reducible exact Keeps.refl _) | (with_reducible assumption) | (with_reducible refine Keeps.drewN ?_ _) | (with_reducible refine Keeps.drew ?_) | (with_reducible refine Keeps.alloc ?_ _) | (with_reducible refine Keeps.setNew ?_ ?_ _))) <;> (dsimp only; omega))).2 hS1.1 hS1.2).mono ?_); rintro e w1 ⟨rfl, u, hku, rfl⟩)
      all_goals
        have hku2 : Keeps wr u := Keeps.trans (((Keeps.refl wr).alloc _).drew) hku
        obtain ⟨e1, e2⟩ := HGK.out u hku2
        have e3 : (u.setCell ⟨g, 0, none⟩ (.int .i64 (s + crP p q))).cell? ⟨g, 0, none⟩ = some (.int .i64 (s + crP p q)) := by simp [go_sem, e1]
        have e4 : (u.setCell ⟨g, 0, none⟩ (.int .i64 (s + crP p q))).frozen? ⟨g, 0, none⟩ = false := by simp [go_sem, e2]
        have e5 := Keeps.setNew (Keeps.trans hkw hku2) (p := ⟨g, 0, none⟩) hg (.int .i64 (s + crP p q))
        have E := Lib.hid (And.intro e3 (And.intro e4 e5))
        clear e1 e2 e3 e4 e5 hku hku2 hkw hc hf
        go_wp2_with fail
        go_roundw
        case rel => exact ⟨j + 1, by omega, by go_num, E.out.2.2, by rw [hA.out]; exact E.out.1, E.out.2.1⟩
        case measure => simp [intOf]; omega
    · obtain rfl : j = n := by omega
      go_wp2_with fail
      go_end0
      exact ⟨rfl, hkw, hc, hf⟩
end

section
open Go.RowKit
attribute [local go_sem ↓] Go.wp_at_zero Go.wp_at_succ
set_option linter.unusedVariables false
set_option linter.unusedSimpArgs false
theorem area_no {L : List Pt} (h : validL L = false) : area L = 0 := by unfold area; rw [if_neg (by rw [h]; simp)]
theorem area_yes {L : List Pt} (h : validL L = true) : area L = areaTo L L.length ∧ L.length ≤ 4096 := by
  refine ⟨by unfold area; rw [if_pos h], ?_⟩
  unfold validL at h
  simp at h
  exact h.1
theorem area_bd (L : List Pt) : -9007199254740992 ≤ area L ∧ area L ≤ 9007199254740992 := by
  cases h : validL L with
  | false => rw [area_no h]; omega
  | true =>
    obtain ⟨e, hl⟩ := area_yes h
    have := areaTo_bd L L.length
    rw [e]; omega
set_option maxRecDepth 100000 in
set_option maxHeartbeats 1000000 in
theorem darea_any (A : Option Addr) (n c : Nat) (L : List Pt) (w : World) (h : Pts w A n c L) (hn : n ≤ 4611686018427387904) :
    Calls Tryz.prog 68 #[.slice A n c] w fun e w' => e = .returned (.int .i64 (area L)) ∧ Keeps w w' := by
  have hl := h.1
  have HR := Lib.hid (fun t => pvalid_any _ 1 1 [L] _ (Rws.one h hn t))
  rw [vRows_one] at HR
  have HS := Lib.hid h
  clear h
  cases hv : validL L with
  | false =>
    have hA := Lib.hid (area_no hv)
    rw [hv] at HR
    go_enter Tryz.func68, Tryz.ntmps68
    go_wp2_with (go_at_call 89; (with_reducible refine (HR.out _).mono ?_); rintro e w1 ⟨rfl, hk⟩)
    go_ret
    exact ⟨ret_i64 hA.out.symm, ((Keeps.refl _).alloc _).trans hk⟩
  | true =>
    obtain ⟨hA, hn2⟩ := area_yes hv
    have hA := Lib.hid hA
    rw [hv] at HR
    go_enter Tryz.func68, Tryz.ntmps68
    go_wp2_with (first | (go_at_call 89; (with_reducible refine (HR.out _).mono ?_); rintro e w1 ⟨rfl, hk⟩; have hk := Lib.hid (((Keeps.refl w).alloc _).trans hk)) | (go_at_call 90; (with_reducible refine (each_any A n c L _ w _ HS.out (hk.out.alloc _) hk.out.size (by omega) (by simp [go_sem]) (by simp [go_sem])).mono ?_); rintro e w2 ⟨rfl, hk2, hc2, hf2⟩))
    go_ret
    exact ⟨ret_i64 (by rw [hA.out, hl]), hk2⟩
set_option maxRecDepth 100000 in
set_option maxHeartbeats 1000000 in
/-- slices.Clone of points: a row of the call's own. -/
theorem clone_any (A : Option Addr) (n c : Nat) (L : List Pt) (w : World) (h : Pts w A n c L) (hn : n ≤ 1000000000000) :
    Calls Tryz.prog 36 #[.slice A n c] w fun e w' => ∃ v, e = .returned v ∧ w'.ownsRow w.heap.size 37 2 v n (rowP L) ∧ Keeps w w' := by
  obtain ⟨i0, hi, hz0, hz1, hz2⟩ := info_parts pt_info
  have hl := h.1
  have hPX := Lib.hid h.2.2.2.2
  have hq := fun w A => Go.Lib.run_eql_slice_nil (P := Tryz.prog) w 22 37 A n c 0 0 Tryz.underlying22
  cases A with
  | none =>
    obtain rfl : n = 0 := by
      by_cases h0 : 0 < n
      · obtain ⟨b, o, e, _⟩ := hPX.out h0; cases e
      · omega
    obtain rfl : L = [] := List.length_eq_zero_iff.1 hl
    clear h
    go_enter Tryz.func36, Tryz.ntmps36
    go_wp2_with fail
    go_ret
    exact ⟨_, rfl, World.ownsRow_nil _ _ _ _, Keeps.refl _⟩
  | some ad =>
    have hnews : ∀ w', Keeps w w' → ∀ j u, (rowP L)[j]? = some u → w'.cell? (ad.add j) = some u := by
      intro w' hk j u hu
      have hj := (List.getElem?_eq_some_iff.1 hu).1
      rw [rowP_length, hl] at hj
      obtain ⟨b, o, e, hb, hx⟩ := hPX.out (by omega)
      obtain rfl : ad = ⟨b, o, none⟩ := by simpa using e
      have hq : j = j / 2 * 2 + j % 2 := by omega
      have hm : j % 2 < 2 := Nat.mod_lt _ (by omega)
      rw [hq, rowP_get L (j / 2) (j % 2) (by omega) hm] at hu
      obtain ⟨q0, q1⟩ := (hx (j / 2) (by omega)).keep hb hk
      rw [Addr.add_lit, hq]
      rcases (show j % 2 = 0 ∨ j % 2 = 1 by omega) with h2 | h2
      · rw [h2] at hu ⊢
        rw [Nat.add_zero]
        simp [ptV] at hu
        rw [← hu]; exact q0
      · rw [h2] at hu ⊢
        simp [ptV] at hu
        rw [← hu, ← Nat.add_assoc]; exact q1
    have hNews := Lib.hid hnews
    clear h hnews
    go_enter Tryz.func36, Tryz.ntmps36
    go_wp2_with (at_builtin; refine wpList_append_own _ rfl _ _ 22 rfl w.heap.size 37 i0 (.agg #[.int .i64 0, .int .i64 0]) 2 16 Tryz.underlying22 hi hz0 hz1 hz2 rfl (by decide) _ 0 [] rfl (World.ownsRow_lit w #[] 0 (Nat.le_refl _) (by unfold maxLen; omega) (by simp)) ad n c (rowP L) rfl (by rw [rowP_length, hl]) (hNews.out _ ((Keeps.refl _).alloc _)) (oneCell_rowP L) (by unfold maxLen; omega) (by omega) (by simp) ?_; intro v1 w1 hown1 hgrow1 hz9; clear hz9; have hk1 : Keeps w w1 := Below.grown (Keeps.alloc (Keeps.refl w) _) hgrow1 (by simp) (fun k hk => by simp [Act.eval, Value.ownBlock] at hk; omega); clear hgrow1; rw [List.nil_append, Nat.zero_add] at hown1)
    go_ret
    exact ⟨_, rfl, hown1, hk1⟩
end
end Go.Proofs.YtdodgnpjlicnoaaGreat
