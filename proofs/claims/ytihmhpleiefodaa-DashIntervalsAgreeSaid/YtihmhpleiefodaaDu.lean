/- The contract of the law's own runs. -/
import Derived.Test.YtihmhpleiefodaaE25
namespace Go.Proofs.Ytihmhpleiefodaa
open Go.RowKit Go.Shelf
set_option linter.unusedVariables false
set_option linter.unusedSimpArgs false
theorem pair_info : (Try.prog.info? 36).map (fun i => (i.zero, i.size, i.bytes)) = some (some (.agg #[.int .i64 0, .int .i64 0]), 2, 16) := by kernel_rfl
/-- Two results: a slice that reads as the pairs L, and 'true'. -/
def RunR (w : World) (L : List (Int × Int)) (e : Ending) (w' : World) : Prop := ∃ A c, e = .returned (.tuple #[.slice A L.length c, .bool true]) ∧ Pts w' A L.length c L ∧ Keeps w w'
/-- What 'out' holds. -/
def RnO (H : Nat) (L : List (Int × Int)) (W : World) : Prop := ∃ v, BoxN W (H + 5) 33 #[v] ∧ W.ownsRow (H + 4) 36 2 v L.length (rowP L)
/-- Between two rounds. -/
def RnI (long : Int) (m H : Nat) (w W1 : World) (pre : List (IvT long)) (W : World) : Prop := RnO H (pre.map (·.1)) W ∧ pre.length ≤ m ∧ Keeps w W ∧ KpX (H + 6) [H + 5, H + 4] W1 W
/-- A round that has left. -/
def RnX (long : Int) (m H : Nat) (w : World) (c : Code) (qs : List (IvT long)) (W : World) : Prop := c = .exit 0 ∧ ∃ pre x, qs = pre ++ [x] ∧ pre.length = m ∧ RnO H (pre.map (·.1)) W ∧ Keeps w W
theorem RnO.own {X Y : World} {row : Option Nat} {H : Nat} {L : List (Int × Int)} (h : RnO H L X) (hg : X.grownBy Y row) (hr : ∀ r, row = some r → ∃ o : Obj, X.heap[r]? = some o ∧ o.isCells = false) : RnO H L Y := by
  obtain ⟨v, h1, h2⟩ := h
  exact ⟨v, h1.own hg hr, row_own h2 hg hr⟩
theorem iv_ok {wd jn cp ml ph long : Int} {D : List Int} (hl : long ≤ 4611686018427387904) : ∀ p ∈ onL wd jn cp ml ph D long, okP p := by
  intro p hp
  unfold onL at hp
  split at hp
  · rename_i h
    have := (ivs_of (onI D ph) long (by omega)).bounds p hp
    exact ⟨⟨by omega, by omega⟩, ⟨by omega, by omega⟩⟩
  · cases hp
section
attribute [local go_sem ↓] Go.wp_at_zero Go.wp_at_succ
attribute [local go_sem] Oper.semAt_some
set_option maxRecDepth 100000 in
set_option maxHeartbeats 4000000 in
theorem lruns_any (wd jn cp ml ph long : Int) (A : Option Addr) (n c : Nat) (D : List Int) (m : Nat) (w : World) (h : Ins w A n c D) (hm : m ≤ 4000) (hlong : long ≤ 4611686018427387904) :
    Calls Try.prog 16 #[.agg #[.int .i64 wd, .int .i64 jn, .int .i64 cp, .int .i64 ml, .slice A n c, .int .i64 ph], .int .i64 long, .int .i64 m] w (RunR w ((onL wd jn cp ml ph D long).take m)) := by
  have HS := Lib.hid (show ∀ w', Keeps ((w.alloc (.cells #[.int .i64 wd, .int .i64 jn, .int .i64 cp, .int .i64 ml, .slice A n c, .int .i64 ph] 27)).alloc (.cells #[.int .i64 m] 3)) w' → w'.cell? ⟨w.heap.size, 0, none⟩ = some (.int .i64 wd) ∧ w'.frozen? ⟨w.heap.size, 0, none⟩ = false ∧ w'.cell? ⟨w.heap.size, 1, none⟩ = some (.int .i64 jn) ∧ w'.frozen? ⟨w.heap.size, 1, none⟩ = false ∧ w'.cell? ⟨w.heap.size, 2, none⟩ = some (.int .i64 cp) ∧ w'.frozen? ⟨w.heap.size, 2, none⟩ = false ∧ w'.cell? ⟨w.heap.size, 3, none⟩ = some (.int .i64 ml) ∧ w'.frozen? ⟨w.heap.size, 3, none⟩ = false ∧ w'.cell? ⟨w.heap.size, 4, none⟩ = some (.slice A n c) ∧ w'.frozen? ⟨w.heap.size, 4, none⟩ = false ∧ w'.cell? ⟨w.heap.size, 5, none⟩ = some (.int .i64 ph) ∧ w'.frozen? ⟨w.heap.size, 5, none⟩ = false ∧ w'.cell? ⟨w.heap.size + 1, 0, none⟩ = some (.int .i64 m) ∧ w'.frozen? ⟨w.heap.size + 1, 0, none⟩ = false from fun w' hk => ⟨(hk.cell (p := ⟨w.heap.size, 0, none⟩) (by first | (simp; done) | (simp; omega))).trans (by simp [go_sem]), (hk.frozen (p := ⟨w.heap.size, 0, none⟩) (by first | (simp; done) | (simp; omega))).trans (by simp [go_sem]), (hk.cell (p := ⟨w.heap.size, 1, none⟩) (by first | (simp; done) | (simp; omega))).trans (by simp [go_sem]), (hk.frozen (p := ⟨w.heap.size, 1, none⟩) (by first | (simp; done) | (simp; omega))).trans (by simp [go_sem]), (hk.cell (p := ⟨w.heap.size, 2, none⟩) (by first | (simp; done) | (simp; omega))).trans (by simp [go_sem]), (hk.frozen (p := ⟨w.heap.size, 2, none⟩) (by first | (simp; done) | (simp; omega))).trans (by simp [go_sem]), (hk.cell (p := ⟨w.heap.size, 3, none⟩) (by first | (simp; done) | (simp; omega))).trans (by simp [go_sem]), (hk.frozen (p := ⟨w.heap.size, 3, none⟩) (by first | (simp; done) | (simp; omega))).trans (by simp [go_sem]), (hk.cell (p := ⟨w.heap.size, 4, none⟩) (by first | (simp; done) | (simp; omega))).trans (by simp [go_sem]), (hk.frozen (p := ⟨w.heap.size, 4, none⟩) (by first | (simp; done) | (simp; omega))).trans (by simp [go_sem]), (hk.cell (p := ⟨w.heap.size, 5, none⟩) (by first | (simp; done) | (simp; omega))).trans (by simp [go_sem]), (hk.frozen (p := ⟨w.heap.size, 5, none⟩) (by first | (simp; done) | (simp; omega))).trans (by simp [go_sem]), (hk.cell (p := ⟨w.heap.size + 1, 0, none⟩) (by first | (simp; done) | (simp; omega))).trans (by simp [go_sem]), (hk.frozen (p := ⟨w.heap.size + 1, 0, none⟩) (by first | (simp; done) | (simp; omega))).trans (by simp [go_sem])⟩)
  have HB := Lib.hid (show Keeps w ((w.alloc (.cells #[.int .i64 wd, .int .i64 jn, .int .i64 cp, .int .i64 ml, .slice A n c, .int .i64 ph] 27)).alloc (.cells #[.int .i64 m] 3)) from (by (repeat (first | (with_reducible exact Keeps.refl _) | (with_reducible assumption) | (with_reducible refine Keeps.drewN ?_ _) | (with_reducible refine Keeps.drew ?_) | (with_reducible refine Keeps.alloc ?_ _) | (with_reducible refine Keeps.setNew ?_ ?_ _))) <;> (dsimp only; omega)))
  have hk0 := Keeps.refl ((w.alloc (.cells #[.int .i64 wd, .int .i64 jn, .int .i64 cp, .int .i64 ml, .slice A n c, .int .i64 ph] 27)).alloc (.cells #[.int .i64 m] 3))
  have HI := Lib.hid h
  have hbA : 0 < n → ∀ b o, A = some ⟨b, o, none⟩ → b < w.heap.size := fun h0 b o e => by
    obtain ⟨b', o', e', hb', _⟩ := h.2.2.2.2 h0
    rw [e] at e'; cases e'; exact hb'
  clear h
  have hnf : ∀ (w9 : World) (b1 b2 : Nat), (binOp BinOp.eql 63 (.func (.func 53) #[] #[.pointer (some ⟨b1, 0, none⟩), .pointer (some ⟨b2, 0, none⟩)]) Value.nilFunc).run Try.prog w9 = .ok (.bool false) w9 := fun _ _ _ => by kernel_rfl
  refine (callsIn_wide (n := 9)).1 ?_
  refine callsIn_of_wp_marks Try.func16 rfl trivial ?_ rfl
  simp only [Try.ntmps16, List.size_toArray, List.length_cons, List.length_nil, Nat.reduceAdd, Nat.reduceSub, Array.replicate_succ, Array.replicate_zero, List.push_toArray, List.append_toArray, List.nil_append, List.cons_append]
  refine wpIn_wide.2 ?_
  obtain ⟨y0, y1, y2, y3, y4, y5, y6, y7, y8, y9, y10, y11, y12, y13⟩ := HS.out _ hk0
  go_wp2_with (go_at_call 34; (with_reducible refine (oni_any _ _ _ _ _ _ _ _ _ _).mono ?_); rintro e w5 ⟨rfl, hw5⟩)
  have b5 := (((((BoxN.new (w.alloc (.cells #[.int .i64 wd, .int .i64 jn, .int .i64 cp, .int .i64 ml, .slice A n c, .int .i64 ph] 27)) 3 #[.int .i64 m]).alloc (.cells #[.int .i64 wd, .int .i64 jn, .int .i64 cp, .int .i64 ml, .slice A n c, .int .i64 ph] 27)).alloc (.cells #[.int .i64 long] 3)).alloc (.cells #[] 36)).alloc (.cells #[.slice (some ⟨w.heap.size + 1 + 1 + 1 + 1, 0, none⟩) 0 0] 33))
  have bs := ((((BoxN.new ((w.alloc (.cells #[.int .i64 wd, .int .i64 jn, .int .i64 cp, .int .i64 ml, .slice A n c, .int .i64 ph] 27)).alloc (.cells #[.int .i64 m] 3)) 27 #[.int .i64 wd, .int .i64 jn, .int .i64 cp, .int .i64 ml, .slice A n c, .int .i64 ph]).alloc (.cells #[.int .i64 long] 3)).alloc (.cells #[] 36)).alloc (.cells #[.slice (some ⟨w.heap.size + 1 + 1 + 1 + 1, 0, none⟩) 0 0] 33))
  have bl := (((BoxN.new (((w.alloc (.cells #[.int .i64 wd, .int .i64 jn, .int .i64 cp, .int .i64 ml, .slice A n c, .int .i64 ph] 27)).alloc (.cells #[.int .i64 m] 3)).alloc (.cells #[.int .i64 wd, .int .i64 jn, .int .i64 cp, .int .i64 ml, .slice A n c, .int .i64 ph] 27)) 3 #[.int .i64 long]).alloc (.cells #[] 36)).alloc (.cells #[.slice (some ⟨w.heap.size + 1 + 1 + 1 + 1, 0, none⟩) 0 0] 33))
  have bo := (BoxN.new (((((w.alloc (.cells #[.int .i64 wd, .int .i64 jn, .int .i64 cp, .int .i64 ml, .slice A n c, .int .i64 ph] 27)).alloc (.cells #[.int .i64 m] 3)).alloc (.cells #[.int .i64 wd, .int .i64 jn, .int .i64 cp, .int .i64 ml, .slice A n c, .int .i64 ph] 27)).alloc (.cells #[.int .i64 long] 3)).alloc (.cells #[] 36)) 33 #[.slice (some ⟨w.heap.size + 1 + 1 + 1 + 1, 0, none⟩) 0 0])
  simp only [World.size_alloc] at b5 bs bl bo
  have hkW := (((((((Keeps.refl w).alloc (.cells #[.int .i64 wd, .int .i64 jn, .int .i64 cp, .int .i64 ml, .slice A n c, .int .i64 ph] 27)).alloc (.cells #[.int .i64 m] 3)).alloc (.cells #[.int .i64 wd, .int .i64 jn, .int .i64 cp, .int .i64 ml, .slice A n c, .int .i64 ph] 27)).alloc (.cells #[.int .i64 long] 3)).alloc (.cells #[] 36)).alloc (.cells #[.slice (some ⟨w.heap.size + 1 + 1 + 1 + 1, 0, none⟩) 0 0] 33))
  have hr0 := row_keep (World.ownsRow_lit (base := w.heap.size + 4) (e := 36) (size := 2) ((((w.alloc (.cells #[.int .i64 wd, .int .i64 jn, .int .i64 cp, .int .i64 ml, .slice A n c, .int .i64 ph] 27)).alloc (.cells #[.int .i64 m] 3)).alloc (.cells #[.int .i64 wd, .int .i64 jn, .int .i64 cp, .int .i64 ml, .slice A n c, .int .i64 ph] 27)).alloc (.cells #[.int .i64 long] 3)) #[] 0 (by simp) (by unfold maxLen; omega) (by simp)) ((Keeps.refl _).alloc (.cells #[.slice (some ⟨w.heap.size + 1 + 1 + 1 + 1, 0, none⟩) 0 0] 33))
  simp only [World.size_alloc] at hr0
  have hsz : ((((((w.alloc (.cells #[.int .i64 wd, .int .i64 jn, .int .i64 cp, .int .i64 ml, .slice A n c, .int .i64 ph] 27)).alloc (.cells #[.int .i64 m] 3)).alloc (.cells #[.int .i64 wd, .int .i64 jn, .int .i64 cp, .int .i64 ml, .slice A n c, .int .i64 ph] 27)).alloc (.cells #[.int .i64 long] 3)).alloc (.cells #[] 36)).alloc (.cells #[.slice (some ⟨w.heap.size + 1 + 1 + 1 + 1, 0, none⟩) 0 0] 33)).heap.size = w.heap.size + 6 := by simp
  have hI3 := HI.out.keep hkW
  obtain ⟨W1, hW1⟩ : ∃ W1, ((((((w.alloc (.cells #[.int .i64 wd, .int .i64 jn, .int .i64 cp, .int .i64 ml, .slice A n c, .int .i64 ph] 27)).alloc (.cells #[.int .i64 m] 3)).alloc (.cells #[.int .i64 wd, .int .i64 jn, .int .i64 cp, .int .i64 ml, .slice A n c, .int .i64 ph] 27)).alloc (.cells #[.int .i64 long] 3)).alloc (.cells #[] 36)).alloc (.cells #[.slice (some ⟨w.heap.size + 1 + 1 + 1 + 1, 0, none⟩) 0 0] 33)) = W1 := ⟨_, rfl⟩
  rw [hW1] at b5 bs bl bo hkW hsz hI3 hr0 ⊢
  have hb9 : 0 < n → ∀ b o, A = some ⟨b, o, none⟩ → b < w.heap.size + 6 ∧ b ∉ [w.heap.size + 5, w.heap.size + 4] := fun h0 b o e => by
    have := hbA h0 b o e
    exact ⟨by omega, by simp; omega⟩
  clear hW1 HS HB hk0 y0 y1 y2 y3 y4 y5 y6 y7 y8 y9 y10 y11 y12 y13 hw5 w5 hbA HI hnf
  have hwH : w.heap.size ≤ w.heap.size := Nat.le_refl _
  generalize hHH : w.heap.size = H at *
  replace hHH := Lib.hid hHH
  refine (wpIn_wide (n := 9)).1 ?_
  refine wpIn_rangeFunc_ownH rfl (by omega) (gf := 53) (lb := #[.pointer (some ⟨H + 1 + 1, 0, none⟩), .pointer (some ⟨H + 1 + 1 + 1, 0, none⟩)]) rfl trivial (enters_of Try.func53 (by kernel_rfl) rfl)
    (oni_stops 8 (by omega) (H + 1 + 1) (H + 1 + 1 + 1) (H + 6) [H + 5, H + 4] wd jn cp ml ph long A n c D W1 hlong (by omega) (by simp) (by omega) (by simp) (by omega) bs bl hI3 hb9)
    (fun h k => KpX.trans h k) (fun W l o o' hl _ _ _ => KpX.put W l o' (by omega)) (Below.refl _ _) (fun _ => rfl)
    (RnI long m H w W1) (RnX long m H w)
    ?hI ?hIx
    ⟨⟨_, bo, hr0⟩, by simp, hkW, KpX.refl _ _ _⟩
    (fun x a' W => a' = { tmps := #[.agg #[.int .i64 wd, .int .i64 jn, .int .i64 cp, .int .i64 ml, .slice A n c, .int .i64 ph], .int .i64 long, .int .i64 m, .pointer (some ⟨H, 0, none⟩), undef, .pointer (some ⟨H + 1, 0, none⟩), .slice none 0 0, .bool false, (.func (.func 53) #[] #[.pointer (some ⟨H + 1 + 1, 0, none⟩), .pointer (some ⟨H + 1 + 1 + 1, 0, none⟩)]), .pointer (some ⟨H + 1 + 1 + 1 + 1 + 1, 0, none⟩), .int .i64 x.1.1, .int .i64 x.1.2, .agg #[.int .i64 wd, .int .i64 jn, .int .i64 cp, .int .i64 ml, .slice A n c, .int .i64 ph], .int .i64 long, (.func (.func 53) #[] #[.pointer (some ⟨H + 1 + 1, 0, none⟩), .pointer (some ⟨H + 1 + 1 + 1, 0, none⟩)]), (.func (.func 53) #[] #[.pointer (some ⟨H + 1 + 1, 0, none⟩), .pointer (some ⟨H + 1 + 1 + 1, 0, none⟩)]), .bool false, .slice (some ⟨H + 1 + 1 + 1 + 1, 0, none⟩) 0 0, (.func (.func 53) #[] #[.pointer (some ⟨H + 1 + 1, 0, none⟩), .pointer (some ⟨H + 1 + 1 + 1, 0, none⟩)]), .int .i64 x.1.1, .int .i64 x.1.2, undef, undef, undef, undef, undef, undef, undef, undef, undef, undef, undef], defers := [] })
    ?hAx ?assign ?body ?done ?stop
  case hI =>
    rintro s X Y row ⟨h1, h2, h3, h4⟩ hg hrow
    exact ⟨h1.own hg (fun r e => (hrow r e).2), h2, Below.grown h3 hg h3.size (fun k e => by have := (hrow k e).1; have := hHH.out; omega), h4.trans (KpX.grown hg (by have := h4.1; omega) (fun k e => .inr (by have := (hrow k e).1; omega)))⟩
  case hIx =>
    rintro c9 s X Y row ⟨h1, pre, x, h2, h3, h4, h5⟩ hg hrow
    exact ⟨h1, pre, x, h2, h3, h4.own hg (fun r e => (hrow r e).2), Below.grown h5 hg h5.size (fun k e => by have := (hrow k e).1; have := hHH.out; omega)⟩
  case hAx => exact fun _ _ _ _ _ _ hs _ _ => hs
  case assign =>
    rintro l pre x W K hi hK
    gi_wp2
    exact hK _ _ (KeepsFrom.refl _ _) (KpX.refl _ _ _) hi rfl
  case body =>
    rintro l pre x a' W hl ⟨r, hr9⟩ ⟨⟨v, q5, hrow⟩, hpm, hK, hX⟩ rfl hlt
    have hWs : H + 6 ≤ W.heap.size := by have := hX.1; omega
    obtain ⟨i0, hi, hz0, hz1, hz2⟩ := info_parts pair_info
    obtain ⟨A9, c9, rfl⟩ := own_len hrow
    have x5 : W.cell? ⟨H + 1, 0, none⟩ = some (.int .i64 m) := (hX.cell (p := ⟨H + 1, 0, none⟩) (by dsimp only; omega) (by simp)).trans (b5.cell 0)
    have x9 : W.cell? ⟨H + 1 + 1 + 1 + 1 + 1, 0, none⟩ = some (.slice A9 (pre.map (·.1)).length c9) := (q5.cell 0).trans rfl
    have g9 : W.frozen? ⟨H + 1 + 1 + 1 + 1 + 1, 0, none⟩ = false := q5.frozen 0
    have hxo : okP x.1 := by have := x.2; exact ⟨⟨by omega, by omega⟩, ⟨by omega, by omega⟩⟩
    have hpl : (pre.map (·.1)).length = pre.length := by simp
    rw [hpl] at x9 hrow
    clear b5 bs bl bo hkW hI3 hb9 hr0
    by_cases hge : m ≤ pre.length
    · have hgi : (m : Int) ≤ pre.length := by omega
      gi_wp2
      exact ⟨KeepsFrom.refl _ _, rfl, pre, x, rfl, by omega, ⟨_, q5, by rw [hpl]; exact hrow⟩, hK⟩
    · have hgi : ¬ (m : Int) ≤ pre.length := by omega
      have hA9 : W.heap.size ≠ H + 1 + 1 + 1 + 1 + 1 := by omega
      have hA8 : H + 1 + 1 + 1 + 1 + 1 < W.heap.size := by omega
      gi_wp2_with (gi_at_builtin; refine wpListIn_append_own _ rfl _ _ 33 rfl (H + 4) 36 i0 (.agg #[.int .i64 0, .int .i64 0]) 2 16 Try.underlying33 hi hz0 hz1 hz2 rfl (by decide) _ _ _ rfl (row_keep hrow ((Keeps.refl W).alloc _)) ⟨W.heap.size, 0, none⟩ 1 1 (ptV x.1) rfl rfl (two_newA W x.1 _ _ rfl) (oneCell_ptV _) (by unfold maxLen; omega) (by omega) (by simp; omega) ?_; intro v' w7 hown hgrow hz9; clear hz9; rw [← rowP_one, ← rowP_append] at hown; obtain ⟨g', cap', rfl⟩ := ownsRow_succ hown; have u87 := (q5.alloc _).kept hgrow (q5.not_row (by decide) hrow); have g87 := u87.frozen 0; have e87 := (u87.cell 0).trans rfl)
      have hra := row_keep hrow ((Keeps.refl W).alloc (.cells #[.int .i64 x.1.1, .int .i64 x.1.2] 36))
      have hvb := row_base hra
      have hu := u87.set 0 (.slice (some ⟨g', 0, none⟩) (pre.length + 1) cap')
      simp only [List.setIfInBounds_toArray, List.set_cons_succ, List.set_cons_zero] at hu
      have r8 := hown.kept (grown_set w7 (H + 1 + 1 + 1 + 1 + 1) 0 (.slice (some ⟨g', 0, none⟩) (pre.length + 1) cap')) (.inr (u87.not_row (by decide) hown).symm)
      have hs7 : W.heap.size + 1 ≤ w7.heap.size := by have := hgrow.size; simpa using this
      have hX8 : KpX (H + 6) [H + 5, H + 4] W (w7.setCell ⟨H + 1 + 1 + 1 + 1 + 1, 0, none⟩ (.slice (some ⟨g', 0, none⟩) (pre.length + 1) cap')) := ((KpX.of ((Keeps.refl _).alloc _) hWs).trans (KpX.grown hgrow (by simp; omega) (fun k e => by
        have h9 := hvb k e
        by_cases e4 : k = H + 4
        · exact .inl (by simp [e4])
        · by_cases e5 : k = H + 5
          · exact .inl (by simp [e5])
          · exact .inr (by omega)))).trans (KpX.set _ _ _ _ (by omega) (.inl (by simp)))
      have hK8 : Keeps w w7 := Below.grown (hK.alloc _) hgrow (by have := hK.size; simp; omega) (fun k e => by have := hvb k e; have := hHH.out; omega)
      have hpl2 : ((pre ++ [x]).map (·.1)).length = pre.length + 1 := by simp
      refine ⟨(((KeepsOthers.alloc W _).trans (ko_append hra hgrow)).trans (KeepsOthers.setCell _ _ _)).from _, hX8, ⟨_, hu, ?_⟩, by simp; omega, hK8.setNew (by have := hHH.out; dsimp only; omega) _, hX.trans hX8⟩
      rw [hpl2, List.map_append]
      exact r8
  case done =>
    rintro D9 ys W hD hys ⟨⟨v, q5, hrow⟩, hpm, hK, hX⟩ hKd
    clear b5 bs bl bo hkW hI3 hb9 hr0
    have hLq : (onL wd jn cp ml ph D long).take m = ys.map (·.1) := by
      have h9 : (onL wd jn cp ml ph D long).length ≤ m := by rw [← hys]; simpa using hpm
      rw [List.take_of_length_le h9, hys]
    rw [← hLq] at hrow
    have _hpl : ((onL wd jn cp ml ph D long).take m).length = ((onL wd jn cp ml ph D long).take m).length := rfl
    obtain ⟨A9, c9, rfl⟩ := own_len hrow
    have x9 : W.cell? ⟨H + 1 + 1 + 1 + 1 + 1, 0, none⟩ = some (.slice A9 ((onL wd jn cp ml ph D long).take m).length c9) := (q5.cell 0).trans rfl
    have hrz := row_own hrow (grownBy_putObj' W D9 (.deferred none)) (fun r (e : some D9 = some r) => (show ∃ o : Obj, W.heap[r]? = some o ∧ o.isCells = false by cases e; exact ⟨_, hKd, rfl⟩))
    have hkz : Keeps w (W.putObj D9 (.deferred none)) := Below.grown hK (grownBy_putObj' W D9 (.deferred none)) hK.size (fun k e => by cases e; have := hHH.out; omega)
    have hok : ∀ p ∈ (onL wd jn cp ml ph D long).take m, okP p := fun p hp => iv_ok hlong p (List.mem_of_mem_take hp)
    obtain ⟨A', c', e', hPz⟩ := Pts.of_own hrz rfl hok
    cases e'
    generalize (onL wd jn cp ml ph D long).take m = R at *
    replace hrz := Lib.hid hrz
    replace hPz := Lib.hid hPz
    clear hrow q5 hys hLq hok
    go_wp2_with fail
    refine ⟨by simp, .inl ⟨_, _, rfl, run_takeDeferred hKd, ?_⟩⟩
    exact ⟨.tuple #[.slice A9 R.length c9, .bool true], by simp [results, Try.results16, go_sem, *], A9, c9, rfl, hPz.out, hkz⟩
  case stop =>
    rintro D9 c8 qs W hD hqs ⟨rfl, pre, x, rfl, hpm, ⟨v, q5, hrow⟩, hK⟩ hKd
    clear b5 bs bl bo hkW hI3 hb9 hr0
    have hLq : (onL wd jn cp ml ph D long).take m = pre.map (·.1) := by
      obtain ⟨r9, hr9⟩ := hqs
      rw [← hr9, List.map_append, List.append_assoc, List.take_left' (by simpa using hpm)]
    rw [← hLq] at hrow
    have _hpl : ((onL wd jn cp ml ph D long).take m).length = ((onL wd jn cp ml ph D long).take m).length := rfl
    obtain ⟨A9, c9, rfl⟩ := own_len hrow
    have x9 : W.cell? ⟨H + 1 + 1 + 1 + 1 + 1, 0, none⟩ = some (.slice A9 ((onL wd jn cp ml ph D long).take m).length c9) := (q5.cell 0).trans rfl
    have hrz := row_own hrow (grownBy_putObj' W D9 (.deferred none)) (fun r (e : some D9 = some r) => (show ∃ o : Obj, W.heap[r]? = some o ∧ o.isCells = false by cases e; exact ⟨_, hKd, rfl⟩))
    have hkz : Keeps w (W.putObj D9 (.deferred none)) := Below.grown hK (grownBy_putObj' W D9 (.deferred none)) hK.size (fun k e => by cases e; have := hHH.out; omega)
    have hok : ∀ p ∈ (onL wd jn cp ml ph D long).take m, okP p := fun p hp => iv_ok hlong p (List.mem_of_mem_take hp)
    obtain ⟨A', c', e', hPz⟩ := Pts.of_own hrz rfl hok
    cases e'
    generalize (onL wd jn cp ml ph D long).take m = R at *
    replace hrz := Lib.hid hrz
    replace hPz := Lib.hid hPz
    clear hrow q5 hqs hLq hok
    gi_wp2
    go_wp2_with fail
    refine ⟨by simp, .inl ⟨_, _, rfl, run_takeDeferred hKd, ?_⟩⟩
    exact ⟨.tuple #[.slice A9 R.length c9, .bool true], by simp [results, Try.results16, go_sem, *], A9, c9, rfl, hPz.out, hkz⟩
end
end Go.Proofs.Ytihmhpleiefodaa
