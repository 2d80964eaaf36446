/- Contracts of the reference's outline and Polyline. -/
import Derived.Test.YtdodgnpjlicnoaaGreatKp
import Derived.Test.YtdodgnpjlicnoaaGreatOz
import Derived.Laws.AppendOwnNone
import Derived.Deep.Slices
import Derived.RangeFuncRecord
import Derived.Test.YtdodgnpjlicnoaaGreatZc
import Derived.Test.YtdodgnpjlicnoaaGreatKq
namespace Go.Proofs.YtdodgnpjlicnoaaGreat
section
section
open Go.RowKit
attribute [local go_sem ↓] Go.wp_at_zero Go.wp_at_succ
set_option linter.unusedVariables false
set_option linter.unusedSimpArgs false
theorem int_info : (Tryz.prog.info? 3).map (fun i => (i.zero, i.size, i.bytes)) = some (some (.int .i64 0), 1, 8) := by kernel_rfl
def rowI (D : List Int) : List Value := D.map fun d => .int .i64 d
theorem rowI_len (D : List Int) : (rowI D).length = D.length := by unfold rowI; rw [List.length_map]
theorem rowI_get (D : List Int) (k : Nat) (h : k < D.length) : (rowI D)[k]? = some (.int .i64 (D.getD k 0)) := by
  unfold rowI
  rw [List.getElem?_map, List.getD_eq_getElem?_getD, List.getElem?_eq_getElem h]; rfl
theorem oneCell_rowI (D : List Int) : ∀ u ∈ rowI D, u.oneCell' = true := by
  intro u hu
  obtain ⟨d, _, rfl⟩ := List.mem_map.1 hu
  rfl
theorem Ins.of_own {base n : Nat} {e : TypeId} {v : Value} {w : World} {D : List Int} (h : w.ownsRow base e 1 v n (rowI D)) (hD : ∀ d ∈ D, i64b d) : ∃ A c, v = .slice A n c ∧ Ins w A n c D := by
  obtain ⟨A, c, rfl, g1, g2, g3, g4⟩ := SlA.of_own h
  rw [rowI_len, Nat.mul_one] at g3
  refine ⟨A, c, rfl, g3, g1, g2, hD, fun hn => ?_⟩
  obtain ⟨b, o, e, hb, hc⟩ := g4 hn
  exact ⟨b, o, e, hb, fun k hk => (hc k (by omega)).trans (rowI_get D k (by omega))⟩
theorem Ins.put {A : Option Addr} {n c b : Nat} {w : World} {D : List Int} (h : Ins w A n c D) (hb : ∀ a, A = some a → a.block ≠ b) (v : Value) (k : Nat) : Ins (w.setCell ⟨b, k, none⟩ v) A n c D := by
  obtain ⟨h1, h2, h3, h4, h5⟩ := h
  refine ⟨h1, h2, h3, h4, fun hn => ?_⟩
  obtain ⟨b2, o2, e, hb2, hc⟩ := h5 hn
  refine ⟨b2, o2, e, by have := (KeepsWalks.setCell w ⟨b, k, none⟩ v).size; omega, fun q hq => (setFar _ _ _ _ _ _ (fun e2 => hb _ e e2.symm)).trans (hc q hq)⟩
theorem Keeps.far6 {w w2 : World} {g : Nat} (hk : Keeps w w2) (hg : w.heap.size ≤ g) (a b c d e f : Value) : Keeps w ((((((w2.setCell ⟨g, 0, none⟩ a).setCell ⟨g, 1, none⟩ b).setCell ⟨g, 2, none⟩ c).setCell ⟨g, 3, none⟩ d).setCell ⟨g, 4, none⟩ e).setCell ⟨g, 5, none⟩ f) :=
  (((((hk.setNew hg _).setNew hg _).setNew hg _).setNew hg _).setNew hg _).setNew hg _
set_option maxRecDepth 100000 in
set_option maxHeartbeats 4000000 in
theorem clone24_any (wd jn cp ml ph : Int) (Ad : Option Addr) (nd cd : Nat) (D : List Int) (w : World) (h : Ins w Ad nd cd D) (hz : Ad = none → cd = 0) (hn : nd * 8 ≤ 140737488355328) :
    Calls Tryz.prog 8 #[.agg #[.int .i64 wd, .int .i64 jn, .int .i64 cp, .int .i64 ml, .slice Ad nd cd, .int .i64 ph]] w fun e w' => ∃ A2 c2, e = .returned (.agg #[.int .i64 wd, .int .i64 jn, .int .i64 cp, .int .i64 ml, .slice A2 nd c2, .int .i64 ph]) ∧ Ins w' A2 nd c2 D ∧ Keeps w w' := by
  obtain ⟨i0, hi, hz0, hz1, hz2⟩ := info_parts int_info
  have hl := h.1
  have hok := Lib.hid h.2.2.2.1
  have hm := h.2.2.1
  have HS := Lib.hid (show ∀ w', Keeps ((w.alloc (.cells #[.int .i64 wd, .int .i64 jn, .int .i64 cp, .int .i64 ml, .slice Ad nd cd, .int .i64 ph] 27)).alloc (.cells #[.int .i64 0, .int .i64 0, .int .i64 0, .int .i64 0, .slice none 0 0, .int .i64 0] 27)) w' → w'.cell? ⟨w.heap.size, 0, none⟩ = some (.int .i64 wd) ∧ w'.frozen? ⟨w.heap.size, 0, none⟩ = false ∧ w'.cell? ⟨w.heap.size, 1, none⟩ = some (.int .i64 jn) ∧ w'.frozen? ⟨w.heap.size, 1, none⟩ = false ∧ w'.cell? ⟨w.heap.size, 2, none⟩ = some (.int .i64 cp) ∧ w'.frozen? ⟨w.heap.size, 2, none⟩ = false ∧ w'.cell? ⟨w.heap.size, 3, none⟩ = some (.int .i64 ml) ∧ w'.frozen? ⟨w.heap.size, 3, none⟩ = false ∧ w'.cell? ⟨w.heap.size, 4, none⟩ = some (.slice Ad nd cd) ∧ w'.frozen? ⟨w.heap.size, 4, none⟩ = false ∧ w'.cell? ⟨w.heap.size, 5, none⟩ = some (.int .i64 ph) ∧ w'.frozen? ⟨w.heap.size, 5, none⟩ = false ∧ w'.cell? ⟨w.heap.size + 1, 0, none⟩ = some (.int .i64 0) ∧ w'.frozen? ⟨w.heap.size + 1, 0, none⟩ = false ∧ w'.cell? ⟨w.heap.size + 1, 1, none⟩ = some (.int .i64 0) ∧ w'.frozen? ⟨w.heap.size + 1, 1, none⟩ = false ∧ w'.cell? ⟨w.heap.size + 1, 2, none⟩ = some (.int .i64 0) ∧ w'.frozen? ⟨w.heap.size + 1, 2, none⟩ = false ∧ w'.cell? ⟨w.heap.size + 1, 3, none⟩ = some (.int .i64 0) ∧ w'.frozen? ⟨w.heap.size + 1, 3, none⟩ = false ∧ w'.cell? ⟨w.heap.size + 1, 4, none⟩ = some (.slice none 0 0) ∧ w'.frozen? ⟨w.heap.size + 1, 4, none⟩ = false ∧ w'.cell? ⟨w.heap.size + 1, 5, none⟩ = some (.int .i64 0) ∧ w'.frozen? ⟨w.heap.size + 1, 5, none⟩ = false from fun w' hk => ⟨(hk.cell (p := ⟨w.heap.size, 0, none⟩) (by first | (simp; done) | (simp; omega))).trans (by simp [go_sem]), (hk.frozen (p := ⟨w.heap.size, 0, none⟩) (by first | (simp; done) | (simp; omega))).trans (by simp [go_sem]), (hk.cell (p := ⟨w.heap.size, 1, none⟩) (by first | (simp; done) | (simp; omega))).trans (by simp [go_sem]), (hk.frozen (p := ⟨w.heap.size, 1, none⟩) (by first | (simp; done) | (simp; omega))).trans (by simp [go_sem]), (hk.cell (p := ⟨w.heap.size, 2, none⟩) (by first | (simp; done) | (simp; omega))).trans (by simp [go_sem]), (hk.frozen (p := ⟨w.heap.size, 2, none⟩) (by first | (simp; done) | (simp; omega))).trans (by simp [go_sem]), (hk.cell (p := ⟨w.heap.size, 3, none⟩) (by first | (simp; done) | (simp; omega))).trans (by simp [go_sem]), (hk.frozen (p := ⟨w.heap.size, 3, none⟩) (by first | (simp; done) | (simp; omega))).trans (by simp [go_sem]), (hk.cell (p := ⟨w.heap.size, 4, none⟩) (by first | (simp; done) | (simp; omega))).trans (by simp [go_sem]), (hk.frozen (p := ⟨w.heap.size, 4, none⟩) (by first | (simp; done) | (simp; omega))).trans (by simp [go_sem]), (hk.cell (p := ⟨w.heap.size, 5, none⟩) (by first | (simp; done) | (simp; omega))).trans (by simp [go_sem]), (hk.frozen (p := ⟨w.heap.size, 5, none⟩) (by first | (simp; done) | (simp; omega))).trans (by simp [go_sem]), (hk.cell (p := ⟨w.heap.size + 1, 0, none⟩) (by first | (simp; done) | (simp; omega))).trans (by simp [go_sem]), (hk.frozen (p := ⟨w.heap.size + 1, 0, none⟩) (by first | (simp; done) | (simp; omega))).trans (by simp [go_sem]), (hk.cell (p := ⟨w.heap.size + 1, 1, none⟩) (by first | (simp; done) | (simp; omega))).trans (by simp [go_sem]), (hk.frozen (p := ⟨w.heap.size + 1, 1, none⟩) (by first | (simp; done) | (simp; omega))).trans (by simp [go_sem]), (hk.cell (p := ⟨w.heap.size + 1, 2, none⟩) (by first | (simp; done) | (simp; omega))).trans (by simp [go_sem]), (hk.frozen (p := ⟨w.heap.size + 1, 2, none⟩) (by first | (simp; done) | (simp; omega))).trans (by simp [go_sem]), (hk.cell (p := ⟨w.heap.size + 1, 3, none⟩) (by first | (simp; done) | (simp; omega))).trans (by simp [go_sem]), (hk.frozen (p := ⟨w.heap.size + 1, 3, none⟩) (by first | (simp; done) | (simp; omega))).trans (by simp [go_sem]), (hk.cell (p := ⟨w.heap.size + 1, 4, none⟩) (by first | (simp; done) | (simp; omega))).trans (by simp [go_sem]), (hk.frozen (p := ⟨w.heap.size + 1, 4, none⟩) (by first | (simp; done) | (simp; omega))).trans (by simp [go_sem]), (hk.cell (p := ⟨w.heap.size + 1, 5, none⟩) (by first | (simp; done) | (simp; omega))).trans (by simp [go_sem]), (hk.frozen (p := ⟨w.heap.size + 1, 5, none⟩) (by first | (simp; done) | (simp; omega))).trans (by simp [go_sem])⟩)
  have HB := Lib.hid (show Keeps w ((w.alloc (.cells #[.int .i64 wd, .int .i64 jn, .int .i64 cp, .int .i64 ml, .slice Ad nd cd, .int .i64 ph] 27)).alloc (.cells #[.int .i64 0, .int .i64 0, .int .i64 0, .int .i64 0, .slice none 0 0, .int .i64 0] 27)) from (by (repeat (first | (with_reducible exact Keeps.refl _) | (with_reducible assumption) | (with_reducible refine Keeps.drewN ?_ _) | (with_reducible refine Keeps.drew ?_) | (with_reducible refine Keeps.alloc ?_ _) | (with_reducible refine Keeps.setNew ?_ ?_ _))) <;> (dsimp only; omega)))
  have hk0 := Keeps.refl ((w.alloc (.cells #[.int .i64 wd, .int .i64 jn, .int .i64 cp, .int .i64 ml, .slice Ad nd cd, .int .i64 ph] 27)).alloc (.cells #[.int .i64 0, .int .i64 0, .int .i64 0, .int .i64 0, .slice none 0 0, .int .i64 0] 27))
  have HI := Lib.hid (fun w' (hk : Keeps ((w.alloc (.cells #[.int .i64 wd, .int .i64 jn, .int .i64 cp, .int .i64 ml, .slice Ad nd cd, .int .i64 ph] 27)).alloc (.cells #[.int .i64 0, .int .i64 0, .int .i64 0, .int .i64 0, .slice none 0 0, .int .i64 0] 27)) w') => h.keep (HB.out.trans hk))
  have hW0s : (((w.alloc (.cells #[.int .i64 wd, .int .i64 jn, .int .i64 cp, .int .i64 ml, .slice Ad nd cd, .int .i64 ph] 27)).alloc (.cells #[.int .i64 0, .int .i64 0, .int .i64 0, .int .i64 0, .slice none 0 0, .int .i64 0] 27))).heap.size = w.heap.size + 2 := by simp
  have hKW0 : Keeps w ((w.alloc (.cells #[.int .i64 wd, .int .i64 jn, .int .i64 cp, .int .i64 ml, .slice Ad nd cd, .int .i64 ph] 27)).alloc (.cells #[.int .i64 0, .int .i64 0, .int .i64 0, .int .i64 0, .slice none 0 0, .int .i64 0] 27)) := HB.out
  cases Ad with
  | none =>
    obtain rfl : cd = 0 := hz rfl
    obtain rfl : nd = 0 := by have := h.2.1; omega
    clear h hz
    obtain rfl : D = [] := List.length_eq_zero_iff.1 hl
    go_enter Tryz.func8, Tryz.ntmps8
    go_upto_region 1 with fail
    generalize ((w.alloc (.cells #[.int .i64 wd, .int .i64 jn, .int .i64 cp, .int .i64 ml, .slice none 0 0, .int .i64 ph] 27)).alloc (.cells #[.int .i64 0, .int .i64 0, .int .i64 0, .int .i64 0, .slice none 0 0, .int .i64 0] 27)) = W0 at *
    obtain ⟨y0, y1, y2, y3, y4, y5, y6, y7, y8, y9, y10, y11, y12, y13, y14, y15, y16, y17, y18, y19, y20, y21, y22, y23⟩ := HS.out _ (Keeps.refl W0)
    go_upto_region 2 with (at_builtin; refine wpList_append_own_none rfl _ _ 25 rfl W0.heap.size 3 i0 1 Tryz.underlying25 hi _ 0 [] (by rfl) (own_litH W0 #[] 0 1 _ _ _ hW0s (by omega) (by unfold maxLen; omega) (by simp)) rfl ?_)
    refine name_world (fun W2 hW2 => ?_)
    have hI2 := Lib.hid (show Ins W2 (some ⟨w.heap.size + 2, 0, none⟩) 0 0 [] from ⟨rfl, Nat.le_refl _, Nat.zero_le _, (fun p hp => by cases hp), (fun h => absurd h (by omega))⟩)
    have hkW : Keeps w W2 := by rw [hW2]; exact (hKW0.setNew (Nat.le_refl _) _).alloc _
    have hA : Keeps (W0.setCell ⟨w.heap.size, 4, none⟩ (.slice (some ⟨w.heap.size + 2, 0, none⟩) 0 0)) W2 := by rw [hW2]; exact (Keeps.refl _).alloc _
    have hlt := (KeepsWalks.setCell W0 ⟨w.heap.size, 4, none⟩ (.slice (some ⟨w.heap.size + 2, 0, none⟩) 0 0)).size
    have hbx := Lib.hid (show ∀ a : Addr, some (⟨w.heap.size + 2, 0, none⟩ : Addr) = some a → a.block ≠ w.heap.size + 1 from fun a ha => by injection ha with ha; subst ha; dsimp only; omega)
    have z0 : W2.cell? ⟨w.heap.size, 0, none⟩ = some (.int .i64 wd) := (hA.cell (by dsimp only; omega)).trans ((setOff _ _ _ _ _ (by decide)).trans y0)
    have z1 : W2.cell? ⟨w.heap.size, 1, none⟩ = some (.int .i64 jn) := (hA.cell (by dsimp only; omega)).trans ((setOff _ _ _ _ _ (by decide)).trans y2)
    have z2 : W2.cell? ⟨w.heap.size, 2, none⟩ = some (.int .i64 cp) := (hA.cell (by dsimp only; omega)).trans ((setOff _ _ _ _ _ (by decide)).trans y4)
    have z3 : W2.cell? ⟨w.heap.size, 3, none⟩ = some (.int .i64 ml) := (hA.cell (by dsimp only; omega)).trans ((setOff _ _ _ _ _ (by decide)).trans y6)
    have z4 : W2.cell? ⟨w.heap.size, 4, none⟩ = some (.slice (some ⟨w.heap.size + 2, 0, none⟩) 0 0) := (hA.cell (by dsimp only; omega)).trans (by simp [go_sem, y8])
    have z5 : W2.cell? ⟨w.heap.size, 5, none⟩ = some (.int .i64 ph) := (hA.cell (by dsimp only; omega)).trans ((setOff _ _ _ _ _ (by decide)).trans y10)
    have u0 : W2.frozen? ⟨w.heap.size + 1, 0, none⟩ = false := (hA.frozen (by dsimp only; omega)).trans ((World.frozen?_setCell _ _ _ _).trans y13)
    have u1 : W2.frozen? ⟨w.heap.size + 1, 1, none⟩ = false := (hA.frozen (by dsimp only; omega)).trans ((World.frozen?_setCell _ _ _ _).trans y15)
    have u2 : W2.frozen? ⟨w.heap.size + 1, 2, none⟩ = false := (hA.frozen (by dsimp only; omega)).trans ((World.frozen?_setCell _ _ _ _).trans y17)
    have u3 : W2.frozen? ⟨w.heap.size + 1, 3, none⟩ = false := (hA.frozen (by dsimp only; omega)).trans ((World.frozen?_setCell _ _ _ _).trans y19)
    have u4 : W2.frozen? ⟨w.heap.size + 1, 4, none⟩ = false := (hA.frozen (by dsimp only; omega)).trans ((World.frozen?_setCell _ _ _ _).trans y21)
    have u5 : W2.frozen? ⟨w.heap.size + 1, 5, none⟩ = false := (hA.frozen (by dsimp only; omega)).trans ((World.frozen?_setCell _ _ _ _).trans y23)
    have v0 : W2.cell? ⟨w.heap.size + 1, 0, none⟩ = some (.int .i64 0) := (hA.cell (by dsimp only; omega)).trans ((setFar _ _ _ _ _ _ (by omega)).trans y12)
    have v1 : W2.cell? ⟨w.heap.size + 1, 1, none⟩ = some (.int .i64 0) := (hA.cell (by dsimp only; omega)).trans ((setFar _ _ _ _ _ _ (by omega)).trans y14)
    have v2 : W2.cell? ⟨w.heap.size + 1, 2, none⟩ = some (.int .i64 0) := (hA.cell (by dsimp only; omega)).trans ((setFar _ _ _ _ _ _ (by omega)).trans y16)
    have v3 : W2.cell? ⟨w.heap.size + 1, 3, none⟩ = some (.int .i64 0) := (hA.cell (by dsimp only; omega)).trans ((setFar _ _ _ _ _ _ (by omega)).trans y18)
    have v4 : W2.cell? ⟨w.heap.size + 1, 4, none⟩ = some (.slice none 0 0) := (hA.cell (by dsimp only; omega)).trans ((setFar _ _ _ _ _ _ (by omega)).trans y20)
    have v5 : W2.cell? ⟨w.heap.size + 1, 5, none⟩ = some (.int .i64 0) := (hA.cell (by dsimp only; omega)).trans ((setFar _ _ _ _ _ _ (by omega)).trans y22)
    clear hW2 y0 y1 y2 y3 y4 y5 y6 y7 y8 y9 y10 y11 y12 y13 y14 y15 y16 y17 y18 y19 y20 y21 y22 y23
    go_wp2
    exact bodyPost_ret (v := .agg #[.int .i64 wd, .int .i64 jn, .int .i64 cp, .int .i64 ml, .slice (some ⟨w.heap.size + 2, 0, none⟩) 0 0, .int .i64 ph]) (by simp [results, Tryz.results8, go_sem, *]) rfl ⟨_, _, rfl, ((((((hI2.out.put hbx.out _ 0).put hbx.out _ 1).put hbx.out _ 2).put hbx.out _ 3).put hbx.out _ 4).put hbx.out _ 5), hkW.far6 (by omega) _ _ _ _ _ _⟩
  | some ad =>
    have hnews : ∀ w', Keeps ((w.alloc (.cells #[.int .i64 wd, .int .i64 jn, .int .i64 cp, .int .i64 ml, .slice (some ad) nd cd, .int .i64 ph] 27)).alloc (.cells #[.int .i64 0, .int .i64 0, .int .i64 0, .int .i64 0, .slice none 0 0, .int .i64 0] 27)) w' → ∀ j u, (rowI D)[j]? = some u → w'.cell? (ad.add j) = some u := by
      intro w' hk j u hu
      have hj := (List.getElem?_eq_some_iff.1 hu).1
      rw [rowI_len, hl] at hj
      obtain ⟨b, o, e, hb, hx⟩ := (HI.out w' hk).2.2.2.2 (by omega)
      obtain rfl : ad = ⟨b, o, none⟩ := by simpa using e
      rw [rowI_get D j (by omega)] at hu
      rw [Addr.add_lit, hx j hj]; exact hu
    have hNews := Lib.hid hnews
    clear h hnews hz
    go_enter Tryz.func8, Tryz.ntmps8
    go_upto_region 1 with fail
    generalize ((w.alloc (.cells #[.int .i64 wd, .int .i64 jn, .int .i64 cp, .int .i64 ml, .slice (some ad) nd cd, .int .i64 ph] 27)).alloc (.cells #[.int .i64 0, .int .i64 0, .int .i64 0, .int .i64 0, .slice none 0 0, .int .i64 0] 27)) = W0 at *
    obtain ⟨y0, y1, y2, y3, y4, y5, y6, y7, y8, y9, y10, y11, y12, y13, y14, y15, y16, y17, y18, y19, y20, y21, y22, y23⟩ := HS.out _ (((Keeps.refl W0).alloc (.cells #[] 3)))
    go_upto_region 2 with (at_builtin; refine wpList_append_own _ rfl _ _ 25 rfl W0.heap.size 3 i0 (.int .i64 0) 1 8 Tryz.underlying25 hi hz0 hz1 hz2 rfl (by decide) _ 0 [] (by rfl) (own_litH W0 #[] 0 1 _ _ _ hW0s (by omega) (by unfold maxLen; omega) (by simp)) ad nd cd (rowI D) rfl (by rw [rowI_len, hl, Nat.mul_one]) (hNews.out _ ((Keeps.refl _).alloc _)) (oneCell_rowI D) (by unfold maxLen; omega) (by omega) (by simp) ?_; intro v1 w1 hown1 hgrow1 hz9; clear hz9; have hk1 : Keeps W0 w1 := Below.grown (Keeps.alloc (Keeps.refl W0) _) hgrow1 (by simp) (fun k hk => by simp [Act.eval, Value.ownBlock] at hk; omega); clear hgrow1; rw [List.nil_append, Nat.zero_add] at hown1; obtain ⟨A2, c2, rfl, hI1⟩ := Ins.of_own hown1 hok.out; have hbl := Lib.hid (own_blocks hown1); clear hown1; obtain ⟨y0, y1, y2, y3, y4, y5, y6, y7, y8, y9, y10, y11, y12, y13, y14, y15, y16, y17, y18, y19, y20, y21, y22, y23⟩ := HS.out _ hk1)
    refine name_world (fun W2 hW2 => ?_)
    have hI2 := Lib.hid (show Ins W2 A2 nd c2 D by rw [hW2]; exact hI1.put (fun a ha => by have := (hbl.out a ha).1; omega) _ _)
    have hkW : Keeps w W2 := by rw [hW2]; exact (hKW0.trans hk1).setNew (Nat.le_refl _) _
    have hbx := Lib.hid (show ∀ a : Addr, A2 = some a → a.block ≠ w.heap.size + 1 from fun a ha => by have := (hbl.out a ha).1; omega)
    have z0 : W2.cell? ⟨w.heap.size, 0, none⟩ = some (.int .i64 wd) := by rw [hW2]; exact (setOff _ _ _ _ _ (by decide)).trans y0
    have z1 : W2.cell? ⟨w.heap.size, 1, none⟩ = some (.int .i64 jn) := by rw [hW2]; exact (setOff _ _ _ _ _ (by decide)).trans y2
    have z2 : W2.cell? ⟨w.heap.size, 2, none⟩ = some (.int .i64 cp) := by rw [hW2]; exact (setOff _ _ _ _ _ (by decide)).trans y4
    have z3 : W2.cell? ⟨w.heap.size, 3, none⟩ = some (.int .i64 ml) := by rw [hW2]; exact (setOff _ _ _ _ _ (by decide)).trans y6
    have z4 : W2.cell? ⟨w.heap.size, 4, none⟩ = some (.slice A2 nd c2) := by rw [hW2]; simp [go_sem, y8]
    have z5 : W2.cell? ⟨w.heap.size, 5, none⟩ = some (.int .i64 ph) := by rw [hW2]; exact (setOff _ _ _ _ _ (by decide)).trans y10
    have u0 : W2.frozen? ⟨w.heap.size + 1, 0, none⟩ = false := by rw [hW2, World.frozen?_setCell]; exact y13
    have u1 : W2.frozen? ⟨w.heap.size + 1, 1, none⟩ = false := by rw [hW2, World.frozen?_setCell]; exact y15
    have u2 : W2.frozen? ⟨w.heap.size + 1, 2, none⟩ = false := by rw [hW2, World.frozen?_setCell]; exact y17
    have u3 : W2.frozen? ⟨w.heap.size + 1, 3, none⟩ = false := by rw [hW2, World.frozen?_setCell]; exact y19
    have u4 : W2.frozen? ⟨w.heap.size + 1, 4, none⟩ = false := by rw [hW2, World.frozen?_setCell]; exact y21
    have u5 : W2.frozen? ⟨w.heap.size + 1, 5, none⟩ = false := by rw [hW2, World.frozen?_setCell]; exact y23
    have v0 : W2.cell? ⟨w.heap.size + 1, 0, none⟩ = some (.int .i64 0) := by rw [hW2]; exact (setFar _ _ _ _ _ _ (by omega)).trans y12
    have v1 : W2.cell? ⟨w.heap.size + 1, 1, none⟩ = some (.int .i64 0) := by rw [hW2]; exact (setFar _ _ _ _ _ _ (by omega)).trans y14
    have v2 : W2.cell? ⟨w.heap.size + 1, 2, none⟩ = some (.int .i64 0) := by rw [hW2]; exact (setFar _ _ _ _ _ _ (by omega)).trans y16
    have v3 : W2.cell? ⟨w.heap.size + 1, 3, none⟩ = some (.int .i64 0) := by rw [hW2]; exact (setFar _ _ _ _ _ _ (by omega)).trans y18
    have v4 : W2.cell? ⟨w.heap.size + 1, 4, none⟩ = some (.slice none 0 0) := by rw [hW2]; exact (setFar _ _ _ _ _ _ (by omega)).trans y20
    have v5 : W2.cell? ⟨w.heap.size + 1, 5, none⟩ = some (.int .i64 0) := by rw [hW2]; exact (setFar _ _ _ _ _ _ (by omega)).trans y22
    clear hW2 y0 y1 y2 y3 y4 y5 y6 y7 y8 y9 y10 y11 y12 y13 y14 y15 y16 y17 y18 y19 y20 y21 y22 y23
    go_wp2
    exact bodyPost_ret (v := .agg #[.int .i64 wd, .int .i64 jn, .int .i64 cp, .int .i64 ml, .slice A2 nd c2, .int .i64 ph]) (by simp [results, Tryz.results8, go_sem, *]) rfl ⟨_, _, rfl, ((((((hI2.out.put hbx.out _ 0).put hbx.out _ 1).put hbx.out _ 2).put hbx.out _ 3).put hbx.out _ 4).put hbx.out _ 5), hkW.far6 (by omega) _ _ _ _ _ _⟩
/-- what the write loops keep: the row of slices stands; a point's cells hold ints and may be written -/
def WI (B : Nat) (w : World) (A : Option Addr) (n : Nat) (H : Nat → Option Addr × Nat × Nat) : Prop :=
  0 < n → ∃ b o, A = some ⟨b, o, none⟩ ∧ ∀ k, k < n → w.cell? ⟨b, o + k, none⟩ = some (.slice (H k).1 (H k).2.1 (H k).2.2) ∧ (H k).2.1 ≤ 4611686018427387904 ∧
    (0 < (H k).2.1 → ∃ bk ok, (H k).1 = some ⟨bk, ok, none⟩ ∧ B ≤ bk ∧ ∀ j, j < (H k).2.1 * 2 → w.frozen? ⟨bk, ok + j, none⟩ = false ∧ ∃ x, w.cell? ⟨bk, ok + j, none⟩ = some (.int .i64 x))
theorem WI.of {B n c : Nat} {w : World} {A : Option Addr} {LL : List (List Pt)} (h : RwsU B w A n c LL) : ∃ H, WI B w A n H := by
  by_cases h0 : 0 < n
  · obtain ⟨b, o, rfl, _, hb, hc⟩ := h.2.2.2 h0
    obtain ⟨H, hH⟩ := Go.Deep.choose_lt (α := Option Addr × Nat × Nat) (p := fun k x => w.cell? ⟨b, o + k, none⟩ = some (.slice x.1 x.2.1 x.2.2) ∧ x.2.1 ≤ 4611686018427387904 ∧ (0 < x.2.1 → ∃ bk ok, x.1 = some ⟨bk, ok, none⟩ ∧ B ≤ bk ∧ ∀ j, j < x.2.1 * 2 → w.frozen? ⟨bk, ok + j, none⟩ = false ∧ ∃ y, w.cell? ⟨bk, ok + j, none⟩ = some (.int .i64 y))) (fun k hk => by
      obtain ⟨Ak, nk, ck, e, hP, hn, hf⟩ := hc k hk
      refine ⟨(Ak, nk, ck), e, hn, fun hp => ?_⟩
      obtain ⟨bk, ok, e2, _, hx⟩ := hP.2.2.2.2 hp
      have h2 := hf _ e2
      refine ⟨bk, ok, e2, h2.1, fun j hj => ⟨h2.2.2 _, ?_⟩⟩
      dsimp only at hj
      obtain ⟨g0, g1⟩ := hx (j / 2) (by omega)
      rcases (show j = j / 2 * 2 ∨ j = j / 2 * 2 + 1 by omega) with h3 | h3
      · rw [← h3] at g0; exact ⟨_, g0⟩
      · rw [Nat.add_assoc, ← h3] at g1; exact ⟨_, g1⟩)
    exact ⟨H, fun _ => ⟨b, o, rfl, hH⟩⟩
  · exact ⟨fun _ => (none, 0, 0), fun h => absurd h h0⟩
theorem WI.keep {B n : Nat} {w w' : World} {A : Option Addr} {H : Nat → Option Addr × Nat × Nat} (h : WI B w A n H) (hk : Keeps w w') : WI B w' A n H := by
  intro h0
  obtain ⟨b, o, e, hc⟩ := h h0
  refine ⟨b, o, e, fun k hk1 => ?_⟩
  obtain ⟨c1, c2, c3⟩ := hc k hk1
  refine ⟨(hk.cell (World.block_lt_of_cell? w _ c1)).trans c1, c2, fun hp => ?_⟩
  obtain ⟨bk, ok, e2, hB, hx⟩ := c3 hp
  refine ⟨bk, ok, e2, hB, fun j hj => ?_⟩
  obtain ⟨f, x, g⟩ := hx j hj
  have hlt := World.block_lt_of_cell? w _ g
  exact ⟨(hk.frozen (p := ⟨bk, ok + j, none⟩) hlt).trans f, x, (hk.cell hlt).trans g⟩
theorem WI.set {B n : Nat} {w : World} {A : Option Addr} {H : Nat → Option Addr × Nat × Nat} (h : WI B w A n H) {p : Addr} {y : Int} (hp : w.cell? p = some (.int .i64 y)) (x : Int) : WI B (w.setCell p (.int .i64 x)) A n H := by
  intro h0
  obtain ⟨b, o, e, hc⟩ := h h0
  refine ⟨b, o, e, fun k hk1 => ?_⟩
  obtain ⟨c1, c2, c3⟩ := hc k hk1
  refine ⟨(World.cell?_setCell_other _ _ _ _ (fun e2 => by rw [e2, c1] at hp; cases hp)).trans c1, c2, fun hp2 => ?_⟩
  obtain ⟨bk, ok, e2, hB, hx⟩ := c3 hp2
  refine ⟨bk, ok, e2, hB, fun j hj => ?_⟩
  obtain ⟨f, z, g⟩ := hx j hj
  refine ⟨(World.frozen?_setCell _ _ _ _).trans f, ?_⟩
  by_cases hq : p = ⟨bk, ok + j, none⟩
  · subst hq; exact ⟨x, by simp [go_sem, g]⟩
  · exact ⟨z, (World.cell?_setCell_other _ _ _ _ hq).trans g⟩
theorem step_append_noneQ {P : Program} (w : World) {ops : Array Oper} {o : Oper} {a : Act} {K : Act → World → Prop} {Q : Exit → Act → World → Prop} {E : Prop} (hgd : o.guard = none) (s x : Operand) (t : TypeId)
    (ho : o.op = .call { callee := .builtin .append, args := #[s, x], argTypes := #[t, t] })
    (base : Nat) (e : TypeId) (i : TypeInfo) (size : Nat) (ht : P.underlying t = some (.slice e)) (hi : P.info? e = some i)
    (v : Value) (n : Nat) (xs : List Value) (hs : a.eval s = v) (hown : w.ownsRow base e size v n xs) (hx : a.eval x = .slice none 0 0)
    (h : K (a.put o.dst v) w) : if Region.wanted o (yielded ops a.tmps) = true then Oper.wp P o a w K Q else E := by
  have hw : Region.wanted o (yielded ops a.tmps) = true := by simp [Region.wanted, hgd]
  rw [if_pos hw]
  have hrun := run_append_owned_none (P := P) (w := w) base t o.type e i size ht hi v n xs hown
  unfold Oper.wp
  simp [execOp, ho, resolve, invoke, builtin, hs, hx, hrun, Result.andThen]
  exact h
theorem two_new_heap (w : World) (a b : Obj) : ((w.alloc a).alloc b).heap[w.heap.size]? = some a ∧ ((w.alloc a).alloc b).heap[w.heap.size + 1]? = some b := by
  refine ⟨((World.grownBy_alloc (w.alloc a) b none).block w.heap.size (by simp) (by simp)).trans (World.alloc_heap_new _ _), ?_⟩
  rw [show w.heap.size + 1 = (w.alloc a).heap.size by simp]
  exact World.alloc_heap_new _ _
theorem rowP_news {w : World} {A : Option Addr} {n c : Nat} {L : List Pt} (h : Pts w A n c L) : ∀ ad, A = some ad → ∀ w', Keeps w w' → ∀ j u, (rowP L)[j]? = some u → w'.cell? (ad.add j) = some u := by
  intro ad hA w' hk j u hu
  have hj := (List.getElem?_eq_some_iff.1 hu).1
  have hl := h.1
  rw [rowP_length, hl] at hj
  obtain ⟨b, o, e, hb, hx⟩ := h.2.2.2.2 (by omega)
  rw [hA] at e
  obtain rfl : ad = ⟨b, o, none⟩ := by simpa using e
  have hq : j = j / 2 * 2 + j % 2 := by omega
  have hm : j % 2 < 2 := Nat.mod_lt _ (by omega)
  rw [hq, rowP_get L (j / 2) (j % 2) (by omega) hm] at hu
  obtain ⟨q0, q1⟩ := (hx (j / 2) (by omega)).keep hb hk
  rw [Addr.add_lit, hq]
  rcases (show j % 2 = 0 ∨ j % 2 = 1 by omega) with h2 | h2
  · rw [h2] at hu ⊢
    rw [Nat.add_zero]
    simp [ptV] at hu
    rw [← hu]; exact q0
  · rw [h2] at hu ⊢
    simp [ptV] at hu
    rw [← hu, ← Nat.add_assoc]; exact q1
theorem own_empty {w : World} {B g size : Nat} {e : TypeId} (hg : w.heap[g]? = some (.cells #[] e (0, 0))) (hB : B ≤ g) : w.ownsRow B e size (.slice (some ⟨g, 0, none⟩) 0 0) 0 [] := by
  refine ⟨by simp, .inr ⟨g, 0, #[], rfl, hB, hg, Nat.le_refl _, Nat.zero_le _, by simp, by simp⟩⟩
theorem box_set2 {w : World} {bo : Nat} {v u v' u' : Value} {t : TypeId} (h : w.heap[bo]? = some (.cells #[v, u] t (0, 0))) : ((w.setCell ⟨bo, 0, none⟩ v').setCell ⟨bo, 1, none⟩ u').heap[bo]? = some (.cells #[v', u'] t (0, 0)) := by
  have h1 := box_set (v' := v') h
  generalize w.setCell ⟨bo, 0, none⟩ v' = w1 at *
  obtain ⟨hlt, hk⟩ := Array.getElem?_eq_some_iff.1 h1
  show (w1.heap.modify bo _)[bo]? = _
  rw [Array.getElem?_eq_getElem (by rw [Array.size_modify]; exact hlt), Array.getElem_modify_self, hk]
  rfl
theorem DI.fill {W0 w1 : World} {bo : Nat} {cl : Bool} {a b v : Value} {M : List Pt} (hb : w1.heap[bo]? = some (.cells #[a, b] 24 (0, 0))) (hown : w1.ownsRow W0.heap.size 37 2 v M.length (rowP M)) (hk : Keeps W0 w1) (hu : W0.heap.size ≤ bo) :
    DI W0 bo cl v M ((w1.setCell ⟨bo, 0, none⟩ v).setCell ⟨bo, 1, none⟩ (.bool cl)) :=
  ⟨box_set2 hb, ownsRow_setCell_other (ownsRow_setCell_other hown (row_not_box hown hb) _) (row_not_box hown hb) _, (hk.setNew hu _).setNew hu _, hu⟩
theorem DI.fresh {W0 w1 : World} {cl : Bool} {v : Value} {M : List Pt} (hown : w1.ownsRow W0.heap.size 37 2 v M.length (rowP M)) (hk : Keeps W0 w1) :
    DI W0 w1.heap.size cl v M (w1.alloc (.cells #[v, .bool cl] 24)) :=
  ⟨World.alloc_heap_new _ _, hown.alloc _, hk.alloc _, hk.size⟩
theorem DI.none1 {W0 wc : World} {cl : Bool} (hk : Keeps W0 wc) : DI W0 (wc.heap.size + 1) cl (.slice (some ⟨wc.heap.size, 0, none⟩) 0 0) [] (((wc.alloc (.cells #[] 37)).alloc (.cells #[.slice (some ⟨wc.heap.size, 0, none⟩) 0 0, .bool cl] 24)).drew) :=
  ⟨(two_new_heap wc _ _).2, own_empty (two_new_heap wc _ _).1 hk.size, ((hk.alloc _).alloc _).drew, by have := hk.size; omega⟩
theorem DI.none2 {W0 wc : World} {cl : Bool} (hk : Keeps W0 wc) : DI W0 wc.heap.size cl (.slice (some ⟨wc.heap.size + 1, 0, none⟩) 0 0) [] (((wc.alloc (.cells #[.slice (some ⟨wc.heap.size + 1, 0, none⟩) 0 0, .bool cl] 24)).alloc (.cells #[] 37)).drew) :=
  ⟨(two_new_heap wc _ _).1, own_empty (two_new_heap wc _ _).2 (by have := hk.size; omega), ((hk.alloc _).alloc _).drew, hk.size⟩
theorem DI.pts {W0 wr : World} {bo n c : Nat} {cl : Bool} {A : Option Addr} {L : List Pt} (h : DI W0 bo cl (.slice A n c) L wr) (hl : L.length = n) (hok : ∀ p ∈ L, okP p) : Pts wr A n c L := by
  subst hl
  obtain ⟨A9, c9, e, hP⟩ := Pts.of_own h.own rfl hok
  obtain ⟨rfl, rfl⟩ : A = A9 ∧ c = c9 := by simpa using e
  exact hP
end
end

section
section
section
open Go.RowKit
attribute [local go_sem ↓] Go.wp_at_zero Go.wp_at_succ
set_option linter.unusedVariables false
set_option linter.unusedSimpArgs false
theorem RwsB.low {B B2 : Nat} {w : World} {A : Option Addr} {n c : Nat} {LL : List (List Pt)} (h : RwsB B w A n c LL) (hb : B2 ≤ B) : RwsB B2 w A n c LL := by
  obtain ⟨h1, h2, h3, h4⟩ := h
  refine ⟨h1, h2, h3, fun hn => ?_⟩
  obtain ⟨b, o, e, hB, hbs, hx⟩ := h4 hn
  refine ⟨b, o, e, Nat.le_trans hb hB, hbs, fun k hk => ?_⟩
  obtain ⟨Ak, nk, ck, e1, hP, l1, hf⟩ := hx k hk
  exact ⟨Ak, nk, ck, e1, hP, l1, fun a ha => Nat.le_trans hb (hf a ha)⟩
/-- rows under way beside rows that are read -/
structure OutI (w : World) (B B2 : Nat) (v : Value) (LL : List (List Pt)) (wr : World) : Prop where
  rows : GRws wr B v LL
  own : ∀ g, v.ownBlock = some g → g < B2 ∨ w.heap.size ≤ g
  still : ∀ g, B2 ≤ g → g < w.heap.size → wr.heap[g]? = w.heap[g]?
  keep : ∀ w0, Keeps w0 w → w0.heap.size ≤ B → Keeps w0 wr
  size : w.heap.size ≤ wr.heap.size
theorem OutI.snoc {w wr w1 : World} {B B2 g cap n c : Nat} {v : Value} {A : Option Addr} {LL : List (List Pt)} {L : List Pt} {VS : List Value} {t : TypeId} (h : OutI w B B2 v LL wr)
    (hown : wr.ownsRow B 22 1 v LL.length VS) (hall : ∀ k, k < LL.length → ∃ Ak nk ck, VS[k]? = some (.slice Ak nk ck) ∧ Pts wr Ak nk ck (LL.getD k []) ∧ nk ≤ 4611686018427387904 ∧ ∀ a, Ak = some a → B ≤ a.block ∧ a.block < wr.heap.size ∧ some a.block ≠ v.ownBlock)
    (hP : Pts wr A n c L) (hn : n ≤ 4611686018427387904) (hA : ∀ a, A = some a → B ≤ a.block ∧ a.block < wr.heap.size ∧ some a.block ≠ v.ownBlock)
    (h1 : w1.ownsRow B 22 1 (.slice (some ⟨g, 0, none⟩) (LL.length + 1) cap) (LL.length + 1) (VS ++ [.slice A n c])) (hg : (wr.alloc (.cells #[.slice A n c] t)).grownBy w1 v.ownBlock) (hlie : v.ownBlock = some g ∨ g = wr.heap.size + 1) :
    OutI w B B2 (.slice (some ⟨g, 0, none⟩) (LL.length + 1) cap) (LL ++ [L]) w1 := by
  have hr : ∀ k, v.ownBlock = some k → B ≤ k := fun k hk => (hown.lt k hk).1
  have hs1 : wr.heap.size + 1 ≤ w1.heap.size := by have := hg.size; simpa using this
  refine ⟨GRws.snoc hown hall hP hn hA h1 hg hlie, ?_, ?_, ?_, ?_⟩
  · intro x hx
    simp [Value.ownBlock] at hx
    subst hx
    have hsz := h.size
    rcases hlie with e | e
    · exact h.own _ e
    · right; omega
  · intro x h2 h3
    have hne : some x ≠ v.ownBlock := fun e => by rcases h.own x e.symm with h4 | h4 <;> omega
    have hsz := h.size
    have e2 := hg.block x (by simp; omega) hne
    have e3 := (World.grownBy_alloc wr (.cells #[.slice A n c] t) none).block x (by omega) (by simp)
    exact e2.trans (e3.trans (h.still x h2 h3))
  · intro w0 h2 h3
    exact keeps_grown (h.keep w0 h2 h3) hg (fun k hk => Nat.le_trans h3 (hr k hk))
  · have := h.size; omega
def outl (cl : Bool) (L : List Pt) (wd jn cp ml ph : Int) (D : List Int) : List (List Pt) := bodsL cl L wd ++ joinsL cl L wd jn cp ml ph D
theorem outl_len (cl : Bool) (L : List Pt) (wd jn cp ml ph : Int) (D : List Int) : (outl cl L wd jn cp ml ph D).length ≤ 2 * L.length := by
  unfold outl bodsL joinsL
  split
  · simp
  · have h1 := flatTo_len (bodyR L wd) (fun i => wrapL_len _) (segK cl L.length)
    have h2 := flatTo_len (joinK cl L wd jn cp ml ph D) (fun i => joinK_len _ _ _ _ _ _ _ _ i) L.length
    have h4 := segK_le cl L.length
    rw [List.length_append]; omega
theorem joinsL_len (cl : Bool) (L : List Pt) (wd jn cp ml ph : Int) (D : List Int) : (joinsL cl L wd jn cp ml ph D).length ≤ L.length := by
  unfold joinsL
  split
  · simp
  · exact flatTo_len (joinK cl L wd jn cp ml ph D) (fun i => joinK_len _ _ _ _ _ _ _ _ i) L.length
theorem bodsL_len (cl : Bool) (L : List Pt) (wd : Int) : (bodsL cl L wd).length ≤ L.length := by
  unfold bodsL
  split
  · simp
  · have h1 := flatTo_len (bodyR L wd) (fun i => wrapL_len _) (segK cl L.length)
    have h4 := segK_le cl L.length
    omega
theorem rings_zero {cl : Bool} {L : List Pt} {wd jn cp ml ph : Int} {D : List Int} (h : L.length = 0) : ringsL cl L wd jn cp ml ph D = outl cl L wd jn cp ml ph D := by
  unfold ringsL outl bodsL joinsL
  rw [if_pos h, if_pos (by omega), if_pos (by omega)]; rfl
theorem rings_one {cl : Bool} {L : List Pt} {wd jn cp ml ph : Int} {D : List Int} (h : L.length = 1) : ringsL cl L wd jn cp ml ph D = outl cl L wd jn cp ml ph D ++ wrapL (dotR (L.getD 0 pt0) wd cp) := by
  unfold ringsL outl bodsL joinsL
  rw [if_neg (by omega), if_pos h, if_pos (by omega), if_pos (by omega)]; rfl
theorem rings_more {cl : Bool} {L : List Pt} {wd jn cp ml ph : Int} {D : List Int} (h : 1 < L.length) : ringsL cl L wd jn cp ml ph D = outl cl L wd jn cp ml ph D ++ endsR cl L wd cp := by
  unfold ringsL outl bodsL joinsL
  rw [if_neg (by omega), if_neg (by omega), if_neg (by omega), if_neg (by omega)]
set_option maxRecDepth 100000 in
set_option maxHeartbeats 8000000 in
theorem outline_any (cl : Bool) (A : Option Addr) (n c : Nat) (L : List Pt) (wd jn cp ml ph : Int) (Ad : Option Addr) (nd cd : Nat) (D : List Int) (w : World) (h : Pts w A n c L) (hI : Ins w Ad nd cd D) (hn : n ≤ 100000) :
    Calls Tryz.prog 21 #[.agg #[.slice A n c, .bool cl], .agg #[.int .i64 wd, .int .i64 jn, .int .i64 cp, .int .i64 ml, .slice Ad nd cd, .int .i64 ph]] w fun e w' => ∃ v, e = .returned v ∧ GRws w' w.heap.size v (ringsL cl L wd jn cp ml ph D) ∧ Keeps w w' := by
  have hl := h.1
  have hni : (n : Int) ≤ 100000 := by omega
  obtain ⟨j0, ji, jz0, jz1, jz2⟩ := info_parts rows_info
  have HJ0 := Lib.hid (And.intro ji (And.intro jz0 (And.intro jz1 jz2)))
  clear ji jz0 jz1 jz2
  have HS := Lib.hid (show ∀ w', Keeps ((w.alloc (.cells #[.slice A n c, .bool cl] 24)).alloc (.cells #[.int .i64 wd, .int .i64 jn, .int .i64 cp, .int .i64 ml, .slice Ad nd cd, .int .i64 ph] 27)) w' → w'.cell? ⟨w.heap.size, 0, none⟩ = some (.slice A n c) ∧ w'.frozen? ⟨w.heap.size, 0, none⟩ = false ∧ w'.cell? ⟨w.heap.size, 1, none⟩ = some (.bool cl) ∧ w'.frozen? ⟨w.heap.size, 1, none⟩ = false ∧ w'.cell? ⟨w.heap.size + 1, 0, none⟩ = some (.int .i64 wd) ∧ w'.frozen? ⟨w.heap.size + 1, 0, none⟩ = false ∧ w'.cell? ⟨w.heap.size + 1, 1, none⟩ = some (.int .i64 jn) ∧ w'.frozen? ⟨w.heap.size + 1, 1, none⟩ = false ∧ w'.cell? ⟨w.heap.size + 1, 2, none⟩ = some (.int .i64 cp) ∧ w'.frozen? ⟨w.heap.size + 1, 2, none⟩ = false ∧ w'.cell? ⟨w.heap.size + 1, 3, none⟩ = some (.int .i64 ml) ∧ w'.frozen? ⟨w.heap.size + 1, 3, none⟩ = false ∧ w'.cell? ⟨w.heap.size + 1, 4, none⟩ = some (.slice Ad nd cd) ∧ w'.frozen? ⟨w.heap.size + 1, 4, none⟩ = false ∧ w'.cell? ⟨w.heap.size + 1, 5, none⟩ = some (.int .i64 ph) ∧ w'.frozen? ⟨w.heap.size + 1, 5, none⟩ = false from fun w' hk => ⟨(hk.cell (p := ⟨w.heap.size, 0, none⟩) (by first | (simp; done) | (simp; omega))).trans (by simp [go_sem]), (hk.frozen (p := ⟨w.heap.size, 0, none⟩) (by first | (simp; done) | (simp; omega))).trans (by simp [go_sem]), (hk.cell (p := ⟨w.heap.size, 1, none⟩) (by first | (simp; done) | (simp; omega))).trans (by simp [go_sem]), (hk.frozen (p := ⟨w.heap.size, 1, none⟩) (by first | (simp; done) | (simp; omega))).trans (by simp [go_sem]), (hk.cell (p := ⟨w.heap.size + 1, 0, none⟩) (by first | (simp; done) | (simp; omega))).trans (by simp [go_sem]), (hk.frozen (p := ⟨w.heap.size + 1, 0, none⟩) (by first | (simp; done) | (simp; omega))).trans (by simp [go_sem]), (hk.cell (p := ⟨w.heap.size + 1, 1, none⟩) (by first | (simp; done) | (simp; omega))).trans (by simp [go_sem]), (hk.frozen (p := ⟨w.heap.size + 1, 1, none⟩) (by first | (simp; done) | (simp; omega))).trans (by simp [go_sem]), (hk.cell (p := ⟨w.heap.size + 1, 2, none⟩) (by first | (simp; done) | (simp; omega))).trans (by simp [go_sem]), (hk.frozen (p := ⟨w.heap.size + 1, 2, none⟩) (by first | (simp; done) | (simp; omega))).trans (by simp [go_sem]), (hk.cell (p := ⟨w.heap.size + 1, 3, none⟩) (by first | (simp; done) | (simp; omega))).trans (by simp [go_sem]), (hk.frozen (p := ⟨w.heap.size + 1, 3, none⟩) (by first | (simp; done) | (simp; omega))).trans (by simp [go_sem]), (hk.cell (p := ⟨w.heap.size + 1, 4, none⟩) (by first | (simp; done) | (simp; omega))).trans (by simp [go_sem]), (hk.frozen (p := ⟨w.heap.size + 1, 4, none⟩) (by first | (simp; done) | (simp; omega))).trans (by simp [go_sem]), (hk.cell (p := ⟨w.heap.size + 1, 5, none⟩) (by first | (simp; done) | (simp; omega))).trans (by simp [go_sem]), (hk.frozen (p := ⟨w.heap.size + 1, 5, none⟩) (by first | (simp; done) | (simp; omega))).trans (by simp [go_sem])⟩)
  have HB := Lib.hid (show Keeps w ((w.alloc (.cells #[.slice A n c, .bool cl] 24)).alloc (.cells #[.int .i64 wd, .int .i64 jn, .int .i64 cp, .int .i64 ml, .slice Ad nd cd, .int .i64 ph] 27)) from (by (repeat (first | (with_reducible exact Keeps.refl _) | (with_reducible assumption) | (with_reducible refine Keeps.drewN ?_ _) | (with_reducible refine Keeps.drew ?_) | (with_reducible refine Keeps.alloc ?_ _) | (with_reducible refine Keeps.setNew ?_ ?_ _))) <;> (dsimp only; omega)))
  have hk0 := Keeps.refl ((w.alloc (.cells #[.slice A n c, .bool cl] 24)).alloc (.cells #[.int .i64 wd, .int .i64 jn, .int .i64 cp, .int .i64 ml, .slice Ad nd cd, .int .i64 ph] 27))
  have hk := hk0
  have HP := Lib.hid (fun w' (hk : Keeps w w') => h.keep hk)
  have HI := Lib.hid (fun w' (hk : Keeps w w') => hI.keep hk)
  have KBd := Lib.hid (fun w' (hk : Keeps w w') => bods_any cl A n c L wd jn cp ml ph Ad nd cd w' (h.keep hk) hn)
  have KJn := Lib.hid (fun w' (hk : Keeps w w') => joins_any cl A n c L wd jn cp ml ph Ad nd cd D w' (h.keep hk) (hI.keep hk) hn)
  have hbl := bodsL_len cl L wd
  have hjl := joinsL_len cl L wd jn cp ml ph D
  have hO := Lib.hid (show outl cl L wd jn cp ml ph D = bodsL cl L wd ++ joinsL cl L wd jn cp ml ph D from rfl)
  have hz0 := Lib.hid (fun h => rings_zero (cl := cl) (L := L) (wd := wd) (jn := jn) (cp := cp) (ml := ml) (ph := ph) (D := D) h)
  have hz1 := Lib.hid (fun h => rings_one (cl := cl) (L := L) (wd := wd) (jn := jn) (cp := cp) (ml := ml) (ph := ph) (D := D) h)
  have hz2 := Lib.hid (fun h => rings_more (cl := cl) (L := L) (wd := wd) (jn := jn) (cp := cp) (ml := ml) (ph := ph) (D := D) h)
  obtain ⟨RL, hRL⟩ : ∃ RL, Hid (RL = ringsL cl L wd jn cp ml ph D) := ⟨_, Lib.hid rfl⟩
  rw [← hRL.out]
  clear h hI
  generalize bodsL cl L wd = BL at *
  generalize joinsL cl L wd jn cp ml ph D = JL at *
  go_enter Tryz.func21, Tryz.ntmps21
  go_wp2_with (first | (go_at_call 41; (with_reducible refine (KBd.out _ (HB.out.trans hk)).mono ?_); rintro e w1 ⟨v1, rfl, hB1, hk1⟩; have hB1 := Lib.hid (hB1.base hk.size); replace hk := hk.trans hk1; obtain ⟨y0, y1, y2, y3, y4, y5, y6, y7, y8, y9, y10, y11, y12, y13, y14, y15⟩ := HS.out _ hk; clear hk1) | (go_at_call 42; (with_reducible refine (KJn.out _ (HB.out.trans hk)).mono ?_); rintro e w2 ⟨v2, rfl, hJ2, hk2⟩; have hB2 := Lib.hid (hB1.out.keep hk2); have hk12 := hk2.size; have hk1s := hk.size; replace hk := hk.trans hk2; clear hk2) | fail "ARM")
  generalize ((w.alloc (.cells #[.slice A n c, .bool cl] 24)).alloc (.cells #[.int .i64 wd, .int .i64 jn, .int .i64 cp, .int .i64 ml, .slice Ad nd cd, .int .i64 ph] 27)) = W0 at *
  obtain ⟨A1, c1, rfl⟩ := hB1.out.row
  obtain ⟨A2, c2, e2, hR2⟩ := hJ2.rws
  subst e2
  have hstart := Lib.hid (show OutI w2 W0.heap.size w1.heap.size (.slice A1 BL.length c1) BL w2 from ⟨hB2.out, fun g hg => .inl ((hB1.out.lt g hg).2), fun _ _ _ => rfl, fun _ h _ => h, Nat.le_refl _⟩)
  have hjli : (JL.length : Int) ≤ 100000 := by omega
  have hR2 := Lib.hid hR2
  have hJ2 := Lib.hid hJ2
  clear hB1 hB2
  have hkw2 := Lib.hid hk
  clear hk hk0 y0 y1 y2 y3 y4 y5 y6 y7 y8 y9 y10 y11 y12 y13 y14 y15
  go_loopw [5, 7] (fun q i wr => ∃ (j : Nat) (Aq : Option Addr) (cq : Nat), j ≤ JL.length ∧ i = .int .i64 j ∧ q = .slice Aq (BL ++ JL.take j).length cq ∧ Hid (OutI w2 W0.heap.size w1.heap.size (.slice Aq (BL ++ JL.take j).length cq) (BL ++ JL.take j) wr)) (fun _ i _ => JL.length - (intOf i).toNat)
  case atStart => exact ⟨0, A1, c1, by omega, rfl, by rw [List.take_zero, List.append_nil], by rw [List.take_zero, List.append_nil]; exact hstart⟩
  case round =>
    clear hstart
    obtain ⟨j, Aq, cq, hj, rfl, rfl, hF⟩ := hrel
    have hF0 := hF.out
    have hkw := hF0.keep W0 hkw2.out (Nat.le_refl _)
    have hLTl : (BL ++ JL.take j).length ≤ 200000 := by rw [List.length_append, List.length_take]; omega
    by_cases hlt : j < JL.length
    · have hlt2 : (j : Int) < JL.length := by omega
      obtain ⟨b, o, rfl, hb1, hb2, hC⟩ := hR2.out.2.2.2 (by omega)
      obtain ⟨Ak, nk, ck, e0, hPk, hnk, hfk⟩ := hC j hlt
      have hsz := hF0.size
      have hcell : ∀ p : Addr, w1.heap.size ≤ p.block → p.block < w2.heap.size → wr.cell? p = w2.cell? p := fun p h1 h2 => by unfold World.cell?; rw [hF0.still _ h1 h2]
      have c0 := (hcell ⟨b, o + j, none⟩ hb1 hb2).trans e0
      have hT := Lib.hid (show BL ++ JL.take (j + 1) = (BL ++ JL.take j) ++ [JL.getD j []] by rw [takeLL_succ JL j hlt, List.append_assoc])
      have hPr := hPk.step hsz hcell hfk
      have hni : (nk : Int) ≤ 4611686018427387904 := by omega
      obtain ⟨VS, hv1, hv2⟩ := hF0.rows
      have hbk : ∀ a, Ak = some a → a.block < w2.heap.size := by
        obtain ⟨VS2, q1, q2⟩ := hJ2.out
        intro a ha
        obtain ⟨Ak', nk', ck', f1, f2, f3, f4⟩ := q2 j hlt
        have hcc := SlA.of_own q1
        obtain ⟨A9, c9, e9, _, _, _, h9⟩ := hcc
        obtain ⟨rfl, rfl⟩ : some ⟨b, o, none⟩ = A9 ∧ c2 = c9 := by simpa using e9
        obtain ⟨b', o', eb, _, hx⟩ := h9 (by omega)
        obtain ⟨rfl, rfl⟩ : b = b' ∧ o = o' := by simpa using eb
        have := (hx j (by omega)).trans f1
        rw [e0] at this
        obtain ⟨rfl, rfl, rfl⟩ : Ak = Ak' ∧ nk = nk' ∧ ck = ck' := by simpa using this
        exact (f4 a ha).2.1
      have hA := Lib.hid (show ∀ a, Ak = some a → W0.heap.size ≤ a.block ∧ a.block < wr.heap.size ∧ some a.block ≠ (Value.slice Aq (BL ++ JL.take j).length cq).ownBlock from fun a ha => ⟨by have := hfk a ha; omega, by have := hbk a ha; omega, fun e => by
        have h1 := hfk a ha
        have h2 := hbk a ha
        rcases hF0.own _ e.symm with h3 | h3 <;> omega⟩)
      have hv1 := Lib.hid hv1
      have hv2 := Lib.hid hv2
      have hPr := Lib.hid hPr
      have hBs : W0.heap.size ≤ wr.heap.size + 1 := by have := hkw.size; omega
      generalize JL.getD j [] = X at *
      generalize BL ++ JL.take j = LT at *
      clear hC hPk e0 hcell hfk hbk hF0
      obtain ⟨y0, y1, y2, y3, y4, y5, y6, y7, y8, y9, y10, y11, y12, y13, y14, y15⟩ := HS.out _ hkw
      obtain ⟨ji, jz0, jz1, jz2⟩ := HJ0.out
      go_wp2_with (at_builtin; refine wpList_append_lies _ rfl _ _ 30 rfl W0.heap.size 22 j0 (.slice none 0 0) 1 24 Tryz.underlying30 ji jz0 jz1 jz2 rfl (by decide) _ _ VS rfl (hv1.out.alloc _) ⟨wr.heap.size, 0, none⟩ 1 1 [.slice Ak nk ck] rfl rfl (one_new _ _ _) (by intro u hu; simp at hu; subst hu; rfl) (by omega) (by unfold maxLen; omega) (by omega) (by simp; omega) (wr.heap.size + 1) (by simp) ?_; intro g cap w9 hown1 hgrow hlie hglt; have hSN := Lib.hid (OutI.snoc hF.out hv1.out hv2.out hPr.out hnk hA.out hown1 hgrow hlie); clear hgrow hown1 hlie hglt)
      go_roundw
      case rel => exact ⟨j + 1, _, _, by omega, by go_num, by rw [hT.out, List.length_append]; rfl, Lib.hid (by rw [hT.out, List.length_append]; exact hSN.out)⟩
      case measure => simp [intOf]; omega
    · obtain rfl : j = JL.length := by omega
      have hlt2 : ¬ (JL.length : Int) < JL.length := by omega
      rw [List.take_of_length_le (Nat.le_refl _), ← hO.out] at hF hLTl ⊢
      have hF := Lib.hid hF.out.rows
      clear hR2 hJ2 hF0
      generalize outl cl L wd jn cp ml ph D = LT at *
      rcases (show n = 0 ∨ n = 1 ∨ 1 < n by omega) with hn0 | hn1 | hn2
      · have q1 : ((n : Int) == 1) = false := by rw [beq_eq_false_iff_ne]; omega
        have q2 : ¬ (1 : Int) < n := by omega
        obtain ⟨y0, y1, y2, y3, y4, y5, y6, y7, y8, y9, y10, y11, y12, y13, y14, y15⟩ := HS.out _ hkw
        go_wp2_with fail
        go_ret
        rw [hRL.out, hz0.out (by omega)]
        exact ⟨_, rfl, hF.out.base HB.out.size, HB.out.trans hkw⟩
      · subst hn1
        have hokx := Lib.hid (dotR_ok (L.getD 0 pt0) wd cp)
        have hlx := dotR_len (L.getD 0 pt0) wd cp
        obtain ⟨b, o, rfl, hbw, hC0⟩ := (HP.out _ (Keeps.refl _)).2.2.2.2 (by omega)
        have gp := fun w' (hk : Keeps w w') => (hC0 0 (by omega)).keep hbw hk
        simp only [Nat.zero_mul, Nat.add_zero] at gp
        clear hC0 hbw
        have KD := Lib.hid (fun w => rdot24_any (L.getD 0 pt0) wd jn cp ml ph Ad nd cd w)
        generalize L.getD 0 pt0 = p at *
        generalize dotR p wd cp = X at *
        obtain ⟨y0, y1, y2, y3, y4, y5, y6, y7, y8, y9, y10, y11, y12, y13, y14, y15⟩ := HS.out _ hkw
        go_wp2_with fail
        clear y0 y1 y2 y3 y4 y5 y6 y7 y8 y9 y10 y11 y12 y13 y14 y15
        have z0 : ∀ k : KW wr, k.w.cell? ⟨w.heap.size, 0, none⟩ = some (.slice (some ⟨b, o, none⟩) 1 c) := fun k => (HS.out _ (hkw.trans k.keeps)).1
        have z2 : ∀ k : KW wr, k.w.cell? ⟨w.heap.size + 1, 0, none⟩ = some (.int .i64 wd) := fun k => (HS.out _ (hkw.trans k.keeps)).2.2.2.2.1
        have z3 : ∀ k : KW wr, k.w.cell? ⟨w.heap.size + 1, 1, none⟩ = some (.int .i64 jn) := fun k => (HS.out _ (hkw.trans k.keeps)).2.2.2.2.2.2.1
        have z4 : ∀ k : KW wr, k.w.cell? ⟨w.heap.size + 1, 2, none⟩ = some (.int .i64 cp) := fun k => (HS.out _ (hkw.trans k.keeps)).2.2.2.2.2.2.2.2.1
        have z5 : ∀ k : KW wr, k.w.cell? ⟨w.heap.size + 1, 3, none⟩ = some (.int .i64 ml) := fun k => (HS.out _ (hkw.trans k.keeps)).2.2.2.2.2.2.2.2.2.2.1
        have z6 : ∀ k : KW wr, k.w.cell? ⟨w.heap.size + 1, 4, none⟩ = some (.slice Ad nd cd) := fun k => (HS.out _ (hkw.trans k.keeps)).2.2.2.2.2.2.2.2.2.2.2.2.1
        have z7 : ∀ k : KW wr, k.w.cell? ⟨w.heap.size + 1, 5, none⟩ = some (.int .i64 ph) := fun k => (HS.out _ (hkw.trans k.keeps)).2.2.2.2.2.2.2.2.2.2.2.2.2.2.1
        have z20 : ∀ k : KW wr, k.w.cell? ⟨b, o, none⟩ = some (.int .i64 p.1) := fun k => (gp _ (HB.out.trans (hkw.trans k.keeps))).1
        have z21 : ∀ k : KW wr, k.w.cell? ⟨b, o + 1, none⟩ = some (.int .i64 p.2) := fun k => (gp _ (HB.out.trans (hkw.trans k.keeps))).2
        refine wp_region_kept_tail1 (v := ?_) 6 (wr) (by kernel_rfl) (by kernel_rfl) (Keeps.refl _) (Or.inl ⟨by rfl, ?_⟩) (fun _ _ _ h => h) ?_; rotate_left; · (intro w; go_simp; try with_reducible rfl)
        simp only [Act.put, List.setIfInBounds_toArray, List.set_cons_zero, List.set_cons_succ, List.take_succ_cons, List.take_zero, List.drop_succ_cons, List.drop_zero, Nat.reduceSub]
        repeat (first | go_big_quiet_skip | (go_big_quiet_want; go_big_quiet_op; first | go_big_quiet_on | go_big_quiet_call (fail)))
        refine wpQuiet_nil ?_
        rintro w' ⟨k9, rfl⟩
        have hk := k9.keeps
        generalize k9.w = w9 at hk ⊢
        clear k9
        clear z0 z2 z3 z4 z5 z6 z7 z20 z21 gp
        go_wp2_with (first | (go_at_call 44; (with_reducible refine (KD.out _).mono ?_); rintro e w10 ⟨v, rfl, ho, hk10⟩; obtain ⟨Ax, cx, rfl, hPx⟩ := Pts.of_own ho rfl hokx.out; have hfx := Lib.hid (show ∀ a, Ax = some a → W0.heap.size ≤ a.block ∧ some a.block ≠ Value.ownBlock (.slice Aq LT.length cq) from fun a ha => ⟨Nat.le_trans (Nat.le_trans hkw.size hk.size) (own_blocks ho a ha).1, fun e => by have h1 := (own_blocks ho a ha).1; have h2 := hk.size; have h3 := (hF.out.lt _ e.symm).2; omega⟩); have hPx := Lib.hid hPx; have hkk := Lib.hid (hk.trans hk10); clear ho) | (go_at_call 43; (with_reducible refine (rapp_any W0.heap.size _ _ Ax _ cx _ _ (hF.out.keep hkk.out) (Nat.le_trans hkw.size hkk.out.size) hPx.out (by omega) hfx.out (by omega)).mono ?_); rintro e w12 ⟨v12, rfl, hB12, hk12⟩; have hkw12 := hk12 W0 (hkw.trans hkk.out) (Nat.le_refl _); have hB12 := Lib.hid hB12; obtain ⟨A12, c12, rfl⟩ := hB12.out.row; obtain ⟨y0, y1, y2, y3, y4, y5, y6, y7, y8, y9, y10, y11, y12, y13, y14, y15⟩ := HS.out _ hkw12))
        go_ret
        rw [hRL.out, hz1.out (by omega)]
        refine ⟨_, rfl, ?_, HB.out.trans hkw12⟩
        have hz := hB12.out.base HB.out.size
        first | exact hz | (rw [List.length_append] at hz; exact hz)
      · have q1 : ((n : Int) == 1) = false := by rw [beq_eq_false_iff_ne]; omega
        have q2 : (1 : Int) < n := by omega
        cases cl with
        | true =>
          obtain ⟨y0, y1, y2, y3, y4, y5, y6, y7, y8, y9, y10, y11, y12, y13, y14, y15⟩ := HS.out _ hkw
          go_wp2_with fail
          go_ret
          rw [hRL.out, hz2.out (by omega), show endsR true L wd cp = [] from rfl, List.append_nil]
          exact ⟨_, rfl, hF.out.base HB.out.size, HB.out.trans hkw⟩
        | false =>
          obtain ⟨b, o, rfl, hbw, hC0⟩ := (HP.out _ (Keeps.refl _)).2.2.2.2 (by omega)
          have hPt := Lib.hid (fun q (hq : q < n) w' (hk : Keeps w w') => (hC0 q hq).keep hbw hk)
          clear hC0 hbw
          obtain ⟨m1, hm1⟩ : ∃ m1 : Nat, n = m1 + 1 := ⟨n - 1, by omega⟩
          obtain ⟨m2, hm2⟩ : ∃ m2 : Nat, n = m2 + 2 := ⟨n - 2, by omega⟩
          have e1 : (n : Int) - 1 = m1 := by omega
          have e2 : (n : Int) - 2 = m2 := by omega
          have ew1 : IntKind.i64.wrap (m1 : Int) = m1 := IntWalk.i64_in _ (by omega)
          have ew2 : IntKind.i64.wrap (m2 : Int) = m2 := IntWalk.i64_in _ (by omega)
          have el1 : (m1 : Int) < n := by omega
          have el2 : (m2 : Int) < n := by omega
          have el0 : (0 : Int) < n := by omega
          have el0n : 0 < n := by omega
          have el1n : 1 < n := by omega
          have hE := Lib.hid (show endsR false L wd cp = wrapL (endL (L.getD 1 pt0) (L.getD 0 pt0) wd cp) ++ wrapL (endL (L.getD m2 pt0) (L.getD m1 pt0) wd cp) by unfold endsR; rw [if_neg (by decide), hl, show n - 2 = m2 by omega, show n - 1 = m1 by omega])
          have hfin := Lib.hid (show RL = (LT ++ wrapL (endL (L.getD 1 pt0) (L.getD 0 pt0) wd cp)) ++ wrapL (endL (L.getD m2 pt0) (L.getD m1 pt0) wd cp) by rw [hRL.out, hz2.out (by omega), hE.out, ← List.append_assoc])
          have g1 := hPt.out 1 (by omega)
          have g0 := hPt.out 0 (by omega)
          have gx := hPt.out m1 (by omega)
          have gy := hPt.out m2 (by omega)
          simp only [Nat.zero_mul, Nat.add_zero] at g0
          simp only [Nat.one_mul] at g1
          clear hm1 hm2 hE
          have KC1 := Lib.hid (fun w => rlcap_any (L.getD 1 pt0) (L.getD 0 pt0) wd jn cp ml ph Ad nd cd w)
          have KC2 := Lib.hid (fun w => rlcap_any (L.getD m2 pt0) (L.getD m1 pt0) wd jn cp ml ph Ad nd cd w)
          have ok1 := Lib.hid (endL_ok (L.getD 1 pt0) (L.getD 0 pt0) wd cp)
          have ok2 := Lib.hid (endL_ok (L.getD m2 pt0) (L.getD m1 pt0) wd cp)
          have ln1 := endL_len (L.getD 1 pt0) (L.getD 0 pt0) wd cp
          have ln2 := endL_len (L.getD m2 pt0) (L.getD m1 pt0) wd cp
          generalize L.getD 1 pt0 = p1 at *
          generalize L.getD 0 pt0 = p0 at *
          generalize L.getD m1 pt0 = px at *
          generalize L.getD m2 pt0 = py at *
          generalize endL p1 p0 wd cp = X at *
          generalize endL py px wd cp = X2 at *
          obtain ⟨y0, y1, y2, y3, y4, y5, y6, y7, y8, y9, y10, y11, y12, y13, y14, y15⟩ := HS.out _ hkw
          go_wp2_with fail
          clear y0 y1 y2 y3 y4 y5 y6 y7 y8 y9 y10 y11 y12 y13 y14 y15
          have z0 : ∀ k : KW wr, k.w.cell? ⟨w.heap.size, 0, none⟩ = some (.slice (some ⟨b, o, none⟩) n c) := fun k => (HS.out _ (hkw.trans k.keeps)).1
          have z2 : ∀ k : KW wr, k.w.cell? ⟨w.heap.size + 1, 0, none⟩ = some (.int .i64 wd) := fun k => (HS.out _ (hkw.trans k.keeps)).2.2.2.2.1
          have z3 : ∀ k : KW wr, k.w.cell? ⟨w.heap.size + 1, 1, none⟩ = some (.int .i64 jn) := fun k => (HS.out _ (hkw.trans k.keeps)).2.2.2.2.2.2.1
          have z4 : ∀ k : KW wr, k.w.cell? ⟨w.heap.size + 1, 2, none⟩ = some (.int .i64 cp) := fun k => (HS.out _ (hkw.trans k.keeps)).2.2.2.2.2.2.2.2.1
          have z5 : ∀ k : KW wr, k.w.cell? ⟨w.heap.size + 1, 3, none⟩ = some (.int .i64 ml) := fun k => (HS.out _ (hkw.trans k.keeps)).2.2.2.2.2.2.2.2.2.2.1
          have z6 : ∀ k : KW wr, k.w.cell? ⟨w.heap.size + 1, 4, none⟩ = some (.slice Ad nd cd) := fun k => (HS.out _ (hkw.trans k.keeps)).2.2.2.2.2.2.2.2.2.2.2.2.1
          have z7 : ∀ k : KW wr, k.w.cell? ⟨w.heap.size + 1, 5, none⟩ = some (.int .i64 ph) := fun k => (HS.out _ (hkw.trans k.keeps)).2.2.2.2.2.2.2.2.2.2.2.2.2.2.1
          have z20 : ∀ k : KW wr, k.w.cell? ⟨b, o, none⟩ = some (.int .i64 p0.1) := fun k => (g0 _ (HB.out.trans (hkw.trans k.keeps))).1
          have z21 : ∀ k : KW wr, k.w.cell? ⟨b, o + 1, none⟩ = some (.int .i64 p0.2) := fun k => (g0 _ (HB.out.trans (hkw.trans k.keeps))).2
          have z22 : ∀ k : KW wr, k.w.cell? ⟨b, o + 2, none⟩ = some (.int .i64 p1.1) := fun k => (g1 _ (HB.out.trans (hkw.trans k.keeps))).1
          have z23 : ∀ k : KW wr, k.w.cell? ⟨b, o + 2 + 1, none⟩ = some (.int .i64 p1.2) := fun k => (g1 _ (HB.out.trans (hkw.trans k.keeps))).2
          refine wp_region_kept_tail1 (v := ?_) 10 (wr) (by kernel_rfl) (by kernel_rfl) (Keeps.refl _) (Or.inl ⟨by rfl, ?_⟩) (fun _ _ _ h => h) ?_; rotate_left; · (intro w; go_simp; try with_reducible rfl)
          simp only [Act.put, List.setIfInBounds_toArray, List.set_cons_zero, List.set_cons_succ, List.take_succ_cons, List.take_zero, List.drop_succ_cons, List.drop_zero, Nat.reduceSub]
          repeat (first | go_big_quiet_skip | (go_big_quiet_want; go_big_quiet_op; first | go_big_quiet_on | go_big_quiet_call (fail)))
          refine wpQuiet_nil ?_
          rintro w' ⟨k9, rfl⟩
          have hk := k9.keeps
          generalize k9.w = w9 at hk ⊢
          clear k9
          clear z0 z2 z3 z4 z5 z6 z7 z20 z21 z22 z23
          go_upto_region 12 with (first | (go_at_call 45; (with_reducible refine (KC1.out _).mono ?_); rintro e w10 ⟨v, rfl, ho, hk10⟩; obtain ⟨Ax, cx, rfl, hPx⟩ := Pts.of_own ho rfl ok1.out; have hfx := Lib.hid (show ∀ a, Ax = some a → W0.heap.size ≤ a.block ∧ some a.block ≠ Value.ownBlock (.slice Aq LT.length cq) from fun a ha => ⟨Nat.le_trans (Nat.le_trans hkw.size hk.size) (own_blocks ho a ha).1, fun e => by have h1 := (own_blocks ho a ha).1; have h2 := hk.size; have h3 := (hF.out.lt _ e.symm).2; omega⟩); have hPx := Lib.hid hPx; have hkk := Lib.hid (hk.trans hk10); clear ho) | (go_at_call 43; (with_reducible refine (rapp_any W0.heap.size _ _ Ax _ cx _ _ (hF.out.keep hkk.out) (Nat.le_trans hkw.size hkk.out.size) hPx.out (by omega) hfx.out (by omega)).mono ?_); rintro e w12 ⟨v12, rfl, hB12, hk12⟩; have hkw12 := hk12 W0 (hkw.trans hkk.out) (Nat.le_refl _); have hB12 := Lib.hid hB12; obtain ⟨A12, c12, rfl⟩ := hB12.out.row) | fail "ARM")
          have hkk0 := Keeps.refl w12
          have hXl : (LT ++ wrapL X).length ≤ 200001 := by rw [List.length_append]; have := wrapL_len X; omega
          have hB12 := Lib.hid (show GRws w12 W0.heap.size (.slice A12 (LT.length + (wrapL X).length) c12) (LT ++ wrapL X) by have h := hB12.out; rw [List.length_append] at h; exact h)
          generalize LT.length + (wrapL X).length = mm at *
          generalize LT ++ wrapL X = LT2 at *
          clear hkk hk hfx hPx hF
          have z0 : ∀ k : KW w12, k.w.cell? ⟨w.heap.size, 0, none⟩ = some (.slice (some ⟨b, o, none⟩) n c) := fun k => (HS.out _ (hkw12.trans k.keeps)).1
          have z2 : ∀ k : KW w12, k.w.cell? ⟨w.heap.size + 1, 0, none⟩ = some (.int .i64 wd) := fun k => (HS.out _ (hkw12.trans k.keeps)).2.2.2.2.1
          have z3 : ∀ k : KW w12, k.w.cell? ⟨w.heap.size + 1, 1, none⟩ = some (.int .i64 jn) := fun k => (HS.out _ (hkw12.trans k.keeps)).2.2.2.2.2.2.1
          have z4 : ∀ k : KW w12, k.w.cell? ⟨w.heap.size + 1, 2, none⟩ = some (.int .i64 cp) := fun k => (HS.out _ (hkw12.trans k.keeps)).2.2.2.2.2.2.2.2.1
          have z5 : ∀ k : KW w12, k.w.cell? ⟨w.heap.size + 1, 3, none⟩ = some (.int .i64 ml) := fun k => (HS.out _ (hkw12.trans k.keeps)).2.2.2.2.2.2.2.2.2.2.1
          have z6 : ∀ k : KW w12, k.w.cell? ⟨w.heap.size + 1, 4, none⟩ = some (.slice Ad nd cd) := fun k => (HS.out _ (hkw12.trans k.keeps)).2.2.2.2.2.2.2.2.2.2.2.2.1
          have z7 : ∀ k : KW w12, k.w.cell? ⟨w.heap.size + 1, 5, none⟩ = some (.int .i64 ph) := fun k => (HS.out _ (hkw12.trans k.keeps)).2.2.2.2.2.2.2.2.2.2.2.2.2.2.1
          have z20 : ∀ k : KW w12, k.w.cell? ⟨b, o + m1 * 2, none⟩ = some (.int .i64 px.1) := fun k => (gx _ (HB.out.trans (hkw12.trans k.keeps))).1
          have z21 : ∀ k : KW w12, k.w.cell? ⟨b, o + m1 * 2 + 1, none⟩ = some (.int .i64 px.2) := fun k => (gx _ (HB.out.trans (hkw12.trans k.keeps))).2
          have z22 : ∀ k : KW w12, k.w.cell? ⟨b, o + m2 * 2, none⟩ = some (.int .i64 py.1) := fun k => (gy _ (HB.out.trans (hkw12.trans k.keeps))).1
          have z23 : ∀ k : KW w12, k.w.cell? ⟨b, o + m2 * 2 + 1, none⟩ = some (.int .i64 py.2) := fun k => (gy _ (HB.out.trans (hkw12.trans k.keeps))).2
          refine wp_region_kept_tail1 (v := ?_) 14 (w12) (by kernel_rfl) (by kernel_rfl) (Keeps.refl _) (Or.inl ⟨by rfl, ?_⟩) (fun _ _ _ h => h) ?_; rotate_left; · (intro w; go_simp; try with_reducible rfl)
          simp only [Act.put, List.setIfInBounds_toArray, List.set_cons_zero, List.set_cons_succ, List.take_succ_cons, List.take_zero, List.drop_succ_cons, List.drop_zero, Nat.reduceSub]
          repeat (first | go_big_quiet_skip | (go_big_quiet_want; go_big_quiet_op; first | go_big_quiet_on | go_big_quiet_call (fail)))
          refine wpQuiet_nil ?_
          rintro w' ⟨k9, rfl⟩
          have hk := k9.keeps
          generalize k9.w = w9 at hk ⊢
          clear k9
          clear z0 z2 z3 z4 z5 z6 z7 z20 z21 z22 z23
          go_wp2_with (first | (go_at_call 45; (with_reducible refine (KC2.out _).mono ?_); rintro e w20 ⟨v, rfl, ho, hk20⟩; obtain ⟨Ay, cy, rfl, hPy⟩ := Pts.of_own ho rfl ok2.out; have hfy := Lib.hid (show ∀ a, Ay = some a → W0.heap.size ≤ a.block ∧ some a.block ≠ Value.ownBlock (.slice A12 mm c12) from fun a ha => ⟨Nat.le_trans (Nat.le_trans hkw12.size hk.size) (own_blocks ho a ha).1, fun e => by have h1 := (own_blocks ho a ha).1; have h2 := hk.size; have h3 := (hB12.out.lt _ e.symm).2; omega⟩); have hPy := Lib.hid hPy; have hkl := Lib.hid (hk.trans hk20); clear ho) | (go_at_call 43; (with_reducible refine (rapp_any W0.heap.size _ _ Ay _ cy _ _ (hB12.out.keep hkl.out) (Nat.le_trans hkw12.size hkl.out.size) hPy.out (by omega) hfy.out (by omega)).mono ?_); rintro e w22 ⟨v22, rfl, hB22, hk22⟩; have hkw1222 := hk22 W0 (hkw12.trans hkl.out) (Nat.le_refl _); have hB22 := Lib.hid hB22; obtain ⟨A22, c22, rfl⟩ := hB22.out.row) | fail "ARM")
          go_ret
          rw [hfin.out]
          refine ⟨_, rfl, ?_, HB.out.trans hkw1222⟩
          have hz := hB22.out.base HB.out.size
          first | exact hz | (rw [List.length_append] at hz; exact hz)
end
end

section
section
open Go.RowKit
attribute [local go_sem ↓] Go.wp_at_zero Go.wp_at_succ
set_option linter.unusedVariables false
set_option linter.unusedSimpArgs false
set_option maxRecDepth 100000 in
set_option maxHeartbeats 1000000 in
theorem rallv_any (A : Option Addr) (n c : Nat) (L : List Pt) (w : World) (h : Pts w A n c L) :
    Calls Tryz.prog 20 #[.slice A n c] w fun e w' => e = .returned (.bool (L.all vP)) ∧ Keeps w w' := by
  have hl := h.1
  have hmx : (n : Int) ≤ 9223372036854775807 := by have h1 := h.2.1; have h2 := h.2.2.1; unfold maxLen at h2; omega
  have HS := Lib.hid h
  obtain ⟨bx, hb⟩ : ∃ bx, Hid (bx = L.all vP) := ⟨_, Lib.hid rfl⟩
  rw [← hb.out]
  clear h
  go_enter Tryz.func20, Tryz.ntmps20
  go_wp2_with fail
  go_loopw [3] (fun i wr => ∃ (j : Nat), j ≤ n ∧ i = .int .i64 j ∧ Keeps w wr ∧ Hid (L.all vP = (L.drop j).all vP)) (fun i _ => n - (intOf i).toNat)
  case atStart => exact ⟨0, by omega, rfl, Keeps.refl _, Lib.hid rfl⟩
  case round =>
    obtain ⟨j, hj, rfl, hkw, hR⟩ := hrel
    by_cases hlt : j < n
    · obtain ⟨b, o, rfl, hb0, hc⟩ := HS.out.2.2.2.2 (by omega)
      obtain ⟨c0, c1⟩ := (hc j hlt).keep hb0 hkw
      have hD := Lib.hid (drop_getDQ L j pt0 (by omega))
      have K := Lib.hid (fun w => rvalid_any (L.getD j pt0).1 (L.getD j pt0).2 w)
      generalize L.getD j pt0 = s at *
      have hlt2 : (j : Int) < n := by omega
      clear hc
      rw [show validB s.1 s.2 = vP s from rfl] at K
      cases hv : vP s with
      | false =>
        rw [hv] at K
        have hf := Lib.hid (show false = bx by rw [hb.out, hR.out, hD.out, List.all_cons, hv]; rfl)
        clear hv
        go_wp2_with (go_at_call 40; (with_reducible refine (K.out _).mono ?_); rintro e w1 ⟨rfl, hk⟩)
        go_ret
        exact ⟨ret_bool hf.out, hkw.trans hk⟩
      | true =>
        rw [hv] at K
        have hR2 := Lib.hid (show L.all vP = (L.drop (j + 1)).all vP by rw [hR.out, hD.out, List.all_cons, hv]; rfl)
        clear hv
        go_wp2_with (go_at_call 40; (with_reducible refine (K.out _).mono ?_); rintro e w1 ⟨rfl, hk⟩)
        go_roundw
        case rel => exact ⟨j + 1, by omega, by go_num, hkw.trans hk, hR2⟩
        case measure => simp [intOf]; omega
    · obtain rfl : j = n := by omega
      have hlt2 : ¬ (j : Int) < j := by omega
      have hf := Lib.hid (show true = bx by rw [hb.out, hR.out, List.drop_of_length_le (by omega)]; rfl)
      go_wp2_with fail
      go_ret
      exact ⟨ret_bool hf.out, hkw⟩
def RetQ (w0 : World) (LL : List (List Pt)) (er : Int) (e : Ending) (w' : World) : Prop := ∃ A c, e = .returned (.tuple #[.slice A LL.length c, .int .i64 er]) ∧ RwsB w0.heap.size w' A LL.length c LL ∧ Keeps w0 w'
set_option maxRecDepth 100000 in
set_option maxHeartbeats 8000000 in
theorem rpoly_any (cl : Bool) (A : Option Addr) (n c : Nat) (L : List Pt) (wd jn cp ml ph : Int) (Ad : Option Addr) (nd cd : Nat) (D : List Int) (w : World) (h : Pts w A n c L) (hI : Ins w Ad nd cd D) (hn : n ≤ 100000) :
    Calls Tryz.prog 9 #[.agg #[.slice A n c, .bool cl], .agg #[.int .i64 wd, .int .i64 jn, .int .i64 cp, .int .i64 ml, .slice Ad nd cd, .int .i64 ph]] w (RetQ w (polyL cl L wd jn cp ml ph D) (polyE cl L wd jn cp ml ph D)) := by
  have hl := h.1
  have hni : (n : Int) ≤ 100000 := by omega
  have HS := Lib.hid (show ∀ w', Keeps ((w.alloc (.cells #[.slice A n c, .bool cl] 24)).alloc (.cells #[.int .i64 wd, .int .i64 jn, .int .i64 cp, .int .i64 ml, .slice Ad nd cd, .int .i64 ph] 27)) w' → w'.cell? ⟨w.heap.size, 0, none⟩ = some (.slice A n c) ∧ w'.frozen? ⟨w.heap.size, 0, none⟩ = false ∧ w'.cell? ⟨w.heap.size, 1, none⟩ = some (.bool cl) ∧ w'.frozen? ⟨w.heap.size, 1, none⟩ = false ∧ w'.cell? ⟨w.heap.size + 1, 0, none⟩ = some (.int .i64 wd) ∧ w'.frozen? ⟨w.heap.size + 1, 0, none⟩ = false ∧ w'.cell? ⟨w.heap.size + 1, 1, none⟩ = some (.int .i64 jn) ∧ w'.frozen? ⟨w.heap.size + 1, 1, none⟩ = false ∧ w'.cell? ⟨w.heap.size + 1, 2, none⟩ = some (.int .i64 cp) ∧ w'.frozen? ⟨w.heap.size + 1, 2, none⟩ = false ∧ w'.cell? ⟨w.heap.size + 1, 3, none⟩ = some (.int .i64 ml) ∧ w'.frozen? ⟨w.heap.size + 1, 3, none⟩ = false ∧ w'.cell? ⟨w.heap.size + 1, 4, none⟩ = some (.slice Ad nd cd) ∧ w'.frozen? ⟨w.heap.size + 1, 4, none⟩ = false ∧ w'.cell? ⟨w.heap.size + 1, 5, none⟩ = some (.int .i64 ph) ∧ w'.frozen? ⟨w.heap.size + 1, 5, none⟩ = false from fun w' hk => ⟨(hk.cell (p := ⟨w.heap.size, 0, none⟩) (by first | (simp; done) | (simp; omega))).trans (by simp [go_sem]), (hk.frozen (p := ⟨w.heap.size, 0, none⟩) (by first | (simp; done) | (simp; omega))).trans (by simp [go_sem]), (hk.cell (p := ⟨w.heap.size, 1, none⟩) (by first | (simp; done) | (simp; omega))).trans (by simp [go_sem]), (hk.frozen (p := ⟨w.heap.size, 1, none⟩) (by first | (simp; done) | (simp; omega))).trans (by simp [go_sem]), (hk.cell (p := ⟨w.heap.size + 1, 0, none⟩) (by first | (simp; done) | (simp; omega))).trans (by simp [go_sem]), (hk.frozen (p := ⟨w.heap.size + 1, 0, none⟩) (by first | (simp; done) | (simp; omega))).trans (by simp [go_sem]), (hk.cell (p := ⟨w.heap.size + 1, 1, none⟩) (by first | (simp; done) | (simp; omega))).trans (by simp [go_sem]), (hk.frozen (p := ⟨w.heap.size + 1, 1, none⟩) (by first | (simp; done) | (simp; omega))).trans (by simp [go_sem]), (hk.cell (p := ⟨w.heap.size + 1, 2, none⟩) (by first | (simp; done) | (simp; omega))).trans (by simp [go_sem]), (hk.frozen (p := ⟨w.heap.size + 1, 2, none⟩) (by first | (simp; done) | (simp; omega))).trans (by simp [go_sem]), (hk.cell (p := ⟨w.heap.size + 1, 3, none⟩) (by first | (simp; done) | (simp; omega))).trans (by simp [go_sem]), (hk.frozen (p := ⟨w.heap.size + 1, 3, none⟩) (by first | (simp; done) | (simp; omega))).trans (by simp [go_sem]), (hk.cell (p := ⟨w.heap.size + 1, 4, none⟩) (by first | (simp; done) | (simp; omega))).trans (by simp [go_sem]), (hk.frozen (p := ⟨w.heap.size + 1, 4, none⟩) (by first | (simp; done) | (simp; omega))).trans (by simp [go_sem]), (hk.cell (p := ⟨w.heap.size + 1, 5, none⟩) (by first | (simp; done) | (simp; omega))).trans (by simp [go_sem]), (hk.frozen (p := ⟨w.heap.size + 1, 5, none⟩) (by first | (simp; done) | (simp; omega))).trans (by simp [go_sem])⟩)
  have HB := Lib.hid (show Keeps w ((w.alloc (.cells #[.slice A n c, .bool cl] 24)).alloc (.cells #[.int .i64 wd, .int .i64 jn, .int .i64 cp, .int .i64 ml, .slice Ad nd cd, .int .i64 ph] 27)) from (by (repeat (first | (with_reducible exact Keeps.refl _) | (with_reducible assumption) | (with_reducible refine Keeps.drewN ?_ _) | (with_reducible refine Keeps.drew ?_) | (with_reducible refine Keeps.alloc ?_ _) | (with_reducible refine Keeps.setNew ?_ ?_ _))) <;> (dsimp only; omega)))
  have hk0 := Keeps.refl ((w.alloc (.cells #[.slice A n c, .bool cl] 24)).alloc (.cells #[.int .i64 wd, .int .i64 jn, .int .i64 cp, .int .i64 ml, .slice Ad nd cd, .int .i64 ph] 27))
  have hk := hk0
  have KS := Lib.hid (fun w' (hk : Keeps w w') => rstyle_any wd jn cp ml ph Ad nd cd D w' (hI.keep hk))
  have KV := Lib.hid (fun w' (hk : Keeps w w') => rallv_any A n c L w' (h.keep hk))
  obtain ⟨er, RR, hE, hR⟩ : ∃ (er : Int) (RR : List (List Pt)), Hid (er = polyE cl L wd jn cp ml ph D) ∧ Hid (RR = polyL cl L wd jn cp ml ph D) := ⟨_, _, Lib.hid rfl, Lib.hid rfl⟩
  rw [← hE.out, ← hR.out]
  have hno := Lib.hid (show ∀ x, er = x → x ≠ 0 → RR = [] from fun x h1 h2 => by rw [hR.out]; unfold polyL; rw [if_neg (by rw [← hE.out, h1]; exact h2)])
  have hyes := Lib.hid (show er = 0 → RR = ringsL cl (dedC cl L) wd jn cp ml ph D from fun h1 => by rw [hR.out]; unfold polyL; rw [if_pos (by rw [← hE.out, h1])])
  have hE' := hE.out
  unfold polyE at hE'
  cases hst : stB wd jn cp ml ph D with
  | false =>
    rw [hst, if_pos rfl] at hE'
    have hf := Lib.hid (And.intro hE' (hno.out _ hE' (by decide)))
    rw [hst] at KS
    clear hst hE' h hI
    go_enter Tryz.func9, Tryz.ntmps9
    go_wp2_with (first | (go_at_call 19; (with_reducible refine (keepk (KS.out _ (HB.out.trans hk)) hk).mono ?_); rintro e w1 ⟨rfl, hk⟩; obtain ⟨y0, y1, y2, y3, y4, y5, y6, y7, y8, y9, y10, y11, y12, y13, y14, y15⟩ := HS.out _ hk) | (go_at_call 20; (with_reducible refine (keepk (KV.out _ (HB.out.trans hk)) hk).mono ?_); rintro e w2 ⟨rfl, hk⟩; obtain ⟨y0, y1, y2, y3, y4, y5, y6, y7, y8, y9, y10, y11, y12, y13, y14, y15⟩ := HS.out _ hk) | fail "ARM")
    go_ret2
    obtain ⟨f1, f2⟩ := hf.out
    rw [f1, f2]
    exact ⟨none, 0, rfl, RwsB.nil _ _, HB.out.trans hk⟩
  | true =>
    rw [hst, if_neg (by decide)] at hE'
    rw [hst] at KS
    clear hst
    cases hv : L.all vP with
    | false =>
      rw [hv, if_pos rfl] at hE'
      have hf := Lib.hid (And.intro hE' (hno.out _ hE' (by decide)))
      rw [hv] at KV
      clear hv hE' h hI
      go_enter Tryz.func9, Tryz.ntmps9
      go_wp2_with (first | (go_at_call 19; (with_reducible refine (keepk (KS.out _ (HB.out.trans hk)) hk).mono ?_); rintro e w1 ⟨rfl, hk⟩; obtain ⟨y0, y1, y2, y3, y4, y5, y6, y7, y8, y9, y10, y11, y12, y13, y14, y15⟩ := HS.out _ hk) | (go_at_call 20; (with_reducible refine (keepk (KV.out _ (HB.out.trans hk)) hk).mono ?_); rintro e w2 ⟨rfl, hk⟩; obtain ⟨y0, y1, y2, y3, y4, y5, y6, y7, y8, y9, y10, y11, y12, y13, y14, y15⟩ := HS.out _ hk) | fail "ARM")
      go_ret2
      obtain ⟨f1, f2⟩ := hf.out
      rw [f1, f2]
      exact ⟨none, 0, rfl, RwsB.nil _ _, HB.out.trans hk⟩
    | true =>
      rw [hv, if_neg (by decide), hl] at hE'
      rw [hv] at KV
      clear hv
      by_cases hbig : 4096 < n
      · rw [if_pos hbig] at hE'
        have hf := Lib.hid (And.intro hE' (hno.out _ hE' (by decide)))
        have hbi : (4096 : Int) < n := by omega
        clear hE' h hI
        go_enter Tryz.func9, Tryz.ntmps9
        go_wp2_with (first | (go_at_call 19; (with_reducible refine (keepk (KS.out _ (HB.out.trans hk)) hk).mono ?_); rintro e w1 ⟨rfl, hk⟩; obtain ⟨y0, y1, y2, y3, y4, y5, y6, y7, y8, y9, y10, y11, y12, y13, y14, y15⟩ := HS.out _ hk) | (go_at_call 20; (with_reducible refine (keepk (KV.out _ (HB.out.trans hk)) hk).mono ?_); rintro e w2 ⟨rfl, hk⟩; obtain ⟨y0, y1, y2, y3, y4, y5, y6, y7, y8, y9, y10, y11, y12, y13, y14, y15⟩ := HS.out _ hk) | fail "ARM")
        go_ret2
        obtain ⟨f1, f2⟩ := hf.out
        rw [f1, f2]
        exact ⟨none, 0, rfl, RwsB.nil _ _, HB.out.trans hk⟩
      · rw [if_neg hbig] at hE'
        have hbi : ¬ (4096 : Int) < n := by omega
        have hML := dedC_len cl L
        have KD := Lib.hid (fun w' (hk : Keeps w w') => rdedup_any cl A n c L w' (h.keep hk) (by omega))
        have hRl := ringsL_len cl (dedC cl L) wd jn cp ml ph D
        have hRs := Lib.hid (ringsL_short cl (dedC cl L) wd jn cp ml ph D)
        have KR := Lib.hid (fun A2 c2 w' (hk : Keeps w w') (hP : Pts w' A2 (dedC cl L).length c2 (dedC cl L)) => outline_any cl A2 (dedC cl L).length c2 (dedC cl L) wd jn cp ml ph Ad nd cd D w' hP (hI.keep hk) (by omega))
        have HT := Lib.hid (show ∀ w', Keeps ((w.alloc (.cells #[.slice A n c, .bool cl] 24)).alloc (.cells #[.int .i64 wd, .int .i64 jn, .int .i64 cp, .int .i64 ml, .slice Ad nd cd, .int .i64 ph] 27)) w' → (w'.cell? ⟨w.heap.size, 0, none⟩ = some (.slice A n c) ∧ w'.cell? ⟨w.heap.size, 1, none⟩ = some (.bool cl) ∧ w'.cell? ⟨w.heap.size + 1, 0, none⟩ = some (.int .i64 wd) ∧ w'.cell? ⟨w.heap.size + 1, 1, none⟩ = some (.int .i64 jn) ∧ w'.cell? ⟨w.heap.size + 1, 2, none⟩ = some (.int .i64 cp) ∧ w'.cell? ⟨w.heap.size + 1, 3, none⟩ = some (.int .i64 ml) ∧ w'.cell? ⟨w.heap.size + 1, 4, none⟩ = some (.slice Ad nd cd) ∧ w'.cell? ⟨w.heap.size + 1, 5, none⟩ = some (.int .i64 ph)) from fun w' hk => by
          obtain ⟨y0, y1, y2, y3, y4, y5, y6, y7, y8, y9, y10, y11, y12, y13, y14, y15⟩ := HS.out _ hk
          exact ⟨y0, y2, y4, y6, y8, y10, y12, y14⟩)
        generalize dedC cl L = M at *
        generalize ringsL cl M wd jn cp ml ph D = R at *
        have hE9 := Lib.hid hE'
        have hRi : (R.length : Int) ≤ 1000000 := by omega
        have KQ := Lib.hid (fun A c w' (hX : Rws w' A R.length c R) => count_any A R.length c R w' hX (by omega) (fun r hr => by have := hRs.out r hr; omega))
        clear h hI hE'
        go_enter Tryz.func9, Tryz.ntmps9
        go_wp2_with (first | (go_at_call 19; (with_reducible refine (keepk (KS.out _ (HB.out.trans hk)) hk).mono ?_); rintro e w1 ⟨rfl, hk⟩; obtain ⟨y0, y1, y2, y3, y4, y5, y6, y7, y8, y9, y10, y11, y12, y13, y14, y15⟩ := HS.out _ hk) | (go_at_call 20; (with_reducible refine (keepk (KV.out _ (HB.out.trans hk)) hk).mono ?_); rintro e w2 ⟨rfl, hk⟩; obtain ⟨y0, y1, y2, y3, y4, y5, y6, y7, y8, y9, y10, y11, y12, y13, y14, y15⟩ := HS.out _ hk) | fail "ARM")
        generalize ((w.alloc (.cells #[.slice A n c, .bool cl] 24)).alloc (.cells #[.int .i64 wd, .int .i64 jn, .int .i64 cp, .int .i64 ml, .slice Ad nd cd, .int .i64 ph] 27)) = W0 at *
        clear y0 y1 y2 y3 y4 y5 y6 y7 y8 y9 y10 y11 y12 y13 y14 y15
        go_region_held3 (fun w' => (w'.cell? ⟨w.heap.size, 0, none⟩ = some (.slice A n c) ∧ w'.cell? ⟨w.heap.size, 1, none⟩ = some (.bool cl) ∧ w'.cell? ⟨w.heap.size + 1, 0, none⟩ = some (.int .i64 wd) ∧ w'.cell? ⟨w.heap.size + 1, 1, none⟩ = some (.int .i64 jn) ∧ w'.cell? ⟨w.heap.size + 1, 2, none⟩ = some (.int .i64 cp) ∧ w'.cell? ⟨w.heap.size + 1, 3, none⟩ = some (.int .i64 ml) ∧ w'.cell? ⟨w.heap.size + 1, 4, none⟩ = some (.slice Ad nd cd) ∧ w'.cell? ⟨w.heap.size + 1, 5, none⟩ = some (.int .i64 ph))) (first | exact HT.out _ (by first | assumption | exact Keeps.drew (by assumption) | exact Keeps.drewN (by assumption) _) | go_keep) (first | (go_at_call 22; (with_reducible refine (KD.out _ (HB.out.trans (by first | assumption | exact Keeps.drew (by assumption) | exact Keeps.drewN (by assumption) _))).mono ?_); rintro e w3 ⟨A3, c3, rfl, hP3, hk3⟩; have hP3 := Lib.hid hP3; replace hk : Keeps W0 w3 := Keeps.trans (by first | assumption | exact Keeps.drew (by assumption) | exact Keeps.drewN (by assumption) _) hk3; clear hk3) | (go_at_call 21; (with_reducible refine (KR.out _ _ _ (HB.out.trans (by first | assumption | exact Keeps.drew (by assumption) | exact Keeps.drewN (by assumption) _)) (hP3.out.keep (by first | exact Keeps.refl _ | exact (Keeps.refl _).drew | exact (Keeps.refl _).drewN _))).mono ?_); rintro e w4 ⟨v4, rfl, hG4, hk4⟩; obtain ⟨A4, c4, e4, hR4⟩ := hG4.rws; subst e4; have hR4 := Lib.hid (hR4.low (Keeps.size (w0 := w) (HB.out.trans (by first | assumption | exact Keeps.drew (by assumption) | exact Keeps.drewN (by assumption) _)))); replace hk : Keeps W0 w4 := Keeps.trans (by first | assumption | exact Keeps.drew (by assumption) | exact Keeps.drewN (by assumption) _) hk4; clear hk4 hG4) | fail "ARM")
        go_wp2_with fail
        go_loopw [7] (fun i wr => ∃ (j : Nat), j ≤ R.length ∧ i = .int .i64 j ∧ Keeps w4 wr ∧ Hid (allV (R.take j) = true)) (fun i _ => R.length - (intOf i).toNat)
        case atStart => exact ⟨0, by omega, rfl, Keeps.refl _, Lib.hid rfl⟩
        case round =>
          obtain ⟨j, hj, rfl, hkr, hA⟩ := hrel
          by_cases hlt : j < R.length
          · obtain ⟨b, o, rfl, hb1, hb2, hC⟩ := hR4.out.2.2.2 (by omega)
            obtain ⟨Ak, nk, ck, e0, hPk, hnk, hfk⟩ := hC j hlt
            have c0 := (hkr.cell hb2).trans e0
            have hlt2 : (j : Int) < R.length := by omega
            have KA := Lib.hid (rallv_any Ak nk ck (R.getD j []) _ (hPk.keep hkr))
            have hT := Lib.hid (allV_take R j hlt)
            have hFl := Lib.hid (allV_part R j hlt)
            clear hC e0 hPk
            generalize R.getD j [] = X at *
            cases hx : X.all vP with
            | false =>
              have hfa := hFl.out hx
              have hE8 := hE9.out
              rw [hfa, if_pos rfl] at hE8
              have hf := Lib.hid (And.intro hE8 (hno.out _ hE8 (by decide)))
              rw [hx] at KA
              clear hx hfa hE8
              go_wp2_with (go_at_call 20; (with_reducible refine (keepk KA.out hkr).mono ?_); rintro e w6 ⟨rfl, hkr⟩)
              have hk := hk.trans hkr
              go_ret2
              obtain ⟨f1, f2⟩ := hf.out
              rw [f1, f2]
              exact ⟨none, 0, rfl, RwsB.nil _ _, HB.out.trans hk⟩
            | true =>
              have hA2 := Lib.hid (show allV (R.take (j + 1)) = true by rw [hT.out, hA.out, hx]; rfl)
              rw [hx] at KA
              clear hx
              go_wp2_with (go_at_call 20; (with_reducible refine (keepk KA.out hkr).mono ?_); rintro e w6 ⟨rfl, hkr⟩)
              go_roundw
              case rel => exact ⟨j + 1, by omega, by go_num, hkr, hA2⟩
              case measure => simp [intOf]; omega
          · obtain rfl : j = R.length := by omega
            have hlt2 : ¬ (R.length : Int) < R.length := by omega
            have hav := hA.out
            rw [List.take_of_length_le (Nat.le_refl _)] at hav
            have hE8 := hE9.out
            rw [hav, if_neg (by decide)] at hE8
            clear hav hA
            have hk := hk.trans hkr
            have hR5 := Lib.hid (hR4.out.keep hkr)
            by_cases hc : 4096 < cnt R
            · rw [if_pos hc] at hE8
              have hf := Lib.hid (And.intro hE8 (hno.out _ hE8 (by decide)))
              have hci : (4096 : Int) < cnt R := by omega
              clear hE8 hc
              go_wp2_with (go_at_call 23; (with_reducible refine (keepk2 (KQ.out _ _ _ hR5.out.rws) hk).mono ?_); rintro e w5 ⟨rfl, hk5, hk⟩)
              go_ret2
              obtain ⟨f1, f2⟩ := hf.out
              rw [f1, f2]
              exact ⟨none, 0, rfl, RwsB.nil _ _, HB.out.trans hk⟩
            · rw [if_neg hc] at hE8
              have hf := Lib.hid (And.intro hE8 (hyes.out hE8))
              have hci : ¬ (4096 : Int) < cnt R := by omega
              clear hE8 hc
              go_wp2_with (go_at_call 23; (with_reducible refine (keepk2 (KQ.out _ _ _ hR5.out.rws) hk).mono ?_); rintro e w5 ⟨rfl, hk5, hk⟩; have hk5 := Lib.hid hk5)
              go_ret2
              obtain ⟨f1, f2⟩ := hf.out
              rw [f1, f2]
              exact ⟨_, _, rfl, hR5.out.keep hk5.out, HB.out.trans hk⟩
end
end
end
end Go.Proofs.YtdodgnpjlicnoaaGreat
