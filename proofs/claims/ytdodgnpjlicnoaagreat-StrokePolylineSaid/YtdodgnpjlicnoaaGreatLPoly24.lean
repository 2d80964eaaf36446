/- StrokePolyline of grisaillelaw24 returns true for all its arguments; no condition. -/
import Derived.SizedLaws
import Derived.Test.YtdodgnpjlicnoaaGreatOp
import Derived.Test.YtdodgnpjlicnoaaGreatZg
namespace Go.Proofs.YtdodgnpjlicnoaaGreat.strokePolyline
open Go.RowKit Go.ChangeShapes Go.WideShapes Go.ChangeAt
set_option linter.unusedVariables false
open Go.Proofs.YtdodgnpjlicnoaaGreat
set_option linter.unusedSimpArgs false
section
open Go.RowKit Go.ChangeShapes Go.WideShapes Go.Deep
variable {P : Program} {w : World} {H : Type} {enc : TypeId × Value → H} {spare : Nat → Bool} {held : Bool}
theorem field_at2 {t t' : TypeId} {off sz : Nat} {fs : Array Field} {cs : List Value} {fuel : Nat} {d : DataW H} {p : List MemPlace} (hu : P.underlying t = some (.struct fs)) (hf : DataW.trod enc P w 0 spare held fuel t cs = some (d, p))
    (i : Nat) (hfd : fs[i]?.map (fun f => (f.type, f.offset)) = some (t', off)) (hs : P.cellsOf t' = sz) : ∃ fuel' d' p', DataW.trod enc P w 0 spare held fuel' t' ((cs.drop off).take sz) = some (d', p') ∧ ∀ x ∈ d'.weights P t', x ∈ d.weights P t := by
  obtain ⟨xs, m, _, hx, hlen, hxl, hg⟩ := DataW.trod_struct hu hf
  cases h : fs[i]? with
  | none => rw [h] at hfd; cases hfd
  | some fd =>
    rw [h] at hfd
    simp at hfd
    obtain ⟨rfl, rfl⟩ := hfd
    subst hs
    have h2 := hg i fd h
    obtain ⟨hil, hfe⟩ := Array.getElem?_eq_some_iff.1 h
    have hxi : xs[i]? = some xs[i] := List.getElem?_eq_getElem (by omega)
    rw [hxi] at h2
    refine ⟨m, _, _, h2, fun x hx2 => ?_⟩
    simp only [Prod.mk.injEq] at hx
    rw [hx.1]
    show x ∈ DataW.weights P t (.agg _)
    unfold DataW.weights
    rw [hu]
    exact DataW.weights_mem_each (j := i) (by simp [h]) (by simp [hxi]) x hx2
theorem slice_size {t e : TypeId} {A : Option Addr} {n c fuel : Nat} {d : DataW H} {p : List MemPlace} (ht : P.underlying t = some (.slice e)) (hf : DataW.trod enc P w 0 spare held fuel t [.slice A n c] = some (d, p)) :
    (A = none → c = 0) ∧ ((∀ x ∈ d.weights P t, x ≤ reachBytes) → n * P.bytesOf e ≤ reachBytes) := by
  rcases open_slice ht hf with ⟨hcs, _⟩ | ⟨a, n', c', m, q, D, Pl, hcs, _, hl, hm, hmm, hx, _⟩
  · simp only [List.cons.injEq, Value.slice.injEq, and_true] at hcs
    obtain ⟨rfl, rfl, rfl⟩ := hcs
    exact ⟨fun _ => rfl, fun _ => by rw [Nat.zero_mul]; exact Nat.zero_le _⟩
  · simp only [List.cons.injEq, Value.slice.injEq, and_true] at hcs
    obtain ⟨rfl, rfl, rfl⟩ := hcs
    simp only [Prod.mk.injEq] at hx
    refine ⟨fun h => (by cases h), fun hw => ?_⟩
    have h2 := hw ((((List.range n).map D).length + ((List.range (m - n)).map fun j => D (n + j)).length) * P.bytesOf e) (by rw [hx.1]; simp [DataW.weights, ht])
    rw [List.length_map, List.length_range] at h2
    exact Nat.le_trans (Nat.mul_le_mul_right _ (Nat.le_add_right _ _)) h2
set_option maxRecDepth 100000 in
theorem poly_size {A : Option Addr} {n c : Nat} {cl : Bool} {d : DataW H} {p : List MemPlace} (h : DataW.Trod enc Tryz.prog w 0 spare held 24 (.agg #[.slice A n c, .bool cl]) d p) : A = none → c = 0 := by
  obtain ⟨fuel, hf⟩ := h
  simp only [Value.cells] at hf
  obtain ⟨f0, d0, p0, h0, _⟩ := field_at2 (t' := 22) (off := 0) (sz := 1) Tryz.underlying24 hf 0 rfl (by kernel_rfl)
  exact (slice_size Tryz.underlying22 h0).1
set_option maxRecDepth 100000 in
theorem style_size {wd jn cp ml ph : Int} {A : Option Addr} {n c : Nat} {d : DataW H} {p : List MemPlace} (h : DataW.Trod enc Tryz.prog w 0 spare held 27 (.agg #[.int .i64 wd, .int .i64 jn, .int .i64 cp, .int .i64 ml, .slice A n c, .int .i64 ph]) d p) (hw : ∀ x ∈ d.weights Tryz.prog 27, x ≤ reachBytes) : (A = none → c = 0) ∧ n * 8 ≤ 140737488355328 := by
  obtain ⟨fuel, hf⟩ := h
  simp only [Value.cells] at hf
  obtain ⟨f4, d4, p4, h4, hx⟩ := field_at2 (t' := 25) (off := 4) (sz := 1) Tryz.underlying27 hf 4 rfl (by kernel_rfl)
  obtain ⟨g1, g2⟩ := slice_size Tryz.underlying25 h4
  refine ⟨g1, ?_⟩
  have h3 := g2 (fun x hx2 => hw x (hx x hx2))
  rw [show Tryz.prog.bytesOf 3 = 8 by kernel_rfl] at h3
  have : reachBytes < 2 ^ 47 := reachBytes_lt
  omega
end

set_option maxRecDepth 100000 in
set_option maxHeartbeats 8000000 in
theorem walk (cl : Bool) (A : Option Addr) (n c : Nat) (L : List Pt) (wd jn cp ml ph : Int) (Ad : Option Addr) (nd cd : Nat) (D : List Int) (w : World) (P : Pts w A n c L) (I : Ins w Ad nd cd D) (hA : A = none → c = 0) (hAd : Ad = none → cd = 0) (hnd : nd * 8 ≤ 140737488355328) :
    Calls Tryz.prog 3 #[.agg #[.slice A n c, .bool cl], .agg #[.int .i64 wd, .int .i64 jn, .int .i64 cp, .int .i64 ml, .slice Ad nd cd, .int .i64 ph]] w fun e w' => e = .returned (.bool true) ∧ Keeps w w' := by
  have hl := P.1
  have HS := Lib.hid (show ∀ w', Keeps ((w.alloc (.cells #[.slice A n c, .bool cl] 24)).alloc (.cells #[.int .i64 wd, .int .i64 jn, .int .i64 cp, .int .i64 ml, .slice Ad nd cd, .int .i64 ph] 27)) w' → w'.cell? ⟨w.heap.size, 0, none⟩ = some (.slice A n c) ∧ w'.frozen? ⟨w.heap.size, 0, none⟩ = false ∧ w'.cell? ⟨w.heap.size, 1, none⟩ = some (.bool cl) ∧ w'.frozen? ⟨w.heap.size, 1, none⟩ = false ∧ w'.cell? ⟨w.heap.size + 1, 0, none⟩ = some (.int .i64 wd) ∧ w'.frozen? ⟨w.heap.size + 1, 0, none⟩ = false ∧ w'.cell? ⟨w.heap.size + 1, 1, none⟩ = some (.int .i64 jn) ∧ w'.frozen? ⟨w.heap.size + 1, 1, none⟩ = false ∧ w'.cell? ⟨w.heap.size + 1, 2, none⟩ = some (.int .i64 cp) ∧ w'.frozen? ⟨w.heap.size + 1, 2, none⟩ = false ∧ w'.cell? ⟨w.heap.size + 1, 3, none⟩ = some (.int .i64 ml) ∧ w'.frozen? ⟨w.heap.size + 1, 3, none⟩ = false ∧ w'.cell? ⟨w.heap.size + 1, 4, none⟩ = some (.slice Ad nd cd) ∧ w'.frozen? ⟨w.heap.size + 1, 4, none⟩ = false ∧ w'.cell? ⟨w.heap.size + 1, 5, none⟩ = some (.int .i64 ph) ∧ w'.frozen? ⟨w.heap.size + 1, 5, none⟩ = false from fun w' hk => ⟨(hk.cell (p := ⟨w.heap.size, 0, none⟩) (by first | (simp; done) | (simp; omega))).trans (by simp [go_sem]), (hk.frozen (p := ⟨w.heap.size, 0, none⟩) (by first | (simp; done) | (simp; omega))).trans (by simp [go_sem]), (hk.cell (p := ⟨w.heap.size, 1, none⟩) (by first | (simp; done) | (simp; omega))).trans (by simp [go_sem]), (hk.frozen (p := ⟨w.heap.size, 1, none⟩) (by first | (simp; done) | (simp; omega))).trans (by simp [go_sem]), (hk.cell (p := ⟨w.heap.size + 1, 0, none⟩) (by first | (simp; done) | (simp; omega))).trans (by simp [go_sem]), (hk.frozen (p := ⟨w.heap.size + 1, 0, none⟩) (by first | (simp; done) | (simp; omega))).trans (by simp [go_sem]), (hk.cell (p := ⟨w.heap.size + 1, 1, none⟩) (by first | (simp; done) | (simp; omega))).trans (by simp [go_sem]), (hk.frozen (p := ⟨w.heap.size + 1, 1, none⟩) (by first | (simp; done) | (simp; omega))).trans (by simp [go_sem]), (hk.cell (p := ⟨w.heap.size + 1, 2, none⟩) (by first | (simp; done) | (simp; omega))).trans (by simp [go_sem]), (hk.frozen (p := ⟨w.heap.size + 1, 2, none⟩) (by first | (simp; done) | (simp; omega))).trans (by simp [go_sem]), (hk.cell (p := ⟨w.heap.size + 1, 3, none⟩) (by first | (simp; done) | (simp; omega))).trans (by simp [go_sem]), (hk.frozen (p := ⟨w.heap.size + 1, 3, none⟩) (by first | (simp; done) | (simp; omega))).trans (by simp [go_sem]), (hk.cell (p := ⟨w.heap.size + 1, 4, none⟩) (by first | (simp; done) | (simp; omega))).trans (by simp [go_sem]), (hk.frozen (p := ⟨w.heap.size + 1, 4, none⟩) (by first | (simp; done) | (simp; omega))).trans (by simp [go_sem]), (hk.cell (p := ⟨w.heap.size + 1, 5, none⟩) (by first | (simp; done) | (simp; omega))).trans (by simp [go_sem]), (hk.frozen (p := ⟨w.heap.size + 1, 5, none⟩) (by first | (simp; done) | (simp; omega))).trans (by simp [go_sem])⟩)
  have HB := Lib.hid (show Keeps w ((w.alloc (.cells #[.slice A n c, .bool cl] 24)).alloc (.cells #[.int .i64 wd, .int .i64 jn, .int .i64 cp, .int .i64 ml, .slice Ad nd cd, .int .i64 ph] 27)) from (by (repeat (first | (with_reducible exact Keeps.refl _) | (with_reducible assumption) | (with_reducible refine Keeps.drewN ?_ _) | (with_reducible refine Keeps.drew ?_) | (with_reducible refine Keeps.alloc ?_ _) | (with_reducible refine Keeps.setNew ?_ ?_ _))) <;> (dsimp only; omega)))
  have hk0 := Keeps.refl ((w.alloc (.cells #[.slice A n c, .bool cl] 24)).alloc (.cells #[.int .i64 wd, .int .i64 jn, .int .i64 cp, .int .i64 ml, .slice Ad nd cd, .int .i64 ph] 27))
  have hk := hk0
  have KS := Lib.hid (fun w => small_any cl A n c w)
  have KX := Lib.hid (fun w => example24_any w)
  by_cases hgo : n ≤ 300 ∨ 4096 ≤ n ∧ n ≤ 4200
  · have hn2 : n ≤ 4200 := by omega
    have KP := Lib.hid (fun A2 c2 Ad2 cd2 w' (hP : Pts w' A2 n c2 L) (hI : Ins w' Ad2 nd cd2 D) => poly_any cl A2 n c2 L wd jn cp ml ph Ad2 nd cd2 D w' hP hI (by omega))
    have KC := Lib.hid (fun w' (hk : Keeps w w') => clone24_any wd jn cp ml ph Ad nd cd D w' (I.keep hk) hAd hnd)
    have KR := Lib.hid (fun w' (hk : Keeps w w') => rpoly_any cl A n c L wd jn cp ml ph Ad nd cd D w' (P.keep hk) (I.keep hk) (by omega))
    have HP := Lib.hid (fun w' (hk : Keeps w w') => P.keep hk)
    have hok := Lib.hid P.2.2.2.1
    have HT := Lib.hid (show ∀ w', Keeps ((w.alloc (.cells #[.slice A n c, .bool cl] 24)).alloc (.cells #[.int .i64 wd, .int .i64 jn, .int .i64 cp, .int .i64 ml, .slice Ad nd cd, .int .i64 ph] 27)) w' → (w'.cell? ⟨w.heap.size, 0, none⟩ = some (.slice A n c) ∧ w'.cell? ⟨w.heap.size, 1, none⟩ = some (.bool cl)) ∧ (w'.cell? ⟨w.heap.size + 1, 0, none⟩ = some (.int .i64 wd) ∧ w'.cell? ⟨w.heap.size + 1, 1, none⟩ = some (.int .i64 jn) ∧ w'.cell? ⟨w.heap.size + 1, 2, none⟩ = some (.int .i64 cp) ∧ w'.cell? ⟨w.heap.size + 1, 3, none⟩ = some (.int .i64 ml) ∧ w'.cell? ⟨w.heap.size + 1, 4, none⟩ = some (.slice Ad nd cd) ∧ w'.cell? ⟨w.heap.size + 1, 5, none⟩ = some (.int .i64 ph)) from fun w' hk => by
      obtain ⟨y0, y1, y2, y3, y4, y5, y6, y7, y8, y9, y10, y11, y12, y13, y14, y15⟩ := HS.out _ hk
      exact ⟨⟨y0, y2⟩, y4, y6, y8, y10, y12, y14⟩)
    have hnews := Lib.hid (rowP_news P)
    obtain ⟨er, her⟩ : ∃ er, Hid (er = polyE cl L wd jn cp ml ph D) := ⟨_, Lib.hid rfl⟩
    obtain ⟨R, hR0⟩ : ∃ R, Hid (R = polyL cl L wd jn cp ml ph D) := ⟨_, Lib.hid rfl⟩
    rw [← her.out, ← hR0.out] at KP KR
    have q8 : (er != er) = false := bne_self_eq_false er
    obtain ⟨i0, hi, hz0, hz1, hz2⟩ := info_parts pt_info
    have HI0 := Lib.hid (And.intro hi (And.intro hz0 (And.intro hz1 hz2)))
    have hW0s : (((w.alloc (.cells #[.slice A n c, .bool cl] 24)).alloc (.cells #[.int .i64 wd, .int .i64 jn, .int .i64 cp, .int .i64 ml, .slice Ad nd cd, .int .i64 ph] 27))).heap.size = w.heap.size + 2 := by simp
    clear P I hi hz0 hz1 hz2 her hR0
    go_enter Tryz.func3, Tryz.ntmps3
    go_upto_region 1 with fail
    generalize ((w.alloc (.cells #[.slice A n c, .bool cl] 24)).alloc (.cells #[.int .i64 wd, .int .i64 jn, .int .i64 cp, .int .i64 ml, .slice Ad nd cd, .int .i64 ph] 27)) = W0 at *
    go_cut [26] from 12 (fun x wx => x = .bool false ∧ Keeps W0 wx)
    case first =>
      obtain ⟨y0, y1, y2, y3, y4, y5, y6, y7, y8, y9, y10, y11, y12, y13, y14, y15⟩ := HS.out _ hk
      by_cases h3 : n ≤ 300
      · rw [decide_eq_true h3] at KS
        have hn4 : ¬ (4200 : Int) < n := by omega
        go_wp2_with (first | (go_at_call 5; (with_reducible refine (keepk (KS.out _) hk).mono ?_); rintro e w1 ⟨rfl, hk⟩; obtain ⟨y0, y1, y2, y3, y4, y5, y6, y7, y8, y9, y10, y11, y12, y13, y14, y15⟩ := HS.out _ hk) | fail "ARM")
        go_meet
        exact ⟨by simp [hn4], hk⟩
      · rw [decide_eq_false h3] at KS
        have hn4 : ¬ (4200 : Int) < n := by omega
        have hn5 : ¬ (n : Int) < 4096 := by omega
        go_wp2_with (first | (go_at_call 5; (with_reducible refine (keepk (KS.out _) hk).mono ?_); rintro e w1 ⟨rfl, hk⟩; obtain ⟨y0, y1, y2, y3, y4, y5, y6, y7, y8, y9, y10, y11, y12, y13, y14, y15⟩ := HS.out _ hk) | fail "ARM")
        go_meet
        exact ⟨by simp [hn4, hn5], hk⟩
    case rest =>
    obtain ⟨rfl, hk⟩ := hcut
    go_upto_region 3 with fail
    go_cut [5] from 28 (fun x wx => ∃ bo Ao co, x = .pointer (some ⟨bo, 0, none⟩) ∧ Hid (DI W0 bo cl (.slice Ao n co) L wx))
    case first =>
      obtain ⟨⟨y0, y2⟩, -⟩ := HT.out _ hk
      obtain ⟨hi, hz0, hz1, hz2⟩ := HI0.out
      have hX := hk
      have x7 := hk.size
      have x6 : w.heap.size < wc.heap.size := World.block_lt_of_cell? wc _ y0
      have y1 : wc.drew.cell? ⟨w.heap.size, 0, none⟩ = some (.slice A n c) := y0
      have y3 : wc.drew.cell? ⟨w.heap.size, 1, none⟩ = some (.bool cl) := y2
      cases A with
      | none =>
        obtain rfl : c = 0 := hA rfl
        obtain rfl : n = 0 := by have := (HP.out w (Keeps.refl _)).2.1; omega
        obtain rfl : L = [] := List.length_eq_zero_iff.1 hl
        go_region_law (first | (refine step_append_noneQ _ (by rfl) (.tmp 28) (.tmp 30) 22 (by rfl) W0.heap.size 37 i0 2 Tryz.underlying22 hi _ 0 [] (by rfl) (own_empty (World.alloc_heap_new _ _) (by omega)) (by rfl) ?_) | (refine step_append_noneQ _ (by rfl) (.tmp 28) (.tmp 30) 22 (by rfl) W0.heap.size 37 i0 2 Tryz.underlying22 hi _ 0 [] (by rfl) (own_empty (two_new_heap wc _ _).1 (by omega)) (by rfl) ?_) | (refine step_append_noneQ _ (by rfl) (.tmp 28) (.tmp 30) 22 (by rfl) W0.heap.size 37 i0 2 Tryz.underlying22 hi _ 0 [] (by rfl) (own_empty (two_new_heap wc _ _).2 (by omega)) (by rfl) ?_))
        all_goals go_wp2_with fail
        all_goals go_meet
        all_goals first
          | exact ⟨_, _, _, rfl, Lib.hid (DI.none1 hX)⟩
          | exact ⟨_, _, _, rfl, Lib.hid (DI.none2 hX)⟩
      | some ad =>
        go_region_law (first | (refine step_appendQ _ (by rfl) (.tmp 28) (.tmp 30) 22 (by rfl) W0.heap.size 37 i0 (.agg #[.int .i64 0, .int .i64 0]) 2 16 Tryz.underlying22 hi hz0 hz1 hz2 rfl (by decide) _ 0 [] (by rfl) (own_empty (World.alloc_heap_new _ _) (by omega)) ad n c (rowP L) (by rfl) (by rw [rowP_length, hl]) (hnews.out ad rfl _ (HB.out.trans (by repeat (first | (with_reducible exact hX) | (with_reducible refine Keeps.alloc ?_ _) | (with_reducible refine Keeps.drew ?_) | (with_reducible refine Keeps.drewN ?_ _))))) (oneCell_rowP L) (by unfold maxLen; omega) (by omega) (Keeps.size (w0 := W0) (by repeat (first | (with_reducible exact hX) | (with_reducible refine Keeps.alloc ?_ _) | (with_reducible refine Keeps.drew ?_) | (with_reducible refine Keeps.drewN ?_ _)))) ?_; intro v1 w1 hown1 hgrow1; have hkE : Keeps W0 w1 := Below.grown (show Keeps W0 _ from (by repeat (first | (with_reducible exact hX) | (with_reducible refine Keeps.alloc ?_ _) | (with_reducible refine Keeps.drew ?_) | (with_reducible refine Keeps.drewN ?_ _)))) hgrow1 (Keeps.size (w0 := W0) (by repeat (first | (with_reducible exact hX) | (with_reducible refine Keeps.alloc ?_ _) | (with_reducible refine Keeps.drew ?_) | (with_reducible refine Keeps.drewN ?_ _)))) (fun k hk => by simp [Act.eval, Value.ownBlock] at hk; omega); obtain ⟨⟨z0, z1⟩, -⟩ := HT.out _ hkE; rw [List.nil_append, Nat.zero_add] at hown1; obtain ⟨A1, c1, rfl⟩ := own_len hown1; have z6 : w.heap.size < w1.heap.size := World.block_lt_of_cell? w1 _ z0; have z2 : w1.drew.cell? ⟨w.heap.size, 1, none⟩ = some (.bool cl) := z1) | (refine step_appendQ _ (by rfl) (.tmp 28) (.tmp 30) 22 (by rfl) W0.heap.size 37 i0 (.agg #[.int .i64 0, .int .i64 0]) 2 16 Tryz.underlying22 hi hz0 hz1 hz2 rfl (by decide) _ 0 [] (by rfl) (own_empty (two_new_heap wc _ _).1 (by omega)) ad n c (rowP L) (by rfl) (by rw [rowP_length, hl]) (hnews.out ad rfl _ (HB.out.trans (by repeat (first | (with_reducible exact hX) | (with_reducible refine Keeps.alloc ?_ _) | (with_reducible refine Keeps.drew ?_) | (with_reducible refine Keeps.drewN ?_ _))))) (oneCell_rowP L) (by unfold maxLen; omega) (by omega) (Keeps.size (w0 := W0) (by repeat (first | (with_reducible exact hX) | (with_reducible refine Keeps.alloc ?_ _) | (with_reducible refine Keeps.drew ?_) | (with_reducible refine Keeps.drewN ?_ _)))) ?_; intro v1 w1 hown1 hgrow1; have hkE : Keeps W0 w1 := Below.grown (show Keeps W0 _ from (by repeat (first | (with_reducible exact hX) | (with_reducible refine Keeps.alloc ?_ _) | (with_reducible refine Keeps.drew ?_) | (with_reducible refine Keeps.drewN ?_ _)))) hgrow1 (Keeps.size (w0 := W0) (by repeat (first | (with_reducible exact hX) | (with_reducible refine Keeps.alloc ?_ _) | (with_reducible refine Keeps.drew ?_) | (with_reducible refine Keeps.drewN ?_ _)))) (fun k hk => by simp [Act.eval, Value.ownBlock] at hk; omega); obtain ⟨⟨z0, z1⟩, -⟩ := HT.out _ hkE; rw [List.nil_append, Nat.zero_add] at hown1; obtain ⟨A1, c1, rfl⟩ := own_len hown1; have z6 : w.heap.size < w1.heap.size := World.block_lt_of_cell? w1 _ z0; have z2 : w1.drew.cell? ⟨w.heap.size, 1, none⟩ = some (.bool cl) := z1; have hb1 := (hgrow1.block (wc.heap.size + 1) (by simp) (by simp [Act.eval, Value.ownBlock])).trans (two_new_heap wc _ _).2; have c0 : w1.cell? ⟨wc.heap.size + 1, 0, none⟩ = some (.slice none 0 0) := (by simp [World.cell?, hb1]); have c1' : w1.cell? ⟨wc.heap.size + 1, 1, none⟩ = some (.bool false) := (by simp [World.cell?, hb1]); have f0 : w1.frozen? ⟨wc.heap.size + 1, 0, none⟩ = false := (by simp [World.frozen?, hb1]); have f1 : w1.frozen? ⟨wc.heap.size + 1, 1, none⟩ = false := (by simp [World.frozen?, hb1])) | (refine step_appendQ _ (by rfl) (.tmp 28) (.tmp 30) 22 (by rfl) W0.heap.size 37 i0 (.agg #[.int .i64 0, .int .i64 0]) 2 16 Tryz.underlying22 hi hz0 hz1 hz2 rfl (by decide) _ 0 [] (by rfl) (own_empty (two_new_heap wc _ _).2 (by omega)) ad n c (rowP L) (by rfl) (by rw [rowP_length, hl]) (hnews.out ad rfl _ (HB.out.trans (by repeat (first | (with_reducible exact hX) | (with_reducible refine Keeps.alloc ?_ _) | (with_reducible refine Keeps.drew ?_) | (with_reducible refine Keeps.drewN ?_ _))))) (oneCell_rowP L) (by unfold maxLen; omega) (by omega) (Keeps.size (w0 := W0) (by repeat (first | (with_reducible exact hX) | (with_reducible refine Keeps.alloc ?_ _) | (with_reducible refine Keeps.drew ?_) | (with_reducible refine Keeps.drewN ?_ _)))) ?_; intro v1 w1 hown1 hgrow1; have hkE : Keeps W0 w1 := Below.grown (show Keeps W0 _ from (by repeat (first | (with_reducible exact hX) | (with_reducible refine Keeps.alloc ?_ _) | (with_reducible refine Keeps.drew ?_) | (with_reducible refine Keeps.drewN ?_ _)))) hgrow1 (Keeps.size (w0 := W0) (by repeat (first | (with_reducible exact hX) | (with_reducible refine Keeps.alloc ?_ _) | (with_reducible refine Keeps.drew ?_) | (with_reducible refine Keeps.drewN ?_ _)))) (fun k hk => by simp [Act.eval, Value.ownBlock] at hk; omega); obtain ⟨⟨z0, z1⟩, -⟩ := HT.out _ hkE; rw [List.nil_append, Nat.zero_add] at hown1; obtain ⟨A1, c1, rfl⟩ := own_len hown1; have z6 : w.heap.size < w1.heap.size := World.block_lt_of_cell? w1 _ z0; have z2 : w1.drew.cell? ⟨w.heap.size, 1, none⟩ = some (.bool cl) := z1; have hb1 := (hgrow1.block wc.heap.size (by simp; omega) (by simp [Act.eval, Value.ownBlock])).trans (two_new_heap wc _ _).1; have c0 : w1.cell? ⟨wc.heap.size, 0, none⟩ = some (.slice none 0 0) := (by simp [World.cell?, hb1]); have c1' : w1.cell? ⟨wc.heap.size, 1, none⟩ = some (.bool false) := (by simp [World.cell?, hb1]); have f0 : w1.frozen? ⟨wc.heap.size, 0, none⟩ = false := (by simp [World.frozen?, hb1]); have f1 : w1.frozen? ⟨wc.heap.size, 1, none⟩ = false := (by simp [World.frozen?, hb1])))
        all_goals go_wp2_with fail
        all_goals go_meet
        all_goals first
          | exact ⟨_, _, _, rfl, Lib.hid (DI.fresh (by rw [hl]; exact hown1) hkE)⟩
          | exact ⟨_, _, _, rfl, Lib.hid (DI.fill hb1 (by rw [hl]; exact hown1) hkE (by omega))⟩
    case rest =>
    obtain ⟨bo, Ao, co, rfl, hD⟩ := hcut
    have hkc : Keeps W0 wc := hD.out.keep
    have HBc := Lib.hid (HB.out.trans hkc)
    have HTc := Lib.hid (show ∀ w', Keeps wc w' → (w'.cell? ⟨bo, 0, none⟩ = some (.slice Ao n co) ∧ w'.cell? ⟨bo, 1, none⟩ = some (.bool cl) ∧ w'.cell? ⟨w.heap.size + 1, 0, none⟩ = some (.int .i64 wd) ∧ w'.cell? ⟨w.heap.size + 1, 1, none⟩ = some (.int .i64 jn) ∧ w'.cell? ⟨w.heap.size + 1, 2, none⟩ = some (.int .i64 cp) ∧ w'.cell? ⟨w.heap.size + 1, 3, none⟩ = some (.int .i64 ml) ∧ w'.cell? ⟨w.heap.size + 1, 4, none⟩ = some (.slice Ad nd cd) ∧ w'.cell? ⟨w.heap.size + 1, 5, none⟩ = some (.int .i64 ph)) from fun w' hk => by
      obtain ⟨-, hp⟩ := HT.out _ (hkc.trans hk)
      have hd := hD.out.step hk
      exact ⟨hd.c0, hd.c1, hp⟩)
    have HO := Lib.hid (fun w' (hk : Keeps wc w') => (hD.out.step hk).pts hl hok.out)
    have hk := Keeps.refl wc
    go_upto_region 4 with fail
    go_region_held3 (fun w' => (w'.cell? ⟨bo, 0, none⟩ = some (.slice Ao n co) ∧ w'.cell? ⟨bo, 1, none⟩ = some (.bool cl) ∧ w'.cell? ⟨w.heap.size + 1, 0, none⟩ = some (.int .i64 wd) ∧ w'.cell? ⟨w.heap.size + 1, 1, none⟩ = some (.int .i64 jn) ∧ w'.cell? ⟨w.heap.size + 1, 2, none⟩ = some (.int .i64 cp) ∧ w'.cell? ⟨w.heap.size + 1, 3, none⟩ = some (.int .i64 ml) ∧ w'.cell? ⟨w.heap.size + 1, 4, none⟩ = some (.slice Ad nd cd) ∧ w'.cell? ⟨w.heap.size + 1, 5, none⟩ = some (.int .i64 ph))) (first | exact HTc.out _ (by first | assumption | exact Keeps.drew (by assumption) | exact Keeps.drewN (by assumption) _) | go_keep) (first | (go_at_call 8; (with_reducible refine (KC.out _ (HBc.out.trans (by first | assumption | exact Keeps.drew (by assumption) | exact Keeps.drewN (by assumption) _))).mono ?_); rintro e w3 ⟨A3, c3, rfl, hI3, hk3⟩; have hI3 := Lib.hid hI3; replace hk : Keeps wc w3 := Keeps.trans (by first | assumption | exact Keeps.drew (by assumption) | exact Keeps.drewN (by assumption) _) hk3; clear hk3) | (go_at_call 7; (with_reducible refine (KP.out _ _ _ _ _ (HO.out _ (by first | assumption | exact Keeps.drew (by assumption) | exact Keeps.drewN (by assumption) _)) (hI3.out.keep (by first | exact Keeps.refl _ | exact (Keeps.refl _).drew | exact (Keeps.refl _).drewN _))).mono ?_); rintro e w4 ⟨A4, c4, rfl, hR4, hk4, -⟩; have hR4 := Lib.hid (hR4.low (Keeps.size (w0 := wc) (by first | assumption | exact Keeps.drew (by assumption) | exact Keeps.drewN (by assumption) _))); replace hk : Keeps wc w4 := Keeps.trans (by first | assumption | exact Keeps.drew (by assumption) | exact Keeps.drewN (by assumption) _) hk4; clear hk4) | fail "ARM")
    go_upto_region 5 with fail
    refine name_world (fun W5 hW5 => ?_)
    have hk5 : Keeps wc W5 := by rw [hW5]; exact (by first | assumption | exact Keeps.drew (by assumption) | exact Keeps.drewN (by assumption) _)
    have hR5 := Lib.hid (show RwsU wc.heap.size W5 A4 R.length c4 R by rw [hW5]; first | exact hR4.out | exact hR4.out.keep (by first | exact Keeps.refl _ | exact (Keeps.refl _).drew | exact (Keeps.refl _).drewN _))
    clear hW5 hk hR4
    obtain ⟨⟨y0, y2⟩, y4, y6, y8, y10, y12, y14⟩ := HT.out _ (hkc.trans hk5)
    go_wp2_with (first | (go_at_call 9; (with_reducible refine (KR.out _ (HBc.out.trans hk5)).mono ?_); rintro e w6 ⟨A6, c6, rfl, hR6, hk6⟩; have hR7 := Lib.hid (hR5.out.keep hk6); have hk7 := hk5.trans hk6; have hR6 := Lib.hid hR6.rws) | (go_at_call 10; (with_reducible refine (keepk2 (same24_any _ _ _ _ _ _ _ hR7.out.rws hR6.out) hk7).mono ?_); rintro e w8 ⟨rfl, hk8, hk9⟩; have hR8 := Lib.hid (hR7.out.keep hk8)) | fail "ARM")
    obtain ⟨H, hH⟩ := WI.of hR8.out
    have hmx : (R.length : Int) ≤ 9223372036854775807 := by have h1 := hR8.out.2.1; have h2 := hR8.out.2.2.1; unfold maxLen at h2; omega
    clear hR5 hR6 hR7 hR8 hk5 hk6 hk7 hk8 y0 y2 y4 y6 y8 y10 y12 y14 KR KP KC
    generalize R.length = m at *
    go_loopw [59] (fun i wr => ∃ j : Nat, j ≤ m ∧ i = .int .i64 j ∧ Keeps wc wr ∧ Hid (WI wc.heap.size wr A4 m H)) (fun i _ => m - (intOf i).toNat)
    case atStart => exact ⟨0, by omega, rfl, hk9, Lib.hid hH⟩
    case round =>
      clear hH hk9
      obtain ⟨j, hj, rfl, hkw, hI⟩ := hrel
      by_cases hlt : j < m
      · obtain ⟨b, o, rfl, hC⟩ := hI.out (by omega)
        have hlt2 : (j : Int) < m := by omega
        obtain ⟨Aj, nj, cj, hH⟩ : ∃ Aj nj cj, H j = (Aj, nj, cj) := ⟨_, _, _, rfl⟩
        have hRd := Lib.hid (show ∀ w', WI wc.heap.size w' (some ⟨b, o, none⟩) m H → w'.cell? ⟨b, o + j, none⟩ = some (.slice Aj nj cj) ∧ nj ≤ 4611686018427387904 ∧ (0 < nj → ∃ bk ok, Aj = some ⟨bk, ok, none⟩ ∧ wc.heap.size ≤ bk ∧ ∀ q, q < nj * 2 → w'.frozen? ⟨bk, ok + q, none⟩ = false ∧ ∃ x, w'.cell? ⟨bk, ok + q, none⟩ = some (.int .i64 x)) from fun w' h => by
          obtain ⟨b2, o2, e, hC⟩ := h (by omega)
          obtain ⟨rfl, rfl⟩ : b = b2 ∧ o = o2 := by simpa using e
          have h2 := hC j hlt
          rw [hH] at h2
          exact h2)
        clear hC hH
        obtain ⟨e1, e2, -⟩ := hRd.out _ hI.out
        have hnj : (nj : Int) ≤ 4611686018427387904 := by omega
        go_wp2_with fail
        rename World => wo
        go_loopw [67] (fun i wr => ∃ q : Nat, q ≤ nj ∧ i = .int .i64 q ∧ Keeps wc wr ∧ Hid (WI wc.heap.size wr (some ⟨b, o, none⟩) m H)) (fun i _ => nj - (intOf i).toNat)
        case atStart => exact ⟨0, by omega, rfl, hkw, hI⟩
        case round =>
          clear hI hkw e1
          obtain ⟨q, hq, rfl, hkw, hI⟩ := hrel
          obtain ⟨e1, -, e3⟩ := hRd.out _ hI.out
          by_cases hqlt : q < nj
          · obtain ⟨bk, ok, rfl, hbk, hx⟩ := e3 (by omega)
            have hq2 : (q : Int) < nj := by omega
            obtain ⟨f0, x0, g0⟩ := hx (q * 2) (by omega)
            obtain ⟨f1, x1, g1⟩ := hx (q * 2 + 1) (by omega)
            rw [← Nat.add_assoc] at f1 g1
            have hI2 := Lib.hid ((hI.out.set g0 7).set (y := x1) ((setOff _ _ _ _ _ (by omega)).trans g1) 0)
            have hk2 : Keeps wc ((wr.setCell ⟨bk, ok + q * 2, none⟩ (.int .i64 7)).setCell ⟨bk, ok + q * 2 + 1, none⟩ (.int .i64 0)) := (hkw.setNew hbk _).setNew hbk _
            clear hx hI e3
            go_wp2_with fail
            go_roundw
            case rel => exact ⟨q + 1, by omega, by go_num, hk2, hI2⟩
            case measure => simp [intOf]; omega
          · obtain rfl : q = nj := by omega
            clear e3
            go_wp2_with fail
            go_roundw
            case rel => exact ⟨j + 1, by omega, by go_num, hkw, hI⟩
            case measure => simp [intOf]; omega
      · obtain rfl : j = m := by omega
        obtain ⟨⟨y0, y2⟩, -⟩ := HT.out _ (hkc.trans hkw)
        have c0 := (hD.out.step hkw).c0
        go_wp2_with (first | (go_at_call 11; (with_reducible refine (keepk (samepts_any _ _ _ _ _ _ _ (HO.out _ hkw) (HP.out _ (HBc.out.trans hkw))) hkw).mono ?_); rintro e w10 ⟨rfl, hk⟩) | (go_at_call 6; (with_reducible refine (keepk (KX.out _) hk).mono ?_); rintro e w9 ⟨rfl, hk⟩) | fail "ARM")
        go_ret
        exact ⟨rfl, HBc.out.trans hk⟩
  · have hn3 : ¬ n ≤ 300 := by omega
    rw [decide_eq_false hn3] at KS
    clear P I
    by_cases h4 : n < 4096
    · have hn4 : (n : Int) < 4096 := by omega
      have hn5 : ¬ (4200 : Int) < n := by omega
      go_enter Tryz.func3, Tryz.ntmps3
      go_wp2_with (first | (go_at_call 5; (with_reducible refine (keepk (KS.out _) hk).mono ?_); rintro e w1 ⟨rfl, hk⟩; obtain ⟨y0, y1, y2, y3, y4, y5, y6, y7, y8, y9, y10, y11, y12, y13, y14, y15⟩ := HS.out _ hk) | (go_at_call 6; (with_reducible refine (keepk (KX.out _) hk).mono ?_); rintro e w9 ⟨rfl, hk⟩) | fail "ARM")
      go_ret
      exact ⟨rfl, HB.out.trans hk⟩
    · have hn4 : ¬ (n : Int) < 4096 := by omega
      have hn5 : (4200 : Int) < n := by omega
      go_enter Tryz.func3, Tryz.ntmps3
      go_wp2_with (first | (go_at_call 5; (with_reducible refine (keepk (KS.out _) hk).mono ?_); rintro e w1 ⟨rfl, hk⟩; obtain ⟨y0, y1, y2, y3, y4, y5, y6, y7, y8, y9, y10, y11, y12, y13, y14, y15⟩ := HS.out _ hk) | (go_at_call 6; (with_reducible refine (keepk (KX.out _) hk).mono ?_); rintro e w9 ⟨rfl, hk⟩) | fail "ARM")
      go_ret
      exact ⟨rfl, HB.out.trans hk⟩
set_option maxRecDepth 100000 in
theorem lifted (os : Os) (started : os.Started) (H : Type) (enc : TypeId × Value → H) :
    ReturnsInHanded {} Tryz.checked os 3 .any (Rows.strokePolylineSpec.pre6 enc Tryz.prog Tryz.f3 Rows.strokePolylineRow.domain false) (Rows.strokePolylineSpec.post enc Tryz.prog Tryz.f3 false true false false) := by
  refine returnsInHanded_of_change_sized (C := Tryz.checked) Tryz.own started (by kernel_rfl) Tryz.func3
    (ChangeSpec.witness6 (enc := enc) (C := Tryz.checked) false ⟨#[], #[.agg #[.slice none 0 0, .bool false], .agg #[.int .i64 0, .int .i64 0, .int .i64 0, .int .i64 0, .slice none 0 0, .int .i64 0]], []⟩ 8 (by kernel_rfl) (by kernel_rfl) (by kernel_rfl) (by kernel_rfl)) ?_
  intro W base args ds gs before hval0 hW hcnd hsz _
  have hval : ∀ (j : Nat) t v, Tryz.f3.params[j]? = some t → args[j]? = some v → Value.okWide Tryz.prog W .any base t v := hval0
  have hW' := hW
  obtain ⟨p, q, hA0, hV, rfl, hfz, hnd⟩ := hW
  have hA : DataW.TrodAll enc Tryz.prog W 0 (fun _ => true) true Tryz.f3.params.toList args.toList ds p := hA0
  have hAll := hA
  rw [Tryz.params3] at hA hval
  obtain ⟨v0, vs0, d0, ds0, p0, q0, hargs, rfl, rfl, h0, r0⟩ := trodAll_cons hA
  obtain ⟨v1, vs1, d1, ds1, p1, q1, rfl, rfl, rfl, h1, r1⟩ := trodAll_cons r0
  obtain ⟨rfl, rfl, rfl⟩ := trodAll_nil r1
  obtain rfl : args = #[v0, v1] := by cases args; simp_all
  obtain ⟨rfl, rfl⟩ := trodVars_none hV
  obtain ⟨A0, n0, c0, L0, cl0, rfl, P0⟩ := open_poly (hval 0 24 v0 rfl rfl) h0
  obtain ⟨wd1, jn1, cp1, ml1, ph1, A1, n1, c1, D1, rfl, I1, B1⟩ := open_style (hval 1 27 v1 rfl rfl) h1
  have hz0 := poly_size h0
  have hz1 := style_size h1 (fun x hx => of_decide_eq_true (List.all_eq_true.1 hsz x (DataW.weights_mem_each (j := 1) (t := 27) rfl rfl x hx)))
  clear hA0 hval0
  refine (walk cl0 A0 n0 c0 L0 wd1 jn1 cp1 ml1 ph1 A1 n1 c1 D1 W P0 I1 hz0 hz1.1 hz1.2).mono fun e W' ⟨he, bel⟩ => ?_
  subst he
  exact ⟨_, rfl, _, _, _, [], _, [], hW', trodAll_mk1 (shut_bool Tryz.underlying4 _), below_trodAll Tryz.laidOut bel (reads_of (by kernel_rfl)) hAll, rfl, bel.frame _, fun h => by cases h⟩

theorem over : Rows.strokePolylineRow.holds Tryz.pinned (OpenSpec.ofChange Rows.strokePolylineSpec) :=
  OpenClaim.holds_of_wide 3 Tryz.f3 rfl rfl rfl rfl rfl rfl rfl ⟨rfl, rfl, rfl, rfl, rfl⟩ rfl rfl rfl rfl rfl (by kernel_rfl) Tryz.func3 (by kernel_rfl)
    (of_decide_eq_true (by kernel_rfl)) (by unfold Func.isWrapper; first | (rw [if_pos (by decide +kernel)]; kernel_rfl) | (rw [if_neg (by decide +kernel)]; exact ⟨rfl, rfl⟩))
    (fun os started H enc _ => lifted os started H enc)

/-- The statement. -/
theorem proved : Rows.StrokePolylineSaid := over
#print axioms proved
end Go.Proofs.YtdodgnpjlicnoaaGreat.strokePolyline
