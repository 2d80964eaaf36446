/- The contract of dash.measure. -/
import Derived.Test.YtihmhpleiefodaaDa
import Derived.Test.YtihmhpleiefodaaDr
import Derived.Test.YtihmhpleiefodaaQh
import Derived.Maps.AppendAt
import Derived.Test.YtihmhpleiefodaaE11
namespace Go.Proofs.Ytihmhpleiefodaa
open Go.RowKit Go.Shelf
set_option linter.unusedVariables false
set_option linter.unusedSimpArgs false
/-- The length of a segment. -/
def lenS (s : Pt × Pt) : Int := lenI (subc s.2.1 s.1.1) (subc s.2.2 s.1.2)
def lng (S : List (Pt × Pt)) : Int := (S.map lenS).sum
def ats (S : List (Pt × Pt)) : List Int := (List.range S.length).map fun k => lng (S.take k)
theorem lng_snoc (S : List (Pt × Pt)) (x : Pt × Pt) : lng (S ++ [x]) = lng S + lenS x := by simp [lng]
theorem ats_len (S : List (Pt × Pt)) : (ats S).length = S.length := by simp [ats]
theorem ats_snoc (S : List (Pt × Pt)) (x : Pt × Pt) : ats (S ++ [x]) = ats S ++ [lng S] := by
  unfold ats
  rw [List.length_append, List.length_singleton, List.range_succ, List.map_append, List.map_singleton, List.take_left' rfl]
  congr 1
  apply List.map_congr_left
  intro k hk
  rw [List.take_append_of_le_length (by have := List.mem_range.1 hk; omega)]
theorem lenS_bd (s : Pt × Pt) : 0 ≤ lenS s ∧ lenS s ≤ 4294967295 := by
  unfold lenS
  obtain ⟨d, m, e1, d1, e2, m1, HL⟩ := dotI_self (subc s.2.1 s.1.1) (subc s.2.2 s.1.2)
  rw [HL.out]
  have := isq_le32 m m1
  omega
theorem lng_bd : ∀ (S : List (Pt × Pt)), 0 ≤ lng S ∧ lng S ≤ 4294967295 * (S.length : Int)
  | [] => by simp [lng]
  | s :: r => by
    have h1 := lng_bd r
    have h2 := lenS_bd s
    have e : lng (s :: r) = lenS s + lng r := by simp [lng]
    rw [e, List.length_cons]
    omega
theorem ats_ok {S : List (Pt × Pt)} (h : S.length ≤ 1000000) : ∀ d ∈ ats S, i64b d := by
  intro d hd
  unfold ats at hd
  obtain ⟨k, hk, rfl⟩ := List.mem_map.1 hd
  have h1 := lng_bd (S.take k)
  have h2 : (S.take k).length ≤ S.length := by rw [List.length_take]; omega
  unfold i64b
  omega
def intV (n : Int) : Value := .int .i64 n
theorem Ins.of_own {w : World} {base n : Nat} {e : TypeId} {v : Value} {L : List Int} (h : w.ownsRow base e 1 v n (L.map intV)) (hl : L.length = n) (ho : ∀ s ∈ L, i64b s) : ∃ A c, v = .slice A n c ∧ Ins w A n c L := by
  obtain ⟨A, c, rfl, h1, h2, h3, h4⟩ := SlA.of_own h
  refine ⟨A, c, rfl, hl, h1, h2, ho, fun hp => ?_⟩
  obtain ⟨b, o, rfl, hb, hx⟩ := h4 hp
  refine ⟨b, o, rfl, hb, fun k hk => ?_⟩
  have := hx k (by omega)
  rw [this, List.getElem?_map, List.getElem?_eq_getElem (by omega), List.getD_eq_getElem?_getD, List.getElem?_eq_getElem (by omega)]
  rfl
theorem int_info : (Try.prog.info? 3).map (fun i => (i.zero, i.size, i.bytes)) = some (some (.int .i64 0), 1, 8) := by kernel_rfl
theorem dedC_len (cl : Bool) (L : List Pt) : (dedC cl L).length ≤ L.length := by
  have h1 := dedTo_len L L.length
  unfold dedC
  split
  · exact Nat.le_trans (trimC_len _ _) h1
  · exact h1
theorem len_seg (x : Pt × Pt) (w : World) : Calls Try.prog 45 #[.agg #[.int .i64 (subc x.2.1 x.1.1), .int .i64 (subc x.2.2 x.1.2)]] w fun e w' => e = .returned (.int .i64 (lenS x)) ∧ Keeps w w' := length_any _ _ w
theorem Pts.far {W : World} {A : Option Addr} {m c B : Nat} {L : List Pt} (h : Pts W A m c L) (hne : ∀ b o, A = some ⟨b, o, none⟩ → b ≠ B) (i : Nat) (u : Value) : Pts (W.setCell ⟨B, i, none⟩ u) A m c L := by
  obtain ⟨h1, h2, h3, h5, h4⟩ := h
  refine ⟨h1, h2, h3, h5, fun hn => ?_⟩
  obtain ⟨b, o, e, hb', hc⟩ := h4 hn
  have hB := (hne b o e).symm
  exact ⟨b, o, e, by simpa using hb', fun k hk' => ⟨(setFar W B i b _ u hB).trans (hc k hk').1, (setFar W B i b _ u hB).trans (hc k hk').2⟩⟩
theorem Ins.far {W : World} {A : Option Addr} {m c B : Nat} {L : List Int} (h : Ins W A m c L) (hne : ∀ b o, A = some ⟨b, o, none⟩ → b ≠ B) (i : Nat) (u : Value) : Ins (W.setCell ⟨B, i, none⟩ u) A m c L := by
  obtain ⟨h1, h2, h3, h5, h4⟩ := h
  refine ⟨h1, h2, h3, h5, fun hn => ?_⟩
  obtain ⟨b, o, e, hb', hc⟩ := h4 hn
  have hB := (hne b o e).symm
  exact ⟨b, o, e, by simpa using hb', fun k hk' => (setFar W B i b _ u hB).trans (hc k hk')⟩
theorem Pts.own {X Y : World} {row : Option Nat} {A : Option Addr} {m c : Nat} {L : List Pt} (h : Pts X A m c L) (hg : X.grownBy Y row) (hr : ∀ r, row = some r → ∃ o : Obj, X.heap[r]? = some o ∧ o.isCells = false) : Pts Y A m c L := by
  obtain ⟨h1, h2, h3, h5, h4⟩ := h
  refine ⟨h1, h2, h3, h5, fun hn => ?_⟩
  obtain ⟨b, o, e, hb', hc⟩ := h4 hn
  exact ⟨b, o, e, Nat.lt_of_lt_of_le hb' hg.size, fun k hk' => ⟨cell_kept (hc k hk').1 hg hr, cell_kept (hc k hk').2 hg hr⟩⟩
theorem Ins.own {X Y : World} {row : Option Nat} {A : Option Addr} {m c : Nat} {L : List Int} (h : Ins X A m c L) (hg : X.grownBy Y row) (hr : ∀ r, row = some r → ∃ o : Obj, X.heap[r]? = some o ∧ o.isCells = false) : Ins Y A m c L := by
  obtain ⟨h1, h2, h3, h5, h4⟩ := h
  refine ⟨h1, h2, h3, h5, fun hn => ?_⟩
  obtain ⟨b, o, e, hb', hc⟩ := h4 hn
  exact ⟨b, o, e, Nat.lt_of_lt_of_le hb' hg.size, fun k hk' => cell_kept (hc k hk') hg hr⟩
theorem row_new {w : World} {B n c k size : Nat} {e : TypeId} {A : Option Addr} {xs : List Value} (h : w.ownsRow B e size (.slice A n c) k xs) : ∀ b o, A = some ⟨b, o, none⟩ → B ≤ b := new_of_own h
/-- What dash.measure hands back. -/
def MeR (w : World) (cl : Bool) (L : List Pt) (e : Ending) (w' : World) : Prop := Keeps w w' ∧ ∃ A1 c1 A2 c2, e = .returned (.tuple #[.agg #[.slice A1 (dedC cl L).length c1, .slice A2 (segs cl (dedC cl L)).length c2, .int .i64 (lng (segs cl (dedC cl L)))], .bool true]) ∧
  Pts w' A1 (dedC cl L).length c1 (dedC cl L) ∧ Ins w' A2 (segs cl (dedC cl L)).length c2 (ats (segs cl (dedC cl L)))
section
attribute [local go_sem ↓] Go.wp_at_zero Go.wp_at_succ
attribute [local go_sem] Oper.semAt_some
theorem all_take {L : List Pt} {j : Nat} (h : (L.take j).all vP = true) (hj : j < L.length) (hv : vP (L.getD j pt0) = true) : (L.take (j + 1)).all vP = true := by
  rw [takeP_succ L j hj, List.all_append, h]; simpa using hv
set_option maxRecDepth 100000 in
set_option maxHeartbeats 2000000 in
theorem measure_no (cl : Bool) (A : Option Addr) (n c : Nat) (L : List Pt) (w : World) (h : Pts w A n c L) (hv : L.all vP = false) :
    Calls Try.prog 27 #[.agg #[.slice A n c, .bool cl]] w fun e w' => e = .returned (.tuple #[.agg #[.slice none 0 0, .slice none 0 0, .int .i64 0], .bool false]) ∧ Keeps w w' := by
  have hl := h.1
  have hmx := h.max
  have HS := Lib.hid (show ∀ w', Keeps ((w.alloc (.cells #[.slice A n c, .bool cl] 24)).alloc (.cells #[.slice none 0 0, .slice none 0 0, .int .i64 0] 54)) w' → w'.cell? ⟨w.heap.size, 0, none⟩ = some (.slice A n c) ∧ w'.frozen? ⟨w.heap.size, 0, none⟩ = false ∧ w'.cell? ⟨w.heap.size, 1, none⟩ = some (.bool cl) ∧ w'.frozen? ⟨w.heap.size, 1, none⟩ = false ∧ w'.cell? ⟨w.heap.size + 1, 0, none⟩ = some (.slice none 0 0) ∧ w'.frozen? ⟨w.heap.size + 1, 0, none⟩ = false ∧ w'.cell? ⟨w.heap.size + 1, 1, none⟩ = some (.slice none 0 0) ∧ w'.frozen? ⟨w.heap.size + 1, 1, none⟩ = false ∧ w'.cell? ⟨w.heap.size + 1, 2, none⟩ = some (.int .i64 0) ∧ w'.frozen? ⟨w.heap.size + 1, 2, none⟩ = false from fun w' hk => ⟨(hk.cell (p := ⟨w.heap.size, 0, none⟩) (by first | (simp; done) | (simp; omega))).trans (by simp [go_sem]), (hk.frozen (p := ⟨w.heap.size, 0, none⟩) (by first | (simp; done) | (simp; omega))).trans (by simp [go_sem]), (hk.cell (p := ⟨w.heap.size, 1, none⟩) (by first | (simp; done) | (simp; omega))).trans (by simp [go_sem]), (hk.frozen (p := ⟨w.heap.size, 1, none⟩) (by first | (simp; done) | (simp; omega))).trans (by simp [go_sem]), (hk.cell (p := ⟨w.heap.size + 1, 0, none⟩) (by first | (simp; done) | (simp; omega))).trans (by simp [go_sem]), (hk.frozen (p := ⟨w.heap.size + 1, 0, none⟩) (by first | (simp; done) | (simp; omega))).trans (by simp [go_sem]), (hk.cell (p := ⟨w.heap.size + 1, 1, none⟩) (by first | (simp; done) | (simp; omega))).trans (by simp [go_sem]), (hk.frozen (p := ⟨w.heap.size + 1, 1, none⟩) (by first | (simp; done) | (simp; omega))).trans (by simp [go_sem]), (hk.cell (p := ⟨w.heap.size + 1, 2, none⟩) (by first | (simp; done) | (simp; omega))).trans (by simp [go_sem]), (hk.frozen (p := ⟨w.heap.size + 1, 2, none⟩) (by first | (simp; done) | (simp; omega))).trans (by simp [go_sem])⟩)
  have HB := Lib.hid (show Keeps w ((w.alloc (.cells #[.slice A n c, .bool cl] 24)).alloc (.cells #[.slice none 0 0, .slice none 0 0, .int .i64 0] 54)) from (by (repeat (first | (with_reducible exact Keeps.refl _) | (with_reducible assumption) | (with_reducible refine Keeps.drewN ?_ _) | (with_reducible refine Keeps.drew ?_) | (with_reducible refine Keeps.alloc ?_ _) | (with_reducible refine Keeps.setNew ?_ ?_ _))) <;> (dsimp only; omega)))
  have hk0 := Keeps.refl ((w.alloc (.cells #[.slice A n c, .bool cl] 24)).alloc (.cells #[.slice none 0 0, .slice none 0 0, .int .i64 0] 54))
  have HI := Lib.hid h
  replace hv := Lib.hid hv
  clear h
  go_enter Try.func27, Try.ntmps27
  obtain ⟨y0, y1, y2, y3, y4, y5, y6, y7, y8, y9⟩ := HS.out _ hk0
  go_wp2_with fail
  clear y0 y1 y2 y3 y4 y5 y6 y7 y8 y9
  go_loopw [13] (fun i wr => ∃ j : Nat, j ≤ n ∧ i = .int .i64 j ∧ Hid ((L.take j).all vP = true) ∧ Keeps ((w.alloc (.cells #[.slice A n c, .bool cl] 24)).alloc (.cells #[.slice none 0 0, .slice none 0 0, .int .i64 0] 54)) wr) (fun i _ => n - (intOf i).toNat)
  case atStart => exact ⟨0, by omega, rfl, Lib.hid rfl, hk0⟩
  case round =>
    obtain ⟨j, hj, rfl, hR, hkw⟩ := hrel
    obtain ⟨y0, y1, y2, y3, y4, y5, y6, y7, y8, y9⟩ := HS.out _ hkw
    by_cases hlt : j < n
    · obtain ⟨b, o, rfl, hb, hx⟩ := HI.out.2.2.2.2 (by omega)
      obtain ⟨c0, c1⟩ := (hx j hlt).keep hb (HB.out.trans hkw)
      have hlt2 : (j : Int) < n := by omega
      have hA := Lib.hid (fun hq => all_take hR.out (by omega : j < L.length) hq)
      clear hx
      generalize L.getD j pt0 = p at *
      have KV := Lib.hid (valid_any p.1 p.2)
      cases hp : vP p with
      | false =>
        rw [show validB p.1 p.2 = false from hp] at KV
        clear hp
        go_wp2_with (go_at_call 43; (with_reducible refine (KV.out _).mono ?_); rintro e w1 ⟨rfl, hk⟩; have hkk := (hkw.alloc _).trans hk; obtain ⟨z0, z1, z2, z3, z4, z5, z6, z7, z8, z9⟩ := HS.out _ hkk)
        refine bodyPost_ret (v := .tuple #[.agg #[.slice none 0 0, .slice none 0 0, .int .i64 0], .bool false]) (by simp [results, Try.results27, go_sem, *]) rfl ⟨rfl, ?_⟩
        exact (((HB.out.trans hkk).setNew (by dsimp only; omega) _).setNew (by dsimp only; omega) _).setNew (by dsimp only; omega) _
      | true =>
        rw [show validB p.1 p.2 = true from hp] at KV
        go_wp2_with (go_at_call 43; (with_reducible refine (KV.out _).mono ?_); rintro e w1 ⟨rfl, hk⟩)
        go_roundw
        case rel => exact ⟨j + 1, by omega, by go_num, Lib.hid (hA.out hp), (hkw.alloc _).trans hk⟩
        case measure => simp [intOf]; omega
    · obtain rfl : j = n := by omega
      have h1 := hR.out
      rw [← hl, List.take_length, hv.out] at h1
      cases h1
set_option maxRecDepth 100000 in
set_option maxHeartbeats 4000000 in
theorem measure_yes (cl : Bool) (A : Option Addr) (n c : Nat) (L : List Pt) (w : World) (h : Pts w A n c L) (hn : n ≤ 1000000) (hv : L.all vP = true) :
    Calls Try.prog 27 #[.agg #[.slice A n c, .bool cl]] w (MeR w cl L) := by
  have hl := h.1
  have HS := Lib.hid (show ∀ w', Keeps ((w.alloc (.cells #[.slice A n c, .bool cl] 24)).alloc (.cells #[.slice none 0 0, .slice none 0 0, .int .i64 0] 54)) w' → w'.cell? ⟨w.heap.size, 0, none⟩ = some (.slice A n c) ∧ w'.frozen? ⟨w.heap.size, 0, none⟩ = false ∧ w'.cell? ⟨w.heap.size, 1, none⟩ = some (.bool cl) ∧ w'.frozen? ⟨w.heap.size, 1, none⟩ = false ∧ w'.cell? ⟨w.heap.size + 1, 0, none⟩ = some (.slice none 0 0) ∧ w'.frozen? ⟨w.heap.size + 1, 0, none⟩ = false ∧ w'.cell? ⟨w.heap.size + 1, 1, none⟩ = some (.slice none 0 0) ∧ w'.frozen? ⟨w.heap.size + 1, 1, none⟩ = false ∧ w'.cell? ⟨w.heap.size + 1, 2, none⟩ = some (.int .i64 0) ∧ w'.frozen? ⟨w.heap.size + 1, 2, none⟩ = false from fun w' hk => ⟨(hk.cell (p := ⟨w.heap.size, 0, none⟩) (by first | (simp; done) | (simp; omega))).trans (by simp [go_sem]), (hk.frozen (p := ⟨w.heap.size, 0, none⟩) (by first | (simp; done) | (simp; omega))).trans (by simp [go_sem]), (hk.cell (p := ⟨w.heap.size, 1, none⟩) (by first | (simp; done) | (simp; omega))).trans (by simp [go_sem]), (hk.frozen (p := ⟨w.heap.size, 1, none⟩) (by first | (simp; done) | (simp; omega))).trans (by simp [go_sem]), (hk.cell (p := ⟨w.heap.size + 1, 0, none⟩) (by first | (simp; done) | (simp; omega))).trans (by simp [go_sem]), (hk.frozen (p := ⟨w.heap.size + 1, 0, none⟩) (by first | (simp; done) | (simp; omega))).trans (by simp [go_sem]), (hk.cell (p := ⟨w.heap.size + 1, 1, none⟩) (by first | (simp; done) | (simp; omega))).trans (by simp [go_sem]), (hk.frozen (p := ⟨w.heap.size + 1, 1, none⟩) (by first | (simp; done) | (simp; omega))).trans (by simp [go_sem]), (hk.cell (p := ⟨w.heap.size + 1, 2, none⟩) (by first | (simp; done) | (simp; omega))).trans (by simp [go_sem]), (hk.frozen (p := ⟨w.heap.size + 1, 2, none⟩) (by first | (simp; done) | (simp; omega))).trans (by simp [go_sem])⟩)
  have HB := Lib.hid (show Keeps w ((w.alloc (.cells #[.slice A n c, .bool cl] 24)).alloc (.cells #[.slice none 0 0, .slice none 0 0, .int .i64 0] 54)) from (by (repeat (first | (with_reducible exact Keeps.refl _) | (with_reducible assumption) | (with_reducible refine Keeps.drewN ?_ _) | (with_reducible refine Keeps.drew ?_) | (with_reducible refine Keeps.alloc ?_ _) | (with_reducible refine Keeps.setNew ?_ ?_ _))) <;> (dsimp only; omega)))
  have hk0 := Keeps.refl ((w.alloc (.cells #[.slice A n c, .bool cl] 24)).alloc (.cells #[.slice none 0 0, .slice none 0 0, .int .i64 0] 54))
  have HI := Lib.hid h
  have KD := Lib.hid (fun w' (hk : Keeps w w') => dedup_any cl A n c L w' (h.keep hk) (by omega))
  replace hv := Lib.hid (show ∀ j, j < n → vP (L.getD j pt0) = true from fun j hj => by rw [List.getD_eq_getElem?_getD, List.getElem?_eq_getElem (by omega)]; exact List.all_eq_true.1 hv _ (List.getElem_mem _))
  clear h
  refine (callsIn_wide (n := 9)).1 ?_
  refine callsIn_of_wp_marks Try.func27 rfl trivial ?_ rfl
  simp only [Try.ntmps27, List.size_toArray, List.length_cons, List.length_nil, Nat.reduceAdd, Nat.reduceSub, Array.replicate_succ, Array.replicate_zero, List.push_toArray, List.append_toArray, List.nil_append, List.cons_append]
  refine wpIn_wide.2 ?_
  obtain ⟨y0, y1, y2, y3, y4, y5, y6, y7, y8, y9⟩ := HS.out _ hk0
  go_wp2_with fail
  clear y0 y1 y2 y3 y4 y5 y6 y7 y8 y9
  go_loopw [13] (fun i wr => ∃ j : Nat, j ≤ n ∧ i = .int .i64 j ∧ Keeps ((w.alloc (.cells #[.slice A n c, .bool cl] 24)).alloc (.cells #[.slice none 0 0, .slice none 0 0, .int .i64 0] 54)) wr) (fun i _ => n - (intOf i).toNat)
  case atStart => exact ⟨0, by omega, rfl, hk0⟩
  case round =>
    obtain ⟨j, hj, rfl, hkw⟩ := hrel
    obtain ⟨y0, y1, y2, y3, y4, y5, y6, y7, y8, y9⟩ := HS.out _ hkw
    by_cases hlt : j < n
    · obtain ⟨b, o, rfl, hb, hx⟩ := HI.out.2.2.2.2 (by omega)
      obtain ⟨c0, c1⟩ := (hx j hlt).keep hb (HB.out.trans hkw)
      have hlt2 : (j : Int) < n := by omega
      have hp := hv.out j hlt
      clear hx
      generalize L.getD j pt0 = p at *
      have KV := Lib.hid (valid_any p.1 p.2)
      rw [show validB p.1 p.2 = true from hp] at KV
      clear hp
      go_wp2_with (go_at_call 43; (with_reducible refine (KV.out _).mono ?_); rintro e w1 ⟨rfl, hk⟩)
      go_roundw
      case rel => exact ⟨j + 1, by omega, by go_num, (hkw.alloc _).trans hk⟩
      case measure => simp [intOf]; omega
    · obtain rfl : j = n := by omega
      go_wp2_with (first | (go_at_call 39; (with_reducible refine (KD.out _ (HB.out.trans hkw)).mono ?_); rintro e w1 ⟨A1, c1, rfl, hP1, hk1, hnw1⟩; replace hnw1 := (new_of_own hnw1).le hkw.size; have hP1 := Lib.hid hP1; have hkk := hkw.trans hk1) | (go_at_call 44; (with_reducible refine (segments_any _ _ _ _ _).mono ?_); rintro e w2 ⟨rfl, hw2⟩))
      have hW0s : ((w.alloc (.cells #[.slice A j c, .bool cl] 24)).alloc (.cells #[.slice none 0 0, .slice none 0 0, .int .i64 0] 54)).heap.size = w.heap.size + 2 := by simp
      clear hk1 hkw y0 y1 y2 y3 y4 y5 y6 y7 y8 y9 KD HI hk0
      generalize ((w.alloc (.cells #[.slice A j c, .bool cl] 24)).alloc (.cells #[.slice none 0 0, .slice none 0 0, .int .i64 0] 54)) = W0 at *
      have hkA : Keeps W0 w1 := hkk
      clear hkk
      have bx7 := (BoxN.new (w1.alloc (.cells #[.slice A1 (dedC cl L).length c1, .bool cl] 24)) 54 #[.slice A1 (dedC cl L).length c1, .slice none 0 0, .int .i64 0]).alloc (.cells #[.slice A1 (dedC cl L).length c1, .bool cl] 24)
      have bxp := BoxN.new ((w1.alloc (.cells #[.slice A1 (dedC cl L).length c1, .bool cl] 24)).alloc (.cells #[.slice A1 (dedC cl L).length c1, .slice none 0 0, .int .i64 0] 54)) 24 #[.slice A1 (dedC cl L).length c1, .bool cl]
      simp only [World.size_alloc] at bx7 bxp
      have hP3 := hP1.out.keep ((((Keeps.refl w1).alloc (.cells #[.slice A1 (dedC cl L).length c1, .bool cl] 24)).alloc (.cells #[.slice A1 (dedC cl L).length c1, .slice none 0 0, .int .i64 0] 54)).alloc (.cells #[.slice A1 (dedC cl L).length c1, .bool cl] 24))
      have hkW := ((hkA.alloc (.cells #[.slice A1 (dedC cl L).length c1, .bool cl] 24)).alloc (.cells #[.slice A1 (dedC cl L).length c1, .slice none 0 0, .int .i64 0] 54)).alloc (.cells #[.slice A1 (dedC cl L).length c1, .bool cl] 24)
      have hsz : (((w1.alloc (.cells #[.slice A1 (dedC cl L).length c1, .bool cl] 24)).alloc (.cells #[.slice A1 (dedC cl L).length c1, .slice none 0 0, .int .i64 0] 54)).alloc (.cells #[.slice A1 (dedC cl L).length c1, .bool cl] 24)).heap.size = w1.heap.size + 3 := by simp
      have hnu := dedC_len cl L
      have hb9 : 0 < (dedC cl L).length → ∀ b o, A1 = some ⟨b, o, none⟩ → b < w1.heap.size + 3 ∧ b ∉ [w1.heap.size + 1] := fun h0 b o e => by
        obtain ⟨b', o', e', hb', _⟩ := hP1.out.2.2.2.2 h0
        rw [e] at e'; cases e'
        exact ⟨by omega, by simp; omega⟩
      obtain ⟨W1, hW1⟩ : ∃ W1, (((w1.alloc (.cells #[.slice A1 (dedC cl L).length c1, .bool cl] 24)).alloc (.cells #[.slice A1 (dedC cl L).length c1, .slice none 0 0, .int .i64 0] 54)).alloc (.cells #[.slice A1 (dedC cl L).length c1, .bool cl] 24)) = W1 := ⟨_, rfl⟩
      rw [hW1] at bx7 bxp hP3 hkW hsz ⊢
      clear hW1 hP1
      have hN9 : (segs cl (dedC cl L)).length ≤ 1000000 := by unfold segs segN; rw [upS_len]; split <;> (try split) <;> omega
      have hwsz : W0.heap.size ≤ w1.heap.size := hkA.size
      clear hkA
      generalize w1.heap.size = B at *
      have hP3 := Lib.hid hP3
      generalize hM : dedC cl L = M at *
      replace hM := Lib.hid hM
      replace hP3 := hP3.out
      refine (wpIn_wide (n := 9)).1 ?_
      refine wpIn_rangeFunc_ownH rfl (by omega) (gf := 62) (lb := #[.pointer (some ⟨B + 1 + 1, 0, none⟩)]) rfl trivial (enters_of Try.func62 (by kernel_rfl) rfl)
        (segs_stops 8 (by omega) (B + 1 + 1) (B + 3) [B + 1] cl A1 M.length c1 M W1 (by omega) (by omega) (by simp) (by omega) (by simpa using bxp.cell 0) (by simpa using bxp.cell 1) hP3 hb9)
        (fun h k => KpX.trans h k) (fun W l o o' hl _ _ _ => KpX.put W l o' (by omega)) (Below.refl _ _) (fun _ => rfl)
        (fun pre W => ∃ v, BoxN W (B + 1) 54 #[.slice A1 M.length c1, v, .int .i64 (lng pre)] ∧ W.ownsRow (B + 3) 3 1 v pre.length ((ats pre).map intV) ∧ Keeps W0 W ∧ KpX (B + 3) [B + 1] W1 W)
        (fun _ _ _ => False)
        ?hI (fun _ _ _ _ _ hs _ _ => hs)
        ⟨_, bx7, ⟨rfl, .inl ⟨rfl, rfl⟩⟩, hkW, KpX.refl _ _ _⟩
        (fun x a' W => ∃ Ba Bb, B + 3 ≤ Ba ∧ B + 3 ≤ Bb ∧ BoxN W Ba 50 #[.int .i64 x.1.1, .int .i64 x.1.2] ∧ BoxN W Bb 50 #[.int .i64 x.2.1, .int .i64 x.2.2] ∧ a' = { tmps := #[.agg #[.slice A j c, .bool cl], .pointer (some ⟨w.heap.size, 0, none⟩), .pointer (some ⟨w.heap.size + 1, 0, none⟩), u3, undef, u5, .pointer (some ⟨B, 0, none⟩), .pointer (some ⟨B + 1, 0, none⟩), .pointer (some ⟨Ba, 0, none⟩), .pointer (some ⟨Bb, 0, none⟩), .pointer (some ⟨w.heap.size, 0, none⟩), .slice A j c, .int .i64 j, .int .i64 j, .bool false, u15, u16, u17, u18, u19, u20, u21, .agg #[.slice A j c, .bool cl], .agg #[.slice A1 M.length c1, .bool cl], .pointer (some ⟨B, 0, none⟩), .slice A1 M.length c1, .agg #[.slice A1 M.length c1, .slice none 0 0, .int .i64 0], .agg #[.slice A1 M.length c1, .bool cl], .func (.func 62) #[] #[.pointer (some ⟨B + 1 + 1, 0, none⟩)], .agg #[.int .i64 x.1.1, .int .i64 x.1.2], .agg #[.int .i64 x.2.1, .int .i64 x.2.2], undef, undef, undef, undef, undef, undef, undef, undef, undef, undef, undef, undef, undef, undef, undef, undef], defers := [] })
        ?hAx ?assign ?body ?done ?stop
      case hI =>
        rintro s X Y row ⟨v, hv, hr, hB, hX⟩ hg hrow
        exact ⟨v, hv.own hg (fun r e => (hrow r e).2), row_own hr hg (fun r e => (hrow r e).2), Below.grown hB hg hB.size (fun k e => by have := (hrow k e).1; omega), hX.trans (KpX.grown hg (by have := hX.1; omega) (fun k e => .inr (by have := (hrow k e).1; omega)))⟩
      case hAx =>
        rintro x a' _ X Y row ⟨Ba, Bb, h1, h2, h3, h4, h5⟩ hg hrow
        exact ⟨Ba, Bb, h1, h2, h3.own hg (fun r e => (hrow r e).2), h4.own hg (fun r e => (hrow r e).2), h5⟩
      case assign =>
        rintro l pre x W K ⟨v, hv, hr, hB, hX⟩ hK
        have hWs : B + 3 ≤ W.heap.size := by have := hX.1; omega
        dsimp only [ptA]
        gi_wp2
        refine hK _ _ (((KeepsOthers.alloc _ _).trans (KeepsOthers.alloc _ _)).from _) (KpX.of (((Keeps.refl W).alloc _).alloc _) hWs) ⟨v, (hv.alloc _).alloc _, row_keep hr (((Keeps.refl W).alloc _).alloc _), (hB.alloc _).alloc _, hX.trans (KpX.of (((Keeps.refl W).alloc _).alloc _) hWs)⟩ ⟨W.heap.size, W.heap.size + 1, hWs, by omega, (BoxN.new W _ _).alloc _, ?_, rfl⟩
        simpa using BoxN.new (W.alloc (.cells #[.int .i64 x.1.1, .int .i64 x.1.2] 50)) 50 #[.int .i64 x.2.1, .int .i64 x.2.2]
      case body =>
        rintro l pre x a' W hl ⟨r, hr0⟩ ⟨v, hv, hrow, hK, hX⟩ ⟨Ba, Bb, hBa, hBb, bA, bB, rfl⟩ hlt
        clear bx7 bxp hP3 hkW hb9 hr0
        have hWs : B + 3 ≤ W.heap.size := by have := hX.1; omega
        obtain ⟨b1, b2⟩ := lng_bd pre
        obtain ⟨i0, hi, hz0, hz1, hz2⟩ := info_parts int_info
        have v1 : W.cell? ⟨B + 1, 1, none⟩ = some v := by simpa using hv.cell 1
        have v2 : W.cell? ⟨B + 1, 2, none⟩ = some (.int .i64 (lng pre)) := by simpa using hv.cell 2
        have hA9 : W.heap.size ≠ B + 1 := by omega
        gi_upto_region 13 with (gi_at_builtin; refine wpListIn_append_own _ rfl _ _ 25 rfl (B + 3) 3 i0 (.int .i64 0) 1 8 Try.underlying25 hi hz0 hz1 hz2 rfl (by decide) _ _ _ rfl (row_keep hrow ((Keeps.refl W).alloc _)) ⟨W.heap.size, 0, none⟩ 1 1 [intV (lng pre)] rfl rfl (cell_one_new _ _ _) (by simp [Value.oneCell', intV]) (by unfold maxLen; omega) (by omega) (by simp; omega) ?_; intro v' w3 hown hgrow hz9; clear hz9; obtain ⟨g', cap', rfl⟩ := ownsRow_succ hown; have hv3 := (hv.alloc _).kept hgrow (hv.not_row (by decide) hrow); have v3 := hv3.frozen 1; have v4 : w3.cell? ⟨B + 1, 1, none⟩ = some v := by simpa using hv3.cell 1)
        have ko4 : KeepsOthers W (w3.setCell ⟨B + 1, 1, none⟩ (.slice (some ⟨g', 0, none⟩) (pre.length + 1) cap')) := ((KeepsOthers.alloc W _).trans (ko_append (row_keep hrow ((Keeps.refl W).alloc _)) hgrow)).trans (KeepsOthers.setCell _ _ _)
        have hs3 : W.heap.size + 1 ≤ w3.heap.size := by have := hgrow.size; simpa using this
        have hvb := row_base hrow
        have hX3 : KpX (B + 3) [B + 1] W w3 := (KpX.of ((Keeps.refl W).alloc _) hWs).trans (KpX.grown hgrow (by simp; omega) (fun k e => .inr (hvb k e)))
        have hX4 := hX3.trans (KpX.set w3 (B + 1) 1 (.slice (some ⟨g', 0, none⟩) (pre.length + 1) cap') (by omega) (.inl (by simp)))
        have hB3 : Keeps W0 w3 := Below.grown (hK.alloc _) hgrow (by have := hK.size; simp; omega) (fun k e => by have := hvb k e; omega)
        have hB4 : Keeps W0 (w3.setCell ⟨B + 1, 1, none⟩ (.slice (some ⟨g', 0, none⟩) (pre.length + 1) cap')) := hB3.setNew (by dsimp only; omega) _
        have bx4 := hv3.set 1 (.slice (some ⟨g', 0, none⟩) (pre.length + 1) cap')
        simp only [List.setIfInBounds_toArray, List.set_cons_succ, List.set_cons_zero] at bx4
        have hown4 := hown.kept (grown_set w3 (B + 1) 1 (.slice (some ⟨g', 0, none⟩) (pre.length + 1) cap')) (.inr (hv3.not_row (by decide) hown).symm)
        have bA4 := ((bA.alloc _).kept hgrow (bA.not_row (by decide) hrow)).other (by omega : Ba ≠ B + 1) 1 (.slice (some ⟨g', 0, none⟩) (pre.length + 1) cap')
        have bB4 := ((bB.alloc _).kept hgrow (bB.not_row (by decide) hrow)).other (by omega : Bb ≠ B + 1) 1 (.slice (some ⟨g', 0, none⟩) (pre.length + 1) cap')
        clear hv hv3 v1 v2 v3 v4 hown hB3 hX3 hK hvb hgrow bA bB hi hz0 hz1 hz2
        generalize w3.setCell ⟨B + 1, 1, none⟩ (.slice (some ⟨g', 0, none⟩) (pre.length + 1) cap') = W4 at *
        have z0 := fun k : KW W4 => (show k.w.cell? ⟨B + 1, 2, none⟩ = some (.int .i64 (lng pre)) by simpa using (bx4.keep k.keeps).cell 2)
        have z1 := fun k : KW W4 => (show k.w.cell? ⟨Ba, 0, none⟩ = some (.int .i64 x.1.1) by simpa using (bA4.keep k.keeps).cell 0)
        have z2 := fun k : KW W4 => (show k.w.cell? ⟨Ba, 1, none⟩ = some (.int .i64 x.1.2) by simpa using (bA4.keep k.keeps).cell 1)
        have z3 := fun k : KW W4 => (show k.w.cell? ⟨Bb, 0, none⟩ = some (.int .i64 x.2.1) by simpa using (bB4.keep k.keeps).cell 0)
        have z4 := fun k : KW W4 => (show k.w.cell? ⟨Bb, 1, none⟩ = some (.int .i64 x.2.2) by simpa using (bB4.keep k.keeps).cell 1)
        have HS1 := Lib.hid (fun k : KW W4 => keepq (subc_any x.2.1 x.2.2 x.1.1 x.1.2 k.w))
        have HL1 := Lib.hid (fun k : KW W4 => keepq (len_seg x k.w))
        have hls := lenS_bd x
        have hln := Lib.hid (lng_snoc pre x)
        have han := Lib.hid (ats_snoc pre x)
        generalize hx8 : lenS x = lx at *
        generalize hp8 : lng pre = lp at *
        replace hx8 := Lib.hid hx8
        replace hp8 := Lib.hid hp8
        refine wpIn_region_kept_tail (isWide_round l) 8 (W4) (by kernel_rfl) (by kernel_rfl) (by kernel_rfl) (Keeps.refl _) ?_
        simp only [List.take_succ_cons, List.take_zero, List.drop_succ_cons, List.drop_zero]
        repeat (first | go_big_quiet_skip | (go_big_quiet_want; go_big_quiet_op; first | go_big_quiet_on | go_big_quiet_call ((first | (go_at_call 46; first | (with_reducible exact HS1.out _)) | (go_at_call 45; first | (with_reducible exact HL1.out _))))))
        refine wpQuiet_nil ?_
        rintro w' ⟨k9, rfl⟩
        have hk := k9.keeps
        generalize k9.w = w9 at hk ⊢
        clear k9
        have z5 := (bx4.keep hk).frozen 2
        have z6 : w9.cell? ⟨B + 1, 2, none⟩ = some (.int .i64 lp) := by simpa using (bx4.keep hk).cell 2
        clear z0 z1 z2 z3 z4 HS1 HL1
        gi_wp2
        have hW4s : W.heap.size ≤ W4.heap.size := ko4.size
        have bx5 := (bx4.keep hk).set 2 (.int .i64 (lp + lx))
        simp only [List.setIfInBounds_toArray, List.set_cons_succ, List.set_cons_zero] at bx5
        have hown5 := (row_keep hown4 hk).kept (grown_set w9 (B + 1) 2 (.int .i64 (lp + lx))) (.inr ((bx4.keep hk).not_row (by decide) (row_keep hown4 hk)).symm)
        refine ⟨((ko4.trans (ko_keeps hk)).trans (KeepsOthers.setCell _ _ _)).from _, (hX4.trans (KpX.of hk (by omega))).trans (KpX.set _ _ _ _ (by have := hk.size; omega) (.inl (by simp))), .slice (some ⟨g', 0, none⟩) (pre.length + 1) cap', ?_, ?_, (hB4.trans hk).setNew (by dsimp only; omega) _, (hX.trans (hX4.trans (KpX.of hk (by omega)))).trans (KpX.set _ _ _ _ (by have := hk.size; omega) (.inl (by simp)))⟩
        · rw [hln.out]; exact bx5
        · rw [han.out, List.map_append, List.length_append]; exact hown5
      case done =>
        rintro D ys W hD rfl ⟨v, hv, hr, hK, hX⟩ hKd
        clear bx7 bxp hkW
        obtain ⟨y0, y1, y2, y3, y4, y5, y6, y7, y8, y9⟩ := HS.out _ hK
        have v0 : W.cell? ⟨B + 1, 0, none⟩ = some (.slice A1 M.length c1) := by simpa using hv.cell 0
        have v1 : W.cell? ⟨B + 1, 1, none⟩ = some v := by simpa using hv.cell 1
        have v2 : W.cell? ⟨B + 1, 2, none⟩ = some (.int .i64 (lng (segs cl M))) := by simpa using hv.cell 2
        obtain ⟨A2, c2, rfl, hI2⟩ := Ins.of_own hr (ats_len _) (fun d hd => ats_ok (by omega) d hd)
        go_wp2_with fail
        have f0 : (((W.setCell ⟨w.heap.size + 1, 0, none⟩ (.slice A1 M.length c1)).setCell ⟨w.heap.size + 1, 1, none⟩ (.slice A2 (segs cl M).length c2)).setCell ⟨w.heap.size + 1, 2, none⟩ (.int .i64 (lng (segs cl M)))).cell? ⟨w.heap.size + 1, 0, none⟩ = some (.slice A1 M.length c1) := by simp [go_sem, y4, y6, y8]
        have f1 : (((W.setCell ⟨w.heap.size + 1, 0, none⟩ (.slice A1 M.length c1)).setCell ⟨w.heap.size + 1, 1, none⟩ (.slice A2 (segs cl M).length c2)).setCell ⟨w.heap.size + 1, 2, none⟩ (.int .i64 (lng (segs cl M)))).cell? ⟨w.heap.size + 1, 1, none⟩ = some (.slice A2 (segs cl M).length c2) := by simp [go_sem, y4, y6, y8]
        have f2 : (((W.setCell ⟨w.heap.size + 1, 0, none⟩ (.slice A1 M.length c1)).setCell ⟨w.heap.size + 1, 1, none⟩ (.slice A2 (segs cl M).length c2)).setCell ⟨w.heap.size + 1, 2, none⟩ (.int .i64 (lng (segs cl M)))).cell? ⟨w.heap.size + 1, 2, none⟩ = some (.int .i64 (lng (segs cl M))) := by simp [go_sem, y4, y6, y8]
        have hk5 : Keeps w (((W.setCell ⟨w.heap.size + 1, 0, none⟩ (.slice A1 M.length c1)).setCell ⟨w.heap.size + 1, 1, none⟩ (.slice A2 (segs cl M).length c2)).setCell ⟨w.heap.size + 1, 2, none⟩ (.int .i64 (lng (segs cl M)))) := (((HB.out.trans hK).setNew (by dsimp only; omega) _).setNew (by dsimp only; omega) _).setNew (by dsimp only; omega) _
        have hd5 := (((KeepsOthers.setCell W ⟨w.heap.size + 1, 0, none⟩ (.slice A1 M.length c1)).trans (KeepsOthers.setCell _ ⟨w.heap.size + 1, 1, none⟩ (.slice A2 (segs cl M).length c2))).trans (KeepsOthers.setCell _ ⟨w.heap.size + 1, 2, none⟩ (.int .i64 (lng (segs cl M))))).same D _ hKd rfl
        have hP5 := hX.pts hP3 hb9
        have hne : ∀ b o, A1 = some ⟨b, o, none⟩ → b ≠ w.heap.size + 1 := fun b o e => by have := hnw1 b o e; omega
        replace hP5 := ((hP5.far hne 0 (.slice A1 M.length c1)).far hne 1 (.slice A2 (segs cl M).length c2)).far hne 2 (.int .i64 (lng (segs cl M)))
        have hne2 : ∀ b o, A2 = some ⟨b, o, none⟩ → b ≠ w.heap.size + 1 := fun b o e => by have := row_new hr b o e; omega
        have hI5 := ((hI2.far hne2 0 (.slice A1 M.length c1)).far hne2 1 (.slice A2 (segs cl M).length c2)).far hne2 2 (.int .i64 (lng (segs cl M)))
        generalize (((W.setCell ⟨w.heap.size + 1, 0, none⟩ (.slice A1 M.length c1)).setCell ⟨w.heap.size + 1, 1, none⟩ (.slice A2 (segs cl M).length c2)).setCell ⟨w.heap.size + 1, 2, none⟩ (.int .i64 (lng (segs cl M)))) = W5 at *
        have g9 := fun r (e : some D = some r) => (show ∃ o : Obj, W5.heap[r]? = some o ∧ o.isCells = false by cases e; exact ⟨_, hd5, rfl⟩)
        have g0 := cell_kept f0 (grownBy_putObj' W5 D (.deferred none)) g9
        have g1 := cell_kept f1 (grownBy_putObj' W5 D (.deferred none)) g9
        have g2 := cell_kept f2 (grownBy_putObj' W5 D (.deferred none)) g9
        have hkz : Keeps w (W5.putObj D (.deferred none)) := Below.grown hk5 (grownBy_putObj' W5 D (.deferred none)) hk5.size (fun k e => by cases e; have := HB.out.size; omega)
        have hPz := hP5.own (grownBy_putObj' W5 D (.deferred none)) g9
        have hIz := hI5.own (grownBy_putObj' W5 D (.deferred none)) g9
        refine ⟨by simp, .inl ⟨_, _, rfl, run_takeDeferred hd5, ?_⟩⟩
        refine ⟨.tuple #[.agg #[.slice A1 M.length c1, .slice A2 (segs cl M).length c2, .int .i64 (lng (segs cl M))], .bool true], by simp [results, Try.results27, go_sem, *], hkz, ?_⟩
        rw [hM.out]
        exact ⟨_, _, _, _, rfl, hPz, hIz⟩
      case stop =>
        rintro D c pre W _ _ h _
        exact h.elim
end
end Go.Proofs.Ytihmhpleiefodaa
