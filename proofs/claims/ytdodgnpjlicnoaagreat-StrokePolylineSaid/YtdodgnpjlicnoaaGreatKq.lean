/- Contract of stroke.Polylines. -/
import Derived.Test.YtdodgnpjlicnoaaGreatE24
import Derived.Test.YtdodgnpjlicnoaaGreatOz
import Derived.Laws.AppendOwnNone
namespace Go.Proofs.YtdodgnpjlicnoaaGreat
section
section
open Go.RowKit
attribute [local go_sem ↓] Go.wp_at_zero Go.wp_at_succ
set_option linter.unusedVariables false
set_option linter.unusedSimpArgs false
theorem poly_ok {cl : Bool} {L : List Pt} {wd jn cp ml ph : Int} {D : List Int} (h : polyE cl L wd jn cp ml ph D = 0) :
    vRows 0 (polyL cl L wd jn cp ml ph D) = true ∧ (∀ r ∈ polyL cl L wd jn cp ml ph D, 3 ≤ r.length ∧ 1 ≤ area r) := by
  have e : polyL cl L wd jn cp ml ph D = ringsL cl (dedC cl L) wd jn cp ml ph D := by unfold polyL; rw [if_pos h]
  rw [e]
  unfold polyE at h
  split at h
  · omega
  split at h
  · omega
  split at h
  · omega
  split at h
  · omega
  rename_i hv
  split at h
  · omega
  rename_i hc
  refine ⟨vRows_cnt _ 0 (by simpa using hv) (by omega), fun r hr => ?_⟩
  have h1 := ringsL_area _ _ _ _ _ _ _ _ r hr
  exact ⟨area_three r h1, by omega⟩
theorem poly_err {cl : Bool} {L : List Pt} {wd jn cp ml ph : Int} {D : List Int} (h : polyE cl L wd jn cp ml ph D ≠ 0) : polyL cl L wd jn cp ml ph D = [] := by
  unfold polyL; rw [if_neg h]
set_option maxHeartbeats 400000 in
theorem small_any (cl : Bool) (A : Option Addr) (n c : Nat) (w : World) : Calls Tryz.prog 5 #[.agg #[.slice A n c, .bool cl]] w fun e w' => e = .returned (.bool (decide (n ≤ 300))) ∧ Keeps w w' := by
  by_cases h : n ≤ 300
  · have hi : (n : Int) ≤ 300 := by omega
    rw [decide_eq_true h]
    go_enter Tryz.func5, Tryz.ntmps5
    go_wp2_with fail
    go_ret
    exact ⟨by first | rfl | simp, (Keeps.refl _).alloc _⟩
  · have hi : ¬ (n : Int) ≤ 300 := by omega
    rw [decide_eq_false h]
    go_enter Tryz.func5, Tryz.ntmps5
    go_wp2_with fail
    go_ret
    exact ⟨by first | rfl | simp, (Keeps.refl _).alloc _⟩
set_option maxRecDepth 100000 in
set_option maxHeartbeats 1000000 in
theorem samepts_any (A B : Option Addr) (n c c2 : Nat) (L : List Pt) (w : World) (h : Pts w A n c L) (h2 : Pts w B n c2 L) :
    Calls Tryz.prog 11 #[.slice A n c, .slice B n c2] w fun e w' => e = .returned (.bool true) ∧ Keeps w w' := by
  have hmx := h.2.2.1
  have hmx : (n : Int) ≤ 9223372036854775807 := by have := h.2.1; unfold maxLen at hmx; omega
  have g5 := ptNeq
  have HA := Lib.hid h
  have HB := Lib.hid h2
  have q0 : ((n : Int) != n) = false := by simp
  clear h h2
  go_enter Tryz.func11, Tryz.ntmps11
  go_wp2_with fail
  go_loopw [5] (fun i wr => ∃ j : Nat, j ≤ n ∧ i = .int .i64 j ∧ Keeps w wr) (fun i _ => n - (intOf i).toNat)
  case atStart => exact ⟨0, by omega, rfl, Keeps.refl _⟩
  case round =>
    obtain ⟨j, hj, rfl, hkw⟩ := hrel
    by_cases hlt : j < n
    · obtain ⟨b1, o1, rfl, hb1, hc1⟩ := HA.out.2.2.2.2 (by omega)
      obtain ⟨b2, o2, rfl, hb2, hc2⟩ := HB.out.2.2.2.2 (by omega)
      obtain ⟨c0, c1⟩ := (hc1 j hlt).keep hb1 hkw
      obtain ⟨d0, d1⟩ := (hc2 j hlt).keep hb2 hkw
      have hlt2 : (j : Int) < n := by omega
      clear hc1 hc2
      generalize L.getD j pt0 = p at *
      have t1 : (p.1 == p.1) = true := beq_self_eq_true _
      have t2 : (p.2 == p.2) = true := beq_self_eq_true _
      go_wp2_with fail
      go_quiet (fail)
      go_wp2_with fail
      go_roundw
      case rel => exact ⟨j + 1, by omega, by go_num, hkw.drewN _⟩
      case measure => simp [intOf]; omega
    · obtain rfl : j = n := by omega
      go_wp2_with fail
      go_ret
      exact ⟨rfl, hkw⟩
set_option maxRecDepth 100000 in
set_option maxHeartbeats 1000000 in
theorem count_any (A : Option Addr) (n c : Nat) (LL : List (List Pt)) (w : World) (h : Rws w A n c LL) (hn : n ≤ 1000000) (hM : ∀ r ∈ LL, r.length ≤ 1000000) :
    Calls Tryz.prog 23 #[.slice A n c] w fun e w' => e = .returned (.int .i64 (cnt LL)) ∧ Keeps w w' := by
  have hl := h.1
  have hni : (n : Int) ≤ 1000000 := by omega
  have HS := Lib.hid h
  have hC := Lib.hid (fun k => (cnt_le 1000000 (LL.take k) (fun r hr => hM r (List.mem_of_mem_take hr))))
  have hM := Lib.hid hM
  clear h
  go_enter Tryz.func23, Tryz.ntmps23
  go_wp2_with fail
  go_loopw [3, 4] (fun a i wr => ∃ (j x : Nat), j ≤ n ∧ i = .int .i64 j ∧ a = .int .i64 x ∧ Keeps w wr ∧ Hid (x = cnt (LL.take j))) (fun _ i _ => n - (intOf i).toNat)
  case atStart => exact ⟨0, 0, by omega, rfl, rfl, Keeps.refl _, Lib.hid rfl⟩
  case round =>
    obtain ⟨j, x, hj, rfl, rfl, hkw, hR⟩ := hrel
    have hxb : x ≤ 1000000000000 := by
      have h1 := hC.out j
      have h2 := hR.out
      rw [List.length_take] at h1
      have h3 : min j LL.length * 1000000 ≤ 1000000 * 1000000 := Nat.mul_le_mul_right _ (by omega)
      omega
    have hxi : (x : Int) ≤ 1000000000000 := by omega
    by_cases hlt : j < n
    · obtain ⟨b, o, rfl, hb, hc⟩ := HS.out.2.2.2 (by omega)
      obtain ⟨Ak, nk, ck, c0, hP, hnk⟩ := hc j hlt
      have c0 := (hkw.cell hb).trans c0
      have hnl := hP.1
      have hnM : nk ≤ 1000000 := by
        rw [← hnl]; refine hM.out _ ?_
        rw [List.getD_eq_getElem?_getD, List.getElem?_eq_getElem (by omega)]; exact List.getElem_mem _
      have hni : (nk : Int) ≤ 1000000 := by omega
      have hT := Lib.hid (show x + nk = cnt (LL.take (j + 1)) by rw [cnt_take LL j (by omega), hR.out, hnl])
      clear hP hc hnl
      have hlt2 : (j : Int) < n := by omega
      go_wp2_with fail
      go_roundw
      case rel => exact ⟨j + 1, x + nk, by omega, by go_num, by go_num, hkw, hT⟩
      case measure => simp [intOf]; omega
    · obtain rfl : j = n := by omega
      have hf := Lib.hid (show x = cnt LL by have := hR.out; rw [List.take_of_length_le (by omega)] at this; exact this)
      go_wp2_with fail
      go_ret
      exact ⟨ret_i64 (show (x : Int) = cnt LL by rw [hf.out]), hkw⟩
end
end

section
section
open Go.RowKit Go.Deep
attribute [local go_sem ↓] Go.wp_at_zero Go.wp_at_succ
set_option linter.unusedVariables false
set_option linter.unusedSimpArgs false
/-- the first error of the polylines -/
def firstE (wd jn cp ml ph : Int) (D : List Int) : List (Bool × List Pt) → Int
  | [] => 0
  | p :: r => if polyE p.1 p.2 wd jn cp ml ph D = 0 then firstE wd jn cp ml ph D r else polyE p.1 p.2 wd jn cp ml ph D
/-- the polygons of the polylines, one after the other -/
def catL (wd jn cp ml ph : Int) (D : List Int) : List (Bool × List Pt) → List (List Pt)
  | [] => []
  | p :: r => polyL p.1 p.2 wd jn cp ml ph D ++ catL wd jn cp ml ph D r
def polysE (PL : List (Bool × List Pt)) (wd jn cp ml ph : Int) (D : List Int) : Int :=
  if stB wd jn cp ml ph D = false then 13 else if firstE wd jn cp ml ph D PL ≠ 0 then firstE wd jn cp ml ph D PL else if 4096 < cnt (catL wd jn cp ml ph D PL) then 5 else 0
def polysL (PL : List (Bool × List Pt)) (wd jn cp ml ph : Int) (D : List Int) : List (List Pt) := if polysE PL wd jn cp ml ph D = 0 then catL wd jn cp ml ph D PL else []
variable {wd jn cp ml ph : Int} {D : List Int}
theorem drop_pl (PL : List (Bool × List Pt)) (k : Nat) (h : k < PL.length) : PL.drop k = PL.getD k pl0 :: PL.drop (k + 1) := by
  rw [List.drop_eq_getElem_cons h, List.getD_eq_getElem?_getD, List.getElem?_eq_getElem h]; rfl
theorem catL_append : ∀ (a b : List (Bool × List Pt)), catL wd jn cp ml ph D (a ++ b) = catL wd jn cp ml ph D a ++ catL wd jn cp ml ph D b
  | [], b => rfl
  | p :: r, b => by rw [List.cons_append, catL, catL, catL_append r b, List.append_assoc]
theorem catL_take (PL : List (Bool × List Pt)) (k : Nat) (h : k < PL.length) : catL wd jn cp ml ph D (PL.take (k + 1)) = catL wd jn cp ml ph D (PL.take k) ++ polyL (PL.getD k pl0).1 (PL.getD k pl0).2 wd jn cp ml ph D := by
  have e : PL.take (k + 1) = PL.take k ++ [PL.getD k pl0] := by
    rw [List.take_succ_eq_append_getElem h, List.getD_eq_getElem?_getD, List.getElem?_eq_getElem h]; rfl
  rw [e, catL_append, catL, catL, List.append_nil]
theorem catL_mem {PL : List (Bool × List Pt)} {r : List Pt} (h : r ∈ catL wd jn cp ml ph D PL) : ∃ p ∈ PL, r ∈ polyL p.1 p.2 wd jn cp ml ph D := by
  induction PL with
  | nil => simp [catL] at h
  | cons p q ih =>
    rw [catL] at h
    rcases List.mem_append.1 h with h | h
    · exact ⟨p, by simp, h⟩
    · obtain ⟨x, hx, h2⟩ := ih h
      exact ⟨x, by simp [hx], h2⟩
theorem catL_len : ∀ (PL : List (Bool × List Pt)), (∀ p ∈ PL, p.2.length ≤ 400) → (catL wd jn cp ml ph D PL).length ≤ PL.length * 802
  | [], _ => Nat.le_refl _
  | p :: r, h => by
    have h1 := h p (by simp)
    have h2 := polyL_len p.1 p.2 wd jn cp ml ph D
    have h3 := catL_len r (fun x hx => h x (by simp [hx]))
    rw [catL, List.length_append, List.length_cons]; omega
theorem firstE_zero : ∀ {PL : List (Bool × List Pt)}, firstE wd jn cp ml ph D PL = 0 → ∀ p ∈ PL, polyE p.1 p.2 wd jn cp ml ph D = 0
  | [], _, p, hp => by cases hp
  | q :: r, h, p, hp => by
    rw [firstE] at h
    split at h
    · rename_i h0
      rcases List.mem_cons.1 hp with rfl | hp
      · exact h0
      · exact firstE_zero h p hp
    · exact absurd h (by assumption)
theorem polyL_ring {cl : Bool} {L : List Pt} {r : List Pt} (h : r ∈ polyL cl L wd jn cp ml ph D) : 0 < r.length ∧ r.all vP = true := by
  unfold polyL at h
  split at h
  · rename_i he
    refine ⟨by have := area_three r (ringsL_area _ _ _ _ _ _ _ _ r h); omega, ?_⟩
    unfold polyE at he
    split at he
    · omega
    split at he
    · omega
    split at he
    · omega
    split at he
    · omega
    rename_i hv
    have hv : allV (ringsL cl (dedC cl L) wd jn cp ml ph D) = true := by simpa using hv
    exact List.all_eq_true.1 hv r h
  · simp at h
theorem catL_all (PL : List (Bool × List Pt)) : allV (catL wd jn cp ml ph D PL) = true := by
  unfold allV
  rw [List.all_eq_true]
  intro r hr
  obtain ⟨p, _, h⟩ := catL_mem hr
  exact (polyL_ring h).2
/-- the values of a slice of polygons -/
theorem RwsU.news {B : Nat} {w : World} {A : Option Addr} {m c : Nat} {PP : List (List Pt)} (h : RwsU B w A m c PP) (hm : 0 < m) (hp : ∀ r ∈ PP, 0 < r.length) :
    ∃ (b o : Nat) (VN : List Value), A = some ⟨b, o, none⟩ ∧ VN.length = m ∧ (∀ j u, VN[j]? = some u → w.cell? ⟨b, o + j, none⟩ = some u) ∧ (∀ u ∈ VN, u.oneCell' = true) ∧
      ∀ k, k < m → ∃ Ak nk ck, VN[k]? = some (.slice Ak nk ck) ∧ Pts w Ak nk ck (PP.getD k []) ∧ nk ≤ 4611686018427387904 ∧ ∀ a, Ak = some a → Nw B w a := by
  have hl := h.1
  obtain ⟨b, o, rfl, hB, hb, hC⟩ := h.2.2.2 hm
  obtain ⟨f, hf⟩ := choose_lt (α := Option Addr × Nat × Nat) (p := fun k x => w.cell? ⟨b, o + k, none⟩ = some (.slice x.1 x.2.1 x.2.2) ∧ Pts w x.1 x.2.1 x.2.2 (PP.getD k []) ∧ x.2.1 ≤ 4611686018427387904 ∧ ∀ a, x.1 = some a → Nw B w a) (fun k hk => by
    obtain ⟨Ak, nk, ck, e, hP, hn, hfr⟩ := hC k hk
    exact ⟨(Ak, nk, ck), e, hP, hn, hfr⟩)
  refine ⟨b, o, (List.range m).map fun k => .slice (f k).1 (f k).2.1 (f k).2.2, rfl, by simp, ?_, ?_, ?_⟩
  · intro j u hu
    have hj : j < m := by have := (List.getElem?_eq_some_iff.1 hu).1; simpa using this
    rw [List.getElem?_map, List.getElem?_range hj] at hu
    simp at hu
    rw [← hu]; exact (hf j hj).1
  · intro u hu
    obtain ⟨k, _, rfl⟩ := List.mem_map.1 hu
    rfl
  · intro k hk
    refine ⟨(f k).1, (f k).2.1, (f k).2.2, by rw [List.getElem?_map, List.getElem?_range hk]; rfl, (hf k hk).2⟩
theorem FRws.cat {w w1 : World} {B B2 g cap m : Nat} {v : Value} {LL PP : List (List Pt)} {VS VN : List Value}
    (hown : w.ownsRow B 22 1 v LL.length VS) (hall : ∀ k, k < LL.length → ∃ Ak nk ck, VS[k]? = some (.slice Ak nk ck) ∧ Pts w Ak nk ck (LL.getD k []) ∧ nk ≤ 4611686018427387904 ∧ ∀ a, Ak = some a → Nw B w a ∧ some a.block ≠ v.ownBlock)
    (hm : PP.length = m) (h0 : 0 < m) (hVN : ∀ k, k < m → ∃ Ak nk ck, VN[k]? = some (.slice Ak nk ck) ∧ Pts w Ak nk ck (PP.getD k []) ∧ nk ≤ 4611686018427387904 ∧ ∀ a, Ak = some a → Nw B2 w a)
    (hB2 : B ≤ B2) (hne : ∀ x, v.ownBlock = some x → x < B2)
    (h1 : w1.ownsRow B 22 1 (.slice (some ⟨g, 0, none⟩) (LL.length + m) cap) (LL.length + m) (VS ++ VN)) (hg : w.grownBy w1 v.ownBlock) (hlie : v.ownBlock = some g ∨ g = w.heap.size) :
    FRws w1 B (.slice (some ⟨g, 0, none⟩) (LL.length + m) cap) (LL ++ PP) := by
  have hl : (LL ++ PP).length = LL.length + m := by rw [List.length_append, hm]
  have hsz : w.heap.size ≤ w1.heap.size := hg.size
  have hcell : ∀ b o, b < w.heap.size → some b ≠ v.ownBlock → w1.cell? ⟨b, o, none⟩ = w.cell? ⟨b, o, none⟩ := fun b o hb hne =>
    hg.cell_far ⟨b, o, none⟩ hb (by simpa using hne)
  have hfz : ∀ b j, b < w.heap.size → some b ≠ v.ownBlock → w1.frozen? ⟨b, j, none⟩ = w.frozen? ⟨b, j, none⟩ := fun b j hb hne => by
    unfold World.frozen?
    rw [hg.block b hb (by simpa using hne)]
  have hfr : ∀ B' a, Nw B' w a → some a.block ≠ v.ownBlock → Nw B' w1 a := fun B' a h hx => ⟨h.1, by have := h.2.1; omega, fun j => (hfz _ j h.2.1 hx).trans (h.2.2 j)⟩
  have hne2 : ∀ b, b < w.heap.size → some b ≠ v.ownBlock → some b ≠ (Value.slice (some ⟨g, 0, none⟩) (LL.length + m) cap).ownBlock := fun b hb hx e => by
    simp [Value.ownBlock] at e
    rcases hlie with h | h
    · exact hx (by rw [h, e])
    · omega
  have hVl : VS.length = LL.length := by have := hown.1; omega
  refine ⟨VS ++ VN, by rw [hl]; exact h1, fun k hk => ?_, fun h => by rw [hl] at h; omega⟩
  rw [hl] at hk
  by_cases hkl : k < LL.length
  · obtain ⟨Ak, nk, ck, e, hPk, hnk, hb⟩ := hall k hkl
    refine ⟨Ak, nk, ck, by rw [List.getElem?_append_left (by omega)]; exact e, ?_, hnk, fun a ha => ⟨hfr _ a (hb a ha).1 (hb a ha).2, hne2 _ (hb a ha).1.2.1 (hb a ha).2⟩⟩
    rw [show (LL ++ PP).getD k [] = LL.getD k [] by rw [List.getD_eq_getElem?_getD, List.getElem?_append_left hkl, List.getD_eq_getElem?_getD]]
    exact hPk.far hsz (fun a o ha => hcell _ _ (hb a ha).1.2.1 (hb a ha).2)
  · obtain ⟨Ak, nk, ck, e, hPk, hnk, hb⟩ := hVN (k - LL.length) (by omega)
    have hnb : ∀ a, Ak = some a → some a.block ≠ v.ownBlock := fun a ha e => by have h1 := hne _ e.symm; have h2 := (hb a ha).1; omega
    refine ⟨Ak, nk, ck, by rw [List.getElem?_append_right (by omega), hVl]; exact e, ?_, hnk, fun a ha => ⟨⟨Nat.le_trans hB2 (hb a ha).1, (hfr _ a (hb a ha) (hnb a ha)).2⟩, hne2 _ (hb a ha).2.1 (hnb a ha)⟩⟩
    rw [show (LL ++ PP).getD k [] = PP.getD (k - LL.length) [] by rw [List.getD_eq_getElem?_getD, List.getElem?_append_right (by omega), List.getD_eq_getElem?_getD]]
    exact hPk.far hsz (fun a o ha => hcell _ _ (hb a ha).2.1 (hnb a ha))
set_option maxRecDepth 100000 in
set_option maxHeartbeats 8000000 in
theorem polys_any (A : Option Addr) (n c : Nat) (PL : List (Bool × List Pt)) (wd jn cp ml ph : Int) (Ad : Option Addr) (nd cd : Nat) (D : List Int) (w : World) (h : Pls w A n c PL) (hI : Ins w Ad nd cd D) (hn : n ≤ 200) (hL : ∀ p ∈ PL, p.2.length ≤ 400) :
    Calls Tryz.prog 13 #[.slice A n c, .agg #[.int .i64 wd, .int .i64 jn, .int .i64 cp, .int .i64 ml, .slice Ad nd cd, .int .i64 ph]] w (RetE w (polysL PL wd jn cp ml ph D) (polysE PL wd jn cp ml ph D)) := by
  obtain ⟨j0, ji, jz0, jz1, jz2⟩ := info_parts rows_info
  have HJ0 := Lib.hid (And.intro ji (And.intro jz0 (And.intro jz1 jz2)))
  have hl := h.1
  have hni : (n : Int) ≤ 200 := by omega
  have HS := Lib.hid (show ∀ w', Keeps (w.alloc (.cells #[.int .i64 wd, .int .i64 jn, .int .i64 cp, .int .i64 ml, .slice Ad nd cd, .int .i64 ph] 27)) w' → w'.cell? ⟨w.heap.size, 0, none⟩ = some (.int .i64 wd) ∧ w'.frozen? ⟨w.heap.size, 0, none⟩ = false ∧ w'.cell? ⟨w.heap.size, 1, none⟩ = some (.int .i64 jn) ∧ w'.frozen? ⟨w.heap.size, 1, none⟩ = false ∧ w'.cell? ⟨w.heap.size, 2, none⟩ = some (.int .i64 cp) ∧ w'.frozen? ⟨w.heap.size, 2, none⟩ = false ∧ w'.cell? ⟨w.heap.size, 3, none⟩ = some (.int .i64 ml) ∧ w'.frozen? ⟨w.heap.size, 3, none⟩ = false ∧ w'.cell? ⟨w.heap.size, 4, none⟩ = some (.slice Ad nd cd) ∧ w'.frozen? ⟨w.heap.size, 4, none⟩ = false ∧ w'.cell? ⟨w.heap.size, 5, none⟩ = some (.int .i64 ph) ∧ w'.frozen? ⟨w.heap.size, 5, none⟩ = false from fun w' hk => ⟨(hk.cell (p := ⟨w.heap.size, 0, none⟩) (by first | (simp; done) | (simp; omega))).trans (by simp [go_sem]), (hk.frozen (p := ⟨w.heap.size, 0, none⟩) (by first | (simp; done) | (simp; omega))).trans (by simp [go_sem]), (hk.cell (p := ⟨w.heap.size, 1, none⟩) (by first | (simp; done) | (simp; omega))).trans (by simp [go_sem]), (hk.frozen (p := ⟨w.heap.size, 1, none⟩) (by first | (simp; done) | (simp; omega))).trans (by simp [go_sem]), (hk.cell (p := ⟨w.heap.size, 2, none⟩) (by first | (simp; done) | (simp; omega))).trans (by simp [go_sem]), (hk.frozen (p := ⟨w.heap.size, 2, none⟩) (by first | (simp; done) | (simp; omega))).trans (by simp [go_sem]), (hk.cell (p := ⟨w.heap.size, 3, none⟩) (by first | (simp; done) | (simp; omega))).trans (by simp [go_sem]), (hk.frozen (p := ⟨w.heap.size, 3, none⟩) (by first | (simp; done) | (simp; omega))).trans (by simp [go_sem]), (hk.cell (p := ⟨w.heap.size, 4, none⟩) (by first | (simp; done) | (simp; omega))).trans (by simp [go_sem]), (hk.frozen (p := ⟨w.heap.size, 4, none⟩) (by first | (simp; done) | (simp; omega))).trans (by simp [go_sem]), (hk.cell (p := ⟨w.heap.size, 5, none⟩) (by first | (simp; done) | (simp; omega))).trans (by simp [go_sem]), (hk.frozen (p := ⟨w.heap.size, 5, none⟩) (by first | (simp; done) | (simp; omega))).trans (by simp [go_sem])⟩)
  have HB := Lib.hid (show Keeps w (w.alloc (.cells #[.int .i64 wd, .int .i64 jn, .int .i64 cp, .int .i64 ml, .slice Ad nd cd, .int .i64 ph] 27)) from (by (repeat (first | (with_reducible exact Keeps.refl _) | (with_reducible assumption) | (with_reducible refine Keeps.drewN ?_ _) | (with_reducible refine Keeps.drew ?_) | (with_reducible refine Keeps.alloc ?_ _) | (with_reducible refine Keeps.setNew ?_ ?_ _))) <;> (dsimp only; omega)))
  have hk0 := Keeps.refl (w.alloc (.cells #[.int .i64 wd, .int .i64 jn, .int .i64 cp, .int .i64 ml, .slice Ad nd cd, .int .i64 ph] 27))
  have hk := hk0
  have KS := Lib.hid (fun w' (hk : Keeps w w') => style_any wd jn cp ml ph Ad nd cd D w' (hI.keep hk))
  obtain ⟨er, RR, hE, hR⟩ : ∃ (er : Int) (RR : List (List Pt)), Hid (er = polysE PL wd jn cp ml ph D) ∧ Hid (RR = polysL PL wd jn cp ml ph D) := ⟨_, _, Lib.hid rfl, Lib.hid rfl⟩
  rw [← hE.out, ← hR.out]
  have hno := Lib.hid (show ∀ x, er = x → x ≠ 0 → RR = [] from fun x h1 h2 => by rw [hR.out]; unfold polysL; rw [if_neg (by rw [← hE.out, h1]; exact h2)])
  have hyes := Lib.hid (show er = 0 → RR = catL wd jn cp ml ph D PL from fun h1 => by rw [hR.out]; unfold polysL; rw [if_pos (by rw [← hE.out, h1])])
  have hE' := hE.out
  unfold polysE at hE'
  clear ji jz0 jz1 jz2
  cases hst : stB wd jn cp ml ph D with
  | false =>
    rw [hst, if_pos rfl] at hE'
    have hf := Lib.hid (And.intro hE' (hno.out _ hE' (by decide)))
    rw [hst] at KS
    clear hst hE' h hI
    go_enter Tryz.func13, Tryz.ntmps13
    go_wp2_with (go_at_call 15; (with_reducible refine (keepk (KS.out _ (HB.out.trans hk)) hk).mono ?_); rintro e w1 ⟨rfl, hk⟩)
    go_ret2
    obtain ⟨e1, e2⟩ := hf.out
    rw [e1, e2]
    exact ⟨none, 0, rfl, RwsU.nil _ _, HB.out.trans hk, fun _ => ⟨rfl, rfl⟩⟩
  | true =>
    rw [hst, if_neg (by decide)] at hE'
    rw [hst] at KS
    have hE2 := Lib.hid hE'
    have HPl := Lib.hid (fun w' (hk : Keeps w w') => h.keep hk)
    have HI := Lib.hid (fun w' (hk : Keeps w w') => hI.keep hk)
    have hcl := Lib.hid (fun k => catL_len (wd := wd) (jn := jn) (cp := cp) (ml := ml) (ph := ph) (D := D) (PL.take k) (fun p hp => hL p (List.mem_of_mem_take hp)))
    have hL := Lib.hid hL
    clear hst hE' h hI
    go_enter Tryz.func13, Tryz.ntmps13
    go_wp2_with (go_at_call 15; (with_reducible refine (keepk (KS.out _ (HB.out.trans hk)) hk).mono ?_); rintro e w1 ⟨rfl, hk⟩)
    have hW0s : ((w.alloc (.cells #[.int .i64 wd, .int .i64 jn, .int .i64 cp, .int .i64 ml, .slice Ad nd cd, .int .i64 ph] 27))).heap.size = w.heap.size + 1 := by simp
    generalize (w.alloc (.cells #[.int .i64 wd, .int .i64 jn, .int .i64 cp, .int .i64 ml, .slice Ad nd cd, .int .i64 ph] 27)) = W0 at *
    go_loopw [6, 18] (fun q i wr => ∃ (j : Nat) (Aq : Option Addr) (cq : Nat), j ≤ n ∧ i = .int .i64 j ∧ q = .slice Aq (catL wd jn cp ml ph D (PL.take j)).length cq ∧ Keeps W0 wr ∧ Hid (FRws wr W0.heap.size (.slice Aq (catL wd jn cp ml ph D (PL.take j)).length cq) (catL wd jn cp ml ph D (PL.take j))) ∧ Hid (firstE wd jn cp ml ph D PL = firstE wd jn cp ml ph D (PL.drop j))) (fun _ i _ => n - (intOf i).toNat)
    case atStart => exact ⟨0, none, 0, by omega, rfl, rfl, hk, Lib.hid (FRws.nil _ _), Lib.hid rfl⟩
    case round =>
      clear hk hk0
      obtain ⟨j, Aq, cq, hj, rfl, rfl, hkw, hF, hD⟩ := hrel
      have hlt0 : w.heap.size < wr.heap.size := by have := HB.out.size; have := hkw.size; have := hW0s; omega
      obtain ⟨y0, y1, y2, y3, y4, y5, y6, y7, y8, y9, y10, y11⟩ := HS.out _ hkw
      by_cases hlt : j < n
      · have hlt2 : (j : Int) < n := by omega
        obtain ⟨b, o, rfl, hb, hC⟩ := (HPl.out w (Keeps.refl _)).2.2.2 (by omega)
        obtain ⟨Ak, nk, ck, e0, e1, hPk⟩ := hC j hlt
        have c0 := ((HB.out.trans hkw).cell hb).trans e0
        have c1 := ((HB.out.trans hkw).cell hb).trans e1
        have hmem : PL.getD j pl0 ∈ PL := by rw [List.getD_eq_getElem?_getD, List.getElem?_eq_getElem (by omega)]; exact List.getElem_mem _
        have hpl := hL.out _ hmem
        have hnk := hPk.1
        have hDr := Lib.hid (drop_pl PL j (by omega))
        have hTk := Lib.hid (catL_take (wd := wd) (jn := jn) (cp := cp) (ml := ml) (ph := ph) (D := D) PL j (by omega))
        have hRp := Lib.hid (fun r (h : r ∈ polyL (PL.getD j pl0).1 (PL.getD j pl0).2 wd jn cp ml ph D) => (polyL_ring h).1)
        have hRl := polyL_len (PL.getD j pl0).1 (PL.getD j pl0).2 wd jn cp ml ph D
        have hcj := hcl.out j
        rw [List.length_take] at hcj
        have hcj2 : (catL wd jn cp ml ph D (PL.take j)).length ≤ 160400 := Nat.le_trans hcj (Nat.le_trans (Nat.mul_le_mul_right 802 (show min j PL.length ≤ 200 by omega)) (by omega))
        have KP := Lib.hid (fun w' (hk : Keeps w w') => poly_any (PL.getD j pl0).1 Ak nk ck (PL.getD j pl0).2 wd jn cp ml ph Ad nd cd D w' (hPk.keep hk) (HI.out _ hk) (by omega))
        clear hC e0 e1 hPk hmem hcj
        generalize PL.getD j pl0 = p at *
        obtain ⟨cl, Lk⟩ := p
        dsimp only at *
        have hFs := hF.out
        have hF9 := hF
        generalize catL wd jn cp ml ph D (PL.take j) = LT at *
        by_cases he : polyE cl Lk wd jn cp ml ph D = 0
        · have hD2 := Lib.hid (show firstE wd jn cp ml ph D PL = firstE wd jn cp ml ph D (PL.drop (j + 1)) by rw [hD.out, hDr.out, firstE, if_pos he])
          rw [he] at KP
          generalize polyL cl Lk wd jn cp ml ph D = R at *
          clear hDr hD he
          obtain ⟨VS, hv1, hv2, -⟩ := hFs
          have hv1 := Lib.hid hv1
          have hv2 := Lib.hid hv2
          clear hF
          by_cases hR0 : R.length = 0
          · obtain rfl : R = [] := List.length_eq_zero_iff.1 hR0
            rw [List.append_nil] at hTk
            obtain ⟨ji, jz0, jz1, jz2⟩ := HJ0.out
            go_wp2_with (first | (go_at_call 7; (with_reducible refine (KP.out _ ((HB.out.trans hkw).alloc _)).mono ?_); rintro e w3 ⟨A3, c3, rfl, hR3, hk3, hz3⟩; have hk3w := (Keeps.alloc (Keeps.refl wr) _).trans hk3; obtain ⟨rfl, rfl⟩ := hz3 rfl; have hv3 := Lib.hid (own_keep hv1.out hk3w); have hk3w := Lib.hid hk3w) | (at_builtin; refine wpList_append_own_none rfl _ _ 30 rfl W0.heap.size 22 j0 1 Tryz.underlying30 ji _ _ _ rfl hv3.out rfl ?_) | fail "ARM")
            go_roundw
            case rel => exact ⟨j + 1, Aq, cq, by omega, by go_num, by rw [hTk.out], hkw.trans hk3w.out, Lib.hid (by rw [hTk.out]; exact hF9.out.keep hk3w.out), hD2⟩
            case measure => simp [intOf]; omega
          · have hR1 : 0 < R.length := by omega
            have hR2 : R.length ≤ 802 := by omega
            obtain ⟨ji, jz0, jz1, jz2⟩ := HJ0.out
            go_wp2_with (first | (go_at_call 7; (with_reducible refine (KP.out _ ((HB.out.trans hkw).alloc _)).mono ?_); rintro e w3 ⟨A3, c3, rfl, hR3, hk3, hz3⟩; have hk3w := (Keeps.alloc (Keeps.refl wr) _).trans hk3; obtain ⟨b3, o3, VN, rfl, hVl, hVc, hV1, hVk⟩ := hR3.news hR1 hRp.out; have hv3 := Lib.hid (own_keep hv1.out hk3w); have hs3 := hk3.size; have hk3w := Lib.hid hk3w; have hVc := Lib.hid hVc; have hVk := Lib.hid hVk; have hV1 := Lib.hid hV1; clear hz3 hR3) | (at_builtin; refine wpList_append_lies _ rfl _ _ 30 rfl W0.heap.size 22 j0 (.slice none 0 0) 1 24 Tryz.underlying30 ji jz0 jz1 jz2 rfl (by decide) _ _ VS rfl hv3.out ⟨b3, o3, none⟩ R.length c3 VN rfl (by rw [hVl, Nat.mul_one]) (fun j u hu => by rw [Addr.add_lit]; exact hVc.out j u hu) hV1.out hR1 (by unfold maxLen; omega) (by omega) (Keeps.size (hkw.trans hk3w.out)) w3.heap.size rfl ?_; intro g cap w4 hown4 hgrow hlie hglt; have hSN := Lib.hid (FRws.cat hv3.out (fun k hk => by obtain ⟨Ak, nk, ck, e, hP, hn, hb⟩ := hv2.out k hk; exact ⟨Ak, nk, ck, e, hP.keep hk3w.out, hn, fun a ha => ⟨(hb a ha).1.keep hk3w.out, (hb a ha).2⟩⟩) rfl hR1 hVk.out (Keeps.size (hkw.alloc _)) (fun x hx => by have := (hv1.out.lt x hx).2; simp; omega) hown4 hgrow hlie); have hk4 : Keeps W0 w4 := Below.grown (hkw.trans hk3w.out) hgrow (Keeps.size (hkw.trans hk3w.out)) (fun k hk => (hv3.out.lt k hk).1); clear hgrow hown4 hlie hglt) | fail "ARM")
            go_roundw
            case rel => exact ⟨j + 1, _, _, by omega, by go_num, by rw [hTk.out, List.length_append], hk4, Lib.hid (by rw [hTk.out, List.length_append]; exact hSN.out), hD2⟩
            case measure => simp [intOf]; omega
        · have hq : (polyE cl Lk wd jn cp ml ph D == 0) = false := by rw [beq_eq_false_iff_ne]; exact he
          have hq2 : (polyE cl Lk wd jn cp ml ph D != 0) = true := by simp [he]
          have hfe := Lib.hid (show firstE wd jn cp ml ph D PL = polyE cl Lk wd jn cp ml ph D by rw [hD.out, hDr.out, firstE, if_neg he])
          have hf := Lib.hid (show er = polyE cl Lk wd jn cp ml ph D ∧ RR = [] by
            have h1 := hE2.out
            rw [hfe.out, if_pos he] at h1
            exact ⟨h1, hno.out _ h1 he⟩)
          generalize polyE cl Lk wd jn cp ml ph D = er2 at *
          generalize polyL cl Lk wd jn cp ml ph D = R at *
          clear hD hDr hfe he hFs hF9
          go_wp2_with (go_at_call 7; (with_reducible refine (KP.out _ ((HB.out.trans hkw).alloc _)).mono ?_); rintro e w3 ⟨A3, c3, rfl, hR3, hk3, hz3⟩; have hk3w := (Keeps.alloc (Keeps.refl wr) _).trans hk3)
          go_ret2
          obtain ⟨f1, f2⟩ := hf.out
          rw [f1, f2]
          exact ⟨none, 0, rfl, RwsU.nil _ _, (HB.out.trans hkw).trans hk3w, fun _ => ⟨rfl, rfl⟩⟩
      · obtain rfl : j = n := by omega
        have hlt2 : ¬ (j : Int) < j := by omega
        have hcj := hcl.out j
        rw [List.take_of_length_le (by omega)] at hcj hF ⊢
        rw [List.drop_of_length_le (by omega)] at hD
        have hfe : firstE wd jn cp ml ph D PL = 0 := hD.out
        have hcj2 : (catL wd jn cp ml ph D PL).length ≤ 160400 := Nat.le_trans hcj (Nat.le_trans (Nat.mul_le_mul_right 802 (show PL.length ≤ 200 by omega)) (by omega))
        have hE3 := hE2.out
        rw [hfe, if_neg (by decide)] at hE3
        have hav := catL_all (wd := wd) (jn := jn) (cp := cp) (ml := ml) (ph := ph) (D := D) PL
        have hsh : ∀ r ∈ catL wd jn cp ml ph D PL, r.length ≤ 1000000 := fun r hr => by
          obtain ⟨p, _, h⟩ := catL_mem hr
          have := polyL_short _ _ _ _ _ _ _ _ r h
          omega
        have hyes2 := hyes
        obtain ⟨A2, c2, e2, hRq, hzq⟩ := hF.out.rws
        obtain ⟨rfl, rfl⟩ : Aq = A2 ∧ cq = c2 := by simpa using e2
        have KQ := Lib.hid (points_any Aq (catL wd jn cp ml ph D PL).length cq (catL wd jn cp ml ph D PL) wr hRq.rws (by omega) hsh)
        rw [hav, if_pos rfl] at KQ
        have hRq := Lib.hid hRq
        have hzq := Lib.hid hzq
        generalize catL wd jn cp ml ph D PL = R at *
        clear e2 hF hcl hfe hav hsh hcj hcj2
        by_cases hc : 4096 < cnt R
        · rw [if_pos hc] at hE3
          have hf := Lib.hid (And.intro hE3 (hno.out _ hE3 (by decide)))
          have hci : (4096 : Int) < cnt R := by omega
          clear hE3 hc
          go_wp2_with (go_at_call 16; (with_reducible refine (keepk2 KQ.out hkw).mono ?_); rintro e w5 ⟨rfl, hk5, hkw⟩)
          go_ret2
          obtain ⟨f1, f2⟩ := hf.out
          rw [f1, f2]
          exact ⟨none, 0, rfl, RwsU.nil _ _, HB.out.trans hkw, fun _ => ⟨rfl, rfl⟩⟩
        · rw [if_neg hc] at hE3
          have hf := Lib.hid (And.intro hE3 (hyes2.out hE3))
          have hci : ¬ (4096 : Int) < cnt R := by omega
          clear hE3 hc
          go_wp2_with (go_at_call 16; (with_reducible refine (keepk2 KQ.out hkw).mono ?_); rintro e w5 ⟨rfl, hk5, hkw⟩; have hk5 := Lib.hid hk5)
          go_ret2
          obtain ⟨f1, f2⟩ := hf.out
          rw [f1, f2]
          exact ⟨_, _, rfl, (hRq.out.keep hk5.out).low HB.out.size, HB.out.trans hkw, hzq.out⟩
end
end
end Go.Proofs.YtdodgnpjlicnoaaGreat
