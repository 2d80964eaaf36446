/- Contract of reference 31's SortStops. -/
import Derived.Test.YtboomdbmeallfaaGk
namespace Go.Proofs.Ytboomdbmeallfaa
section
open Go.RowKit
set_option linter.unusedVariables false
set_option linter.unusedSimpArgs false
def stV (s : St) : List Value := [.int .i64 s.1, .int .u8 s.2.1, .int .u8 s.2.2.1, .int .u8 s.2.2.2.1, .int .u8 s.2.2.2.2]
def rowS : List St → List Value
  | [] => []
  | s :: r => stV s ++ rowS r
theorem rowS_append : ∀ (a b : List St), rowS (a ++ b) = rowS a ++ rowS b
  | [], b => rfl
  | s :: r, b => by rw [List.cons_append, rowS, rowS, rowS_append r b, List.append_assoc]
theorem rowS_one (s : St) : rowS [s] = stV s := by simp [rowS]
theorem rowS_length : ∀ (a : List St), (rowS a).length = a.length * 5
  | [] => rfl
  | s :: r => by rw [rowS, List.length_append, rowS_length r, List.length_cons]; simp [stV]; omega
theorem rowS_get : ∀ (L : List St) (k i : Nat), k < L.length → i < 5 → (rowS L)[k * 5 + i]? = (stV (L.getD k st0))[i]?
  | [], k, i, hk, _ => by simp at hk
  | s :: r, 0, i, _, hi => by
    rw [rowS, Nat.zero_mul, Nat.zero_add, List.getElem?_append_left (by simp [stV]; omega)]; rfl
  | s :: r, k + 1, i, hk, hi => by
    rw [rowS, List.getElem?_append_right (by simp [stV]; omega), show (k + 1) * 5 + i - (stV s).length = k * 5 + i by simp [stV]; omega, rowS_get r k i (by simpa using hk) hi]
    rfl
theorem oneCell_stV (s : St) : ∀ u ∈ stV s, u.oneCell' = true := by
  intro u hu
  unfold stV at hu
  simp at hu
  rcases hu with rfl | rfl | rfl | rfl | rfl <;> rfl
theorem Sts.of_own {w : World} {base n : Nat} {e : TypeId} {v : Value} {L : List St} (h : w.ownsRow base e 5 v n (rowS L)) (hl : L.length = n) (ho : ∀ s ∈ L, okSt s) : ∃ A c, v = .slice A n c ∧ Sts w A n c L := by
  obtain ⟨A, c, rfl, h1, h2, h3, h4⟩ := SlA.of_own h
  refine ⟨A, c, rfl, hl, h1, h2, ho, fun hp => ?_⟩
  obtain ⟨b, o, rfl, hb, hx⟩ := h4 hp
  refine ⟨b, o, rfl, hb, fun k hk => ?_⟩
  have g : ∀ i, i < 5 → w.cell? ⟨b, o + (k * 5 + i), none⟩ = (stV (L.getD k st0))[i]? := fun i hi => (hx (k * 5 + i) (by omega)).trans (rowS_get L k i (by omega) hi)
  exact ⟨g 0 (by omega), g 1 (by omega), g 2 (by omega), g 3 (by omega), g 4 (by omega)⟩
theorem five_new (w : World) (s : St) (t : TypeId) : ∀ j x, (stV s)[j]? = some x → (w.alloc (.cells (stV s).toArray t)).cell? ((⟨w.heap.size, 0, none⟩ : Addr).add j) = some x := by
  intro j x hx
  unfold stV at hx ⊢
  match j, hx with
  | 0, hx => simp at hx; subst hx; simp [Addr.add]
  | 1, hx => simp at hx; subst hx; simp [Addr.add]
  | 2, hx => simp at hx; subst hx; simp [Addr.add]
  | 3, hx => simp at hx; subst hx; simp [Addr.add]
  | 4, hx => simp at hx; subst hx; simp [Addr.add]
theorem cs_info : (Try.prog.info? 31).map (fun i => (i.zero, i.size, i.bytes)) = some (some (.agg #[.int .i64 0, .int .u8 0, .int .u8 0, .int .u8 0, .int .u8 0]), 5, 16) := by kernel_rfl
theorem csGuard (op : BinOp) (x y : Operand) (xs ys : Array Value) (w : World) : (eqGuard op 31 x y (.agg xs) (.agg ys)).run Try.prog w = .ok () w := run_eqGuard_agg w op _ x y xs ys (by kernel_rfl)
def eq5 (s t : St) : Bool := (s.1 == t.1) && eq4 s.2.1 s.2.2.1 s.2.2.2.1 s.2.2.2.2 t.2.1 t.2.2.1 t.2.2.2.1 t.2.2.2.2
theorem eq5_refl (s : St) : eq5 s s = true := by unfold eq5; rw [eq4_refl]; simp
theorem eq5_iff (s t : St) : eq5 s t = true ↔ s = t := by
  obtain ⟨a, b, c, d, e⟩ := s
  obtain ⟨a', b', c', d', e'⟩ := t
  unfold eq5 eq4
  simp
theorem csHeld : Try.prog.stoodInHeld 31 = false := by kernel_rfl
theorem csEql (s t : St) (w : World) : (binOp .eql 31 (.agg #[.int .i64 s.1, .int .u8 s.2.1, .int .u8 s.2.2.1, .int .u8 s.2.2.2.1, .int .u8 s.2.2.2.2]) (.agg #[.int .i64 t.1, .int .u8 t.2.1, .int .u8 t.2.2.1, .int .u8 t.2.2.2.1, .int .u8 t.2.2.2.2])).run Try.prog w = .ok (.bool (eq5 s t)) w := by
  have hp := csHeld
  have hp2 := coHeld
  have hu := Try.underlying31
  have hu2 := Try.underlying28
  rw [run_eql_struct]
  simp [go_sem, hp, hu, hp2, hu2]
  unfold eq5 eq4
  by_cases h0 : s.1 = t.1 <;> by_cases h : s.2.1 = t.2.1 <;> by_cases k : s.2.2.1 = t.2.2.1 <;> by_cases l : s.2.2.2.1 = t.2.2.2.1 <;> by_cases m : s.2.2.2.2 = t.2.2.2.2 <;> simp [h0, h, k, l, m]
theorem csNeq (s t : St) (w : World) : (binOp .neq 31 (.agg #[.int .i64 s.1, .int .u8 s.2.1, .int .u8 s.2.2.1, .int .u8 s.2.2.2.1, .int .u8 s.2.2.2.2]) (.agg #[.int .i64 t.1, .int .u8 t.2.1, .int .u8 t.2.2.1, .int .u8 t.2.2.2.1, .int .u8 t.2.2.2.2])).run Try.prog w = .ok (.bool !(eq5 s t)) w := by
  have hp := csHeld
  have hp2 := coHeld
  have hu := Try.underlying31
  have hu2 := Try.underlying28
  rw [run_neq_struct]
  simp [go_sem, hp, hu, hp2, hu2]
  unfold eq5 eq4
  by_cases h0 : s.1 = t.1 <;> by_cases h : s.2.1 = t.2.1 <;> by_cases k : s.2.2.1 = t.2.2.1 <;> by_cases l : s.2.2.2.1 = t.2.2.2.1 <;> by_cases m : s.2.2.2.2 = t.2.2.2.2 <;> simp [h0, h, k, l, m]
set_option maxRecDepth 100000 in
set_option maxHeartbeats 2000000 in
theorem same_any (A B : Option Addr) (n c c2 : Nat) (L : List St) (w : World) (h : Sts w A n c L) (h2 : Sts w B n c2 L) :
    Calls Try.prog 24 #[.slice A n c, .slice B n c2] w fun e w' => e = .returned (.bool true) ∧ Keeps w w' := by
  have g3 := csGuard
  have g5 := csNeq
  have hmx := h.max
  have HA := Lib.hid h.2.2.2.2
  have HB := Lib.hid h2.2.2.2.2
  clear h h2
  go_enter Try.func24, Try.ntmps24
  go_wp2_with fail
  go_loopw [5] (fun i wr => ∃ j : Nat, j ≤ n ∧ i = .int .i64 j ∧ Keeps w wr) (fun i _ => n - (intOf i).toNat)
  case atStart => exact ⟨0, by omega, rfl, Keeps.refl _⟩
  case round =>
    obtain ⟨j, hj, rfl, hkw⟩ := hrel
    by_cases hlt : j < n
    · obtain ⟨b1, o1, rfl, hb1, hc1⟩ := HA.out (by omega)
      obtain ⟨b2, o2, rfl, hb2, hc2⟩ := HB.out (by omega)
      obtain ⟨c0, c1, c2, c3, c4⟩ := (hc1 j hlt).keep hb1 hkw
      obtain ⟨d0, d1, d2, d3, d4⟩ := (hc2 j hlt).keep hb2 hkw
      clear hc1 hc2 HA HB
      have q1 := eq5_refl (L.getD j st0)
      have hlt2 : (j : Int) < n := by omega
      generalize L.getD j st0 = y at *
      go_wp2_with fail
      go_quiet (fail)
      go_wp2_with fail
      go_roundw
      case rel => exact ⟨j + 1, by omega, by go_num, hkw.drewN _⟩
      case measure => simp [intOf]; omega
    · obtain rfl : j = n := by omega
      go_wp2_with fail
      go_ret
      exact ⟨rfl, hkw⟩
end

section
open Go.RowKit
set_option linter.unusedVariables false
set_option linter.unusedSimpArgs false
def ins (s : St) (o : List St) : List St := o.take (lead s.1 o) ++ s :: o.drop (lead s.1 o)
def srt (L : List St) : Nat → List St
  | 0 => []
  | j + 1 => ins (L.getD j st0) (srt L j)
theorem ins_length (s : St) (o : List St) : (ins s o).length = o.length + 1 := by
  have := lead_len o s.1
  unfold ins; simp; omega
theorem srt_length (L : List St) : ∀ j, (srt L j).length = j
  | 0 => rfl
  | j + 1 => by rw [srt, ins_length, srt_length L j]
theorem ins_ok (s : St) (o : List St) (hs : okSt s) (ho : ∀ x ∈ o, okSt x) : ∀ x ∈ ins s o, okSt x := by
  intro x hx
  unfold ins at hx
  rcases List.mem_append.1 hx with h | h
  · exact ho x (List.mem_of_mem_take h)
  · rcases List.mem_cons.1 h with rfl | h
    · exact hs
    · exact ho x (List.mem_of_mem_drop h)
def mid (s : St) (o : List St) (p k : Nat) : List St := o.take p ++ s :: (o.take k).drop p
theorem mid_0 (s : St) (o : List St) (p : Nat) (h : p ≤ o.length) : mid s o p p = o.take p ++ [s] := by
  unfold mid; rw [List.drop_of_length_le (by simp; omega)]
theorem take_succ' (o : List St) (k : Nat) (h : k < o.length) : o.take (k + 1) = o.take k ++ [o.getD k st0] := by
  rw [List.take_succ_eq_append_getElem h, List.getD_eq_getElem?_getD, List.getElem?_eq_getElem h]; rfl
theorem mid_succ (s : St) (o : List St) (p k : Nat) (h : p ≤ k) (hk : k < o.length) : mid s o p (k + 1) = mid s o p k ++ [o.getD k st0] := by
  unfold mid
  rw [take_succ' o k hk, List.drop_append_of_le_length (by simp; omega)]
  simp
theorem mid_end (s : St) (o : List St) : mid s o (lead s.1 o) o.length = ins s o := by
  unfold mid ins; rw [List.take_length]
theorem own_drw {w : World} {b : Nat} {e : TypeId} {k : Nat} {v : Value} {n : Nat} {xs : List Value} (h : w.ownsRow b e k v n xs) (m : Nat) : (w.drewN m).ownsRow b e k v n xs := own_keep h ((Keeps.refl _).drewN _)
set_option maxRecDepth 100000 in
set_option maxHeartbeats 8000000 in
theorem rsort_any (A : Option Addr) (n c : Nat) (L : List St) (w : World) (h : Sts w A n c L) (hn : n ≤ 1000) :
    Calls Try.prog 26 #[.slice A n c] w fun e w' => ∃ A' c', e = .returned (.slice A' n c') ∧ Sts w' A' n c' (srt L n) ∧ Keeps w w' := by
  obtain ⟨i0, hi, hz0, hz1, hz2⟩ := info_parts cs_info
  have hmx := h.max
  have HA := Lib.hid h
  clear h
  go_enter Try.func26, Try.ntmps26
  go_wp2_with fail
  go_loopw [3, 4] (fun v i wr => ∃ (j : Nat) (Ao : Option Addr) (co : Nat), j ≤ n ∧ i = .int .i64 j ∧ v = .slice Ao j co ∧ Keeps w wr ∧ Hid (Sts wr Ao j co (srt L j))) (fun _ i _ => n - (intOf i).toNat)
  case atStart => exact ⟨0, _, _, by omega, rfl, rfl, (Keeps.refl _).alloc _, Lib.hid ⟨rfl, by omega, by unfold maxLen; omega, (fun s hs => by cases hs), (fun h => absurd h (by omega))⟩⟩
  case round =>
    obtain ⟨j, Ao, co, hj, rfl, rfl, hkw, hO⟩ := hrel
    by_cases hlt : j < n
    · rename World => wo
      have hSo := srt_length L j
      have hs := HA.out.ok j
      have hsd := Lib.hid (show srt L (j + 1) = ins (L.getD j st0) (srt L j) from rfl)
      have hLen := ins_length (L.getD j st0) (srt L j)
      have hOk := Lib.hid (ins_ok (L.getD j st0) (srt L j) hs hO.out.2.2.2.1)
      have hSt : Hid (∀ w', Keeps w w' → ∃ b o, A = some ⟨b, o, none⟩ ∧ StAt w' b (o + j * 5) (L.getD j st0)) := Lib.hid (fun w' hk => by
        obtain ⟨b, o, e, hb, hc⟩ := HA.out.2.2.2.2 (by omega)
        exact ⟨b, o, e, (hc j hlt).keep hb hk⟩)
      have hOt : Hid (∀ w', Keeps wo w' → 0 < j → ∃ b o, Ao = some ⟨b, o, none⟩ ∧ ∀ k, k < j → StAt w' b (o + k * 5) ((srt L j).getD k st0)) := Lib.hid (fun w' hk h0 => by
        obtain ⟨b, o, e, hb, hc⟩ := hO.out.2.2.2.2 h0
        exact ⟨b, o, e, fun k hk' => (hc k hk').keep hb hk⟩)
      generalize srt L j = O at *
      generalize L.getD j st0 = s at *
      have hpl := lead_len O s.1
      have hple := Lib.hid (lead_le O s.1)
      have hpst := Lib.hid (lead_stop O s.1)
      have hme := Lib.hid (mid_end s O)
      rw [hSo] at hpl hpst hme
      generalize lead s.1 O = p at *
      have hlt2 : (j : Int) < n := by omega
      have hj1000 : (j : Int) ≤ 1000 := by omega
      clear hO
      obtain ⟨bs, os, rfl, x0, x1, x2, x3, x4⟩ := hSt.out wo hkw
      clear x0 x1 x2 x3 x4
      go_wp2_with fail
      go_loopw [5, 6] (fun v i wr => ∃ k : Nat, k ≤ p ∧ i = .int .i64 k ∧ Keeps wo wr ∧ wr.ownsRow wo.heap.size 31 5 v k (rowS (O.take k))) (fun _ i _ => p - (intOf i).toNat)
      case atStart => exact ⟨0, by omega, rfl, (Keeps.refl _).alloc _, World.ownsRow_lit wo #[] 0 (Nat.le_refl _) (by unfold maxLen; omega) (by simp)⟩
      case round =>
        obtain ⟨k, hk, rfl, hkv, hown⟩ := hrel
        obtain ⟨b2, o2, e2, x0, x1, x2, x3, x4⟩ := hSt.out wr (hkw.trans hkv)
        injection e2 with e2
        injection e2 with e3 e4
        subst e3 e4
        by_cases hkp : k < p
        · obtain ⟨b1, o1, rfl, hcs⟩ := hOt.out wr hkv (by omega)
          obtain ⟨c0, c1, c2, c3, c4⟩ := hcs k (by omega)
          clear hcs
          have hle := hple.out k hkp
          have hT := Lib.hid (take_succ' O k (by omega))
          have hkl2 : (k : Int) < j := by omega
          have t1 : decide ((k : Int) < j) = true := decide_eq_true hkl2
          have t2 : decide ((O.getD k st0).1 ≤ s.1) = true := decide_eq_true hle
          generalize O.getD k st0 = y at *
          go_wp2_with fail
          go_quiet (fail)
          go_wp2_with (at_builtin; refine wpList_append_own _ rfl _ _ 25 rfl wo.heap.size 31 i0 (.agg #[.int .i64 0, .int .u8 0, .int .u8 0, .int .u8 0, .int .u8 0]) 5 16 Try.underlying25 hi hz0 hz1 hz2 rfl (by decide) _ _ _ rfl ((own_drw hown _).alloc _) ⟨wr.heap.size, 0, none⟩ 1 1 (stV y) rfl rfl (five_new _ _ _) (oneCell_stV _) (by unfold maxLen; omega) (by omega) (by have := (hkv).size; simp; omega) ?_; intro v1 w1 hown1 hgrow1 hz9; clear hz9; have hk1 := below_own (hkv.drewN _) rfl (own_drw hown _) hgrow1; clear hgrow1; rw [← rowS_one, ← rowS_append] at hown1)
          go_roundw
          case rel => exact ⟨k + 1, by omega, by go_num, hk1, by rw [hT.out]; exact hown1⟩
          case measure => simp [intOf]; omega
        · obtain rfl : k = p := by omega
          by_cases hpj : k < j
          · obtain ⟨b1, o1, rfl, hcs⟩ := hOt.out wr hkv (by omega)
            obtain ⟨c0, c1, c2, c3, c4⟩ := hcs k (by omega)
            clear hcs c1 c2 c3 c4
            have hgt := hpst.out hpj
            have hkl2 : (k : Int) < j := by omega
            have t1 : decide ((k : Int) < j) = true := decide_eq_true hkl2
            have t2 : decide ((O.getD k st0).1 ≤ s.1) = false := decide_eq_false (by omega)
            generalize O.getD k st0 = y at *
            go_wp2_with fail
            go_quiet (fail)
            go_wp2_with (at_builtin; refine wpList_append_own _ rfl _ _ 25 rfl wo.heap.size 31 i0 (.agg #[.int .i64 0, .int .u8 0, .int .u8 0, .int .u8 0, .int .u8 0]) 5 16 Try.underlying25 hi hz0 hz1 hz2 rfl (by decide) _ _ _ rfl ((own_drw hown _).alloc _) ⟨wr.heap.size, 0, none⟩ 1 1 (stV s) rfl rfl (five_new _ _ _) (oneCell_stV _) (by unfold maxLen; omega) (by omega) (by have := (hkv).size; simp; omega) ?_; intro v1 w1 hown1 hgrow1 hz9; clear hz9; have hk1 := below_own (hkv.drewN _) rfl (own_drw hown _) hgrow1; clear hgrow1; rw [← rowS_one, ← rowS_append] at hown1)
            go_loopw [5, 6] (fun v i wr => ∃ q : Nat, k ≤ q ∧ q ≤ j ∧ i = .int .i64 q ∧ Keeps wo wr ∧ wr.ownsRow wo.heap.size 31 5 v (q + 1) (rowS (mid s O k q))) (fun _ i _ => j - (intOf i).toNat)
            case atStart => exact ⟨k, Nat.le_refl _, hpl, rfl, hk1, by rw [mid_0 s O k (by omega)]; exact hown1⟩
            case round =>
              clear hown1 hk1
              obtain ⟨q, hpk, hkj, rfl, hkv2, hown2⟩ := hrel
              by_cases hkl : q < j
              · obtain ⟨b3, o3, e3, hcs⟩ := hOt.out wr hkv2 (by omega)
                injection e3 with e3
                injection e3 with e4 e5
                subst e4 e5
                obtain ⟨c0, c1, c2, c3, c4⟩ := hcs q hkl
                clear hcs
                have hT := Lib.hid (mid_succ s O k q hpk (by omega))
                have hkl2 : (q : Int) < j := by omega
                generalize O.getD q st0 = y at *
                go_wp2_with (at_builtin; refine wpList_append_own _ rfl _ _ 25 rfl wo.heap.size 31 i0 (.agg #[.int .i64 0, .int .u8 0, .int .u8 0, .int .u8 0, .int .u8 0]) 5 16 Try.underlying25 hi hz0 hz1 hz2 rfl (by decide) _ _ _ rfl ((hown2).alloc _) ⟨wr.heap.size, 0, none⟩ 1 1 (stV y) rfl rfl (five_new _ _ _) (oneCell_stV _) (by unfold maxLen; omega) (by omega) (by have := (hkv2).size; simp; omega) ?_; intro v1 w1 hown1 hgrow1 hz9; clear hz9; have hk1 := below_own (hkv2) rfl (hown2) hgrow1; clear hgrow1; rw [← rowS_one, ← rowS_append] at hown1)
                go_roundw
                case rel => exact ⟨q + 1, by omega, by omega, by go_num, hk1, by rw [hT.out]; exact hown1⟩
                case measure => simp [intOf]; omega
              · obtain rfl : q = j := by omega
                rw [hme.out] at hown2
                obtain ⟨A', c', rfl, hS⟩ := Sts.of_own hown2 (by omega) hOk.out
                have hS := Lib.hid hS
                clear hown2
                go_wp2_with fail
                go_roundw
                case rel => exact ⟨q + 1, A', c', by omega, by go_num, rfl, hkw.trans hkv2, by rw [hsd.out]; exact hS⟩
                case measure => simp [intOf]; omega
          · obtain rfl : k = j := by omega
            have t1 : decide ((k : Int) < k) = false := decide_eq_false (by omega)
            go_wp2_with fail
            go_quiet (fail)
            go_wp2_with (at_builtin; refine wpList_append_own _ rfl _ _ 25 rfl wo.heap.size 31 i0 (.agg #[.int .i64 0, .int .u8 0, .int .u8 0, .int .u8 0, .int .u8 0]) 5 16 Try.underlying25 hi hz0 hz1 hz2 rfl (by decide) _ _ _ rfl ((own_drw hown _).alloc _) ⟨wr.heap.size, 0, none⟩ 1 1 (stV s) rfl rfl (five_new _ _ _) (oneCell_stV _) (by unfold maxLen; omega) (by omega) (by have := (hkv).size; simp; omega) ?_; intro v1 w1 hown1 hgrow1 hz9; clear hz9; have hk1 := below_own (hkv.drewN _) rfl (own_drw hown _) hgrow1; clear hgrow1; rw [← rowS_one, ← rowS_append] at hown1)
            go_loopw [5, 6] (fun v i wr => ∃ q : Nat, k ≤ q ∧ q ≤ k ∧ i = .int .i64 q ∧ Keeps wo wr ∧ wr.ownsRow wo.heap.size 31 5 v (q + 1) (rowS (mid s O k q))) (fun _ i _ => k - (intOf i).toNat)
            case atStart => exact ⟨k, Nat.le_refl _, (by omega), rfl, hk1, by rw [mid_0 s O k (by omega)]; exact hown1⟩
            case round =>
              clear hown1 hk1
              obtain ⟨q, hpk, hkj, rfl, hkv2, hown2⟩ := hrel
              by_cases hkl : q < k
              · exact absurd hkl (by omega)
              · obtain rfl : q = k := by omega
                rw [hme.out] at hown2
                obtain ⟨A', c', rfl, hS⟩ := Sts.of_own hown2 (by omega) hOk.out
                have hS := Lib.hid hS
                clear hown2
                go_wp2_with fail
                go_roundw
                case rel => exact ⟨q + 1, A', c', by omega, by go_num, rfl, hkw.trans hkv2, by rw [hsd.out]; exact hS⟩
                case measure => simp [intOf]; omega
    · obtain rfl : j = n := by omega
      clear HA
      go_wp2_with fail
      go_ret
      exact ⟨_, _, rfl, hO.out, hkw⟩
end
end Go.Proofs.Ytboomdbmeallfaa
