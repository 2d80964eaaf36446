/- Contract of stroke.points. -/
import Derived.Test.YtdodgnpjlicnoaaGreatKd
import Derived.Test.YtdodgnpjlicnoaaGreatKf
namespace Go.Proofs.YtdodgnpjlicnoaaGreat
section
section
open Go.RowKit
attribute [local go_sem ↓] Go.wp_at_zero Go.wp_at_succ
set_option linter.unusedVariables false
set_option linter.unusedSimpArgs false
theorem ded_short (M : List Pt) (h : M.length < 2) : ded M = M := by
  match M, h with
  | [], _ => rfl
  | [p], _ => rfl
set_option maxHeartbeats 1000000 in
theorem comp_short (B n : Nat) (v : Value) (xs : List Value) (w : World) (hown : w.ownsRow B 37 2 v n xs) (h2 : n < 2) :
    Calls Tryz.prog 35 #[v] w fun e w' => e = .returned v ∧ Keeps w w' := by
  have hx : ∃ A c, v = .slice A n c := by
    rcases hown.2 with ⟨rfl, rfl⟩ | ⟨g, cap, cur, rfl, _⟩
    · exact ⟨_, _, rfl⟩
    · exact ⟨_, _, rfl⟩
  obtain ⟨A, c, rfl⟩ := hx
  have h3 : (n : Int) < 2 := by omega
  clear hown
  go_enter Tryz.func35, Tryz.ntmps35
  go_wp2_with fail
  go_ret
  exact ⟨rfl, Keeps.refl _⟩
theorem comp_any (B n : Nat) (v : Value) (M : List Pt) (w : World) (hown : w.ownsRow B 37 2 v n (rowP M)) (hM : M.length = n) (hn : n ≤ 1000000000000) :
    Calls Tryz.prog 35 #[v] w (CmpR w B M) := by
  by_cases h2 : n < 2
  · refine (comp_short B n v _ w hown h2).mono ?_
    rintro e w' ⟨rfl, hk⟩
    refine ⟨v, rfl, ?_, fun w0 h _ => h.trans hk⟩
    rw [ded_short M (by omega), hM]
    exact own_keep hown hk
  · obtain ⟨g, cap, rfl, _⟩ := own_slice hown (by omega)
    exact compact_any B g cap n M w hown hM hn (by omega)
theorem trim_on (X : List Pt) (h : 1 < X.length) (he : X.getD (X.length - 1) pt0 = X.getD 0 pt0) : trimC X.length X = trimC (X.take (X.length - 1)).length (X.take (X.length - 1)) := by
  have e : (X.take (X.length - 1)).length = X.length - 1 := by rw [List.length_take]; omega
  rw [e]
  obtain ⟨k, hk⟩ : ∃ k, X.length = k + 1 := ⟨X.length - 1, by omega⟩
  conv => lhs; rw [hk, trimC, if_pos ⟨h, he⟩]
  rw [hk, Nat.add_sub_cancel]
theorem trim_off (X : List Pt) (h : ¬ (1 < X.length ∧ X.getD (X.length - 1) pt0 = X.getD 0 pt0)) : trimC X.length X = X := by
  cases hk : X.length with
  | zero => rfl
  | succ k => rw [trimC, if_neg h]
def lenV : Value → Nat
  | .slice _ n _ => n
  | _ => 0
theorem own_len {w : World} {B n size : Nat} {e : TypeId} {v : Value} {xs : List Value} (h : w.ownsRow B e size v n xs) : ∃ A c, v = .slice A n c := by
  rcases h.2 with ⟨rfl, rfl⟩ | ⟨g, cap, cur, rfl, _⟩
  · exact ⟨_, _, rfl⟩
  · exact ⟨_, _, rfl⟩
def RetPl (w0 : World) (cl : Bool) (L : List Pt) (e : Ending) (w' : World) : Prop := ∃ A c, e = .returned (.agg #[.slice A L.length c, .bool cl]) ∧ Pts w' A L.length c L ∧ Keeps w0 w'
set_option maxRecDepth 100000 in
set_option maxHeartbeats 4000000 in
theorem dedup_any (cl : Bool) (A : Option Addr) (n c : Nat) (L : List Pt) (w : World) (h : Pts w A n c L) (hn : n ≤ 1000000000000) :
    Calls Tryz.prog 18 #[.agg #[.slice A n c, .bool cl]] w (RetPl w cl (dedC cl L)) := by
  have hl := h.1
  have hok := dedTo_ok L h.2.2.2.1 L.length (Nat.le_refl _)
  have HS := Lib.hid (show ∀ w', Keeps ((w.alloc (.cells #[.slice A n c, .bool cl] 24)).alloc (.cells #[.slice none 0 0, .bool false] 24)) w' → w'.cell? ⟨w.heap.size, 0, none⟩ = some (.slice A n c) ∧ w'.frozen? ⟨w.heap.size, 0, none⟩ = false ∧ w'.cell? ⟨w.heap.size, 1, none⟩ = some (.bool cl) ∧ w'.frozen? ⟨w.heap.size, 1, none⟩ = false ∧ w'.cell? ⟨w.heap.size + 1, 0, none⟩ = some (.slice none 0 0) ∧ w'.frozen? ⟨w.heap.size + 1, 0, none⟩ = false ∧ w'.cell? ⟨w.heap.size + 1, 1, none⟩ = some (.bool false) ∧ w'.frozen? ⟨w.heap.size + 1, 1, none⟩ = false from fun w' hk => ⟨(hk.cell (p := ⟨w.heap.size, 0, none⟩) (by first | (simp; done) | (simp; omega))).trans (by simp [go_sem]), (hk.frozen (p := ⟨w.heap.size, 0, none⟩) (by first | (simp; done) | (simp; omega))).trans (by simp [go_sem]), (hk.cell (p := ⟨w.heap.size, 1, none⟩) (by first | (simp; done) | (simp; omega))).trans (by simp [go_sem]), (hk.frozen (p := ⟨w.heap.size, 1, none⟩) (by first | (simp; done) | (simp; omega))).trans (by simp [go_sem]), (hk.cell (p := ⟨w.heap.size + 1, 0, none⟩) (by first | (simp; done) | (simp; omega))).trans (by simp [go_sem]), (hk.frozen (p := ⟨w.heap.size + 1, 0, none⟩) (by first | (simp; done) | (simp; omega))).trans (by simp [go_sem]), (hk.cell (p := ⟨w.heap.size + 1, 1, none⟩) (by first | (simp; done) | (simp; omega))).trans (by simp [go_sem]), (hk.frozen (p := ⟨w.heap.size + 1, 1, none⟩) (by first | (simp; done) | (simp; omega))).trans (by simp [go_sem])⟩)
  have HB := Lib.hid (show Keeps w ((w.alloc (.cells #[.slice A n c, .bool cl] 24)).alloc (.cells #[.slice none 0 0, .bool false] 24)) from (by (repeat (first | (with_reducible exact Keeps.refl _) | (with_reducible assumption) | (with_reducible refine Keeps.drewN ?_ _) | (with_reducible refine Keeps.drew ?_) | (with_reducible refine Keeps.alloc ?_ _) | (with_reducible refine Keeps.setNew ?_ ?_ _))) <;> (dsimp only; omega)))
  have hk0 := Keeps.refl ((w.alloc (.cells #[.slice A n c, .bool cl] 24)).alloc (.cells #[.slice none 0 0, .bool false] 24))
  have KC := Lib.hid (fun w' (hk : Keeps w w') => clone_any A n c L w' (h.keep hk) hn)
  have KD := Lib.hid (fun B v w' (ho : World.ownsRow w' B 37 2 v n (rowP L)) => comp_any B n v L w' ho hl hn)
  have hdl := dedTo_len L L.length
  have hOk := Lib.hid (show ∀ p ∈ ded L, okP p from hok)
  have hdl := Lib.hid (show (ded L).length ≤ n by rw [← hl]; exact hdl)
  clear h hok
  go_enter Tryz.func18, Tryz.ntmps18
  go_wp2_with (first | (go_at_call 36; (with_reducible refine (KC.out _ HB.out).mono ?_); rintro e w1 ⟨v1, rfl, ho1, hk1⟩; have ho1 := Lib.hid ho1; have hk1 := Lib.hid hk1) | (go_at_call 35; (with_reducible refine (KD.out _ _ _ ho1.out).mono ?_); rintro e w2 ⟨v2, rfl, ho2, hk2⟩; have hk2 := hk2 _ hk1.out (Nat.le_refl _); have ho2 := Lib.hid ho2; have hk2 := Lib.hid hk2))
  have hW0s : (((w.alloc (.cells #[.slice A n c, .bool cl] 24)).alloc (.cells #[.slice none 0 0, .bool false] 24))).heap.size = w.heap.size + 2 := by simp
  have hs0 : Hid (dedC cl L = if cl = true then trimC (ded L).length (ded L) else ded L) := Lib.hid rfl
  generalize ((w.alloc (.cells #[.slice A n c, .bool cl] 24)).alloc (.cells #[.slice none 0 0, .bool false] 24)) = W0 at *
  clear KC KD
  go_loopw [3] (fun i wr => ∃ X : List Pt, Hid (X.length ≤ n) ∧ Hid (wr.ownsRow W0.heap.size 37 2 i X.length (rowP X)) ∧ Keeps W0 wr ∧ Hid (∀ p ∈ X, okP p) ∧ Hid (dedC cl L = if cl = true then trimC X.length X else X)) (fun i _ => lenV i)
  case atStart => exact ⟨ded L, hdl, ho2, hk2.out, hOk, hs0⟩
  case round =>
    clear hk0 ho1 hk1 ho2 hk2 hOk hdl hs0
    obtain ⟨X, hXn, hO, hkw, hOk, hR⟩ := hrel
    obtain ⟨y0, y1, y2, y3, y4, y5, y6, y7⟩ := HS.out _ hkw
    have hend : (cl = true → ¬ (1 < X.length ∧ X.getD (X.length - 1) pt0 = X.getD 0 pt0)) → Hid (dedC cl L = X) := fun hc => Lib.hid (by
      rw [hR.out]
      cases cl with
      | false => rfl
      | true => rw [if_pos rfl]; exact trim_off X (hc rfl))
    obtain ⟨Ai, ci, rfl⟩ := own_len hO.out
    have fin : ∀ (wz : World) (hD : dedC cl L = X) (hz : Keeps wr wz), RetPl w cl (dedC cl L) (.returned (.agg #[.slice Ai X.length ci, .bool cl])) ((wz.setCell ⟨w.heap.size + 1, 0, none⟩ (.slice Ai X.length ci)).setCell ⟨w.heap.size + 1, 1, none⟩ (.bool cl)) := fun wz hD hz => by
      rw [hD]
      have ho := own_keep hO.out hz
      have ho := ownsRow_setCell_other ho (a := ⟨w.heap.size + 1, 0, none⟩) (fun e => by have := (ho.lt _ e).1; dsimp only at this; omega) (.slice Ai X.length ci)
      have ho := ownsRow_setCell_other ho (a := ⟨w.heap.size + 1, 1, none⟩) (fun e => by have := (ho.lt _ e).1; dsimp only at this; omega) (.bool cl)
      obtain ⟨A', c', he, hP⟩ := Pts.of_own ho rfl hOk.out
      cases he
      exact ⟨_, _, rfl, hP, (((HB.out.trans hkw).trans hz).setNew (by dsimp only; omega) _).setNew (by dsimp only; omega) _⟩
    have fin := Lib.hid fin
    have n1 := fun (w' : World) (u : Value) => setOff w' (w.heap.size + 1) 0 1 u (by omega)
    have hmi : (X.length : Int) ≤ 1000000000000 := by have := hXn.out; omega
    by_cases hgo : cl = true ∧ 1 < X.length
    · obtain ⟨rfl, h1⟩ := hgo
      obtain ⟨g, cap, hx, hcap, _⟩ := own_slice hO.out (by omega)
      obtain ⟨rfl, rfl⟩ : Ai = some ⟨g, 0, none⟩ ∧ ci = cap := by simpa using hx
      have hOg := hO.out
      have cc := fun i (hi : i < X.length * 2) => (rowAt hOg i hi).2.1
      have rp : ∀ q i, q < X.length → i < 2 → wr.cell? ⟨g, q * 2 + i, none⟩ = (ptV (X.getD q pt0))[i]? := fun q i hk hi => (cc (q * 2 + i) (by omega)).trans (rowP_get X q i (by omega) hi)
      obtain ⟨q, hq⟩ : ∃ q : Nat, X.length = q + 1 := ⟨X.length - 1, by omega⟩
      have c0 := rp q 0 (by omega) (by omega)
      have c1 := rp q 1 (by omega) (by omega)
      have d0 := rp 0 0 (by omega) (by omega)
      have d1 := rp 0 1 (by omega) (by omega)
      rw [Nat.add_zero] at c0
      rw [show 0 * 2 + 0 = 0 from rfl] at d0
      rw [show 0 * 2 + 1 = 1 from rfl] at d1
      have hq1 : (X.length : Int) - 1 = q := by omega
      have hwq : IntKind.i64.wrap (q : Int) = q := i64_in _ (by omega)
      have hqn : (q : Int) < X.length := by omega
      have h0n : (0 : Int) < X.length := by omega
      have ht : decide ((1 : Int) < X.length) = true := decide_eq_true (by omega)
      have hqc : q ≤ ci := by omega
      have hqc2 : (q : Int) ≤ ci := by omega
      have hon := Lib.hid (fun h => trim_on X h1 h)
      have hend := Lib.hid hend
      have hQ := Lib.hid hq
      have hcut := Lib.hid (own_cut hOg (k := q) (by have := hQ.out; omega))
      rw [rowP_take X q (by have := hQ.out; omega)] at hcut
      rw [show X.length - 1 = q by have := hQ.out; omega] at *
      have hOkT := Lib.hid (fun p (hp : p ∈ X.take q) => hOk.out p (List.mem_of_mem_take hp))
      clear hOg cc rp hOk hq hx hcap
      generalize hx1 : X.getD q pt0 = a at *
      generalize hx0 : X.getD 0 pt0 = b at *
      have hX := Lib.hid (And.intro hx1 hx0)
      clear hx1 hx0
      simp only [ptV, List.getElem?_cons_zero, List.getElem?_cons_succ] at c0 c1 d0 d1
      obtain ⟨a0, a1⟩ := a
      obtain ⟨b0, b1⟩ := b
      have hP := fun w => ptEql a0 a1 b0 b1 w
      by_cases he : a0 = b0 ∧ a1 = b1
      · obtain ⟨rfl, rfl⟩ := he
        simp only [beq_self_eq_true, Bool.and_self] at hP
        go_wp2_with fail
        go_quiet (fail)
        go_wp2_with fail
        go_roundw
        case rel =>
          have e := hon.out trivial
          have el : (X.take q).length = q := by rw [List.length_take]; have := hQ.out; omega
          refine ⟨X.take q, Lib.hid (by have := hXn.out; have := hQ.out; omega), Lib.hid ?_, hkw.drewN nq, hOkT, Lib.hid ?_⟩
          · rw [el]; exact own_keep hcut.out ((Keeps.refl _).drewN nq)
          · have := hR.out
            rw [if_pos trivial] at this
            rw [this, e]; first | done | rfl | rw [if_pos trivial]
        case measure => have := hQ.out; simp [lenV]; omega
      · rw [show ((a0 == b0) && (a1 == b1)) = false by simpa using he] at hP
        go_wp2_with fail
        go_quiet (fail)
        go_wp2_with fail
        refine bodyPost_ret (v := .agg #[.slice (some ⟨g, 0, none⟩) X.length ci, .bool true]) (by simp [results, Tryz.results18, go_sem, *]) rfl ?_
        exact fin.out _ (hend.out (fun _ h => he (by injection h.2 with e1 e2; exact ⟨e1, e2⟩))).out ((Keeps.refl _).drewN nq)
    · have hD := hend (fun hc hx => hgo ⟨hc, hx.1⟩)
      clear hend
      cases cl with
      | false =>
        go_wp2_with fail
        go_quiet (fail)
        go_wp2_with fail
        refine bodyPost_ret (v := .agg #[.slice Ai X.length ci, .bool false]) (by simp [results, Tryz.results18, go_sem, *]) rfl ?_
        exact fin.out _ hD.out ((Keeps.refl _).drewN nq)
      | true =>
        have ht : decide ((1 : Int) < X.length) = false := decide_eq_false (fun h => hgo ⟨rfl, by omega⟩)
        go_wp2_with fail
        go_quiet (fail)
        go_wp2_with fail
        refine bodyPost_ret (v := .agg #[.slice Ai X.length ci, .bool true]) (by simp [results, Tryz.results18, go_sem, *]) rfl ?_
        exact fin.out _ hD.out ((Keeps.refl _).drewN nq)
end
end

section
section
open Go.RowKit
attribute [local go_sem ↓] Go.wp_at_zero Go.wp_at_succ
set_option linter.unusedVariables false
set_option linter.unusedSimpArgs false
set_option maxHeartbeats 400000 in
theorem sv1_any (p : Pt) (w : World) :
    Calls Tryz.prog 27 #[.agg #[.int .i64 p.1, .int .i64 p.2]] w fun e w' => e = .returned (.bool (!vP p)) ∧ Keeps w w' := by
  obtain ⟨x, y⟩ := p
  unfold vP
  have K := Lib.hid (fun w => valid_any x y w)
  generalize validB x y = v at *
  go_enter Tryz.func27, Tryz.ntmps27
  go_wp2_with (go_at_call 28; (with_reducible refine (K.out _).mono ?_); rintro e w1 ⟨rfl, hk⟩)
  go_ret
  exact ⟨rfl, ((Keeps.refl _).alloc _).trans hk⟩
set_option maxRecDepth 100000 in
set_option maxHeartbeats 1000000 in
theorem sidxf_any (A : Option Addr) (n c : Nat) (L : List Pt) (w : World) (h : Pts w A n c L) :
    Calls Tryz.prog 46 #[.slice A n c, .func (.func 27) #[] #[]] w fun e w' => e = .returned (.int .i64 (idxV 0 L)) ∧ Keeps w w' := by
  have hl := h.1
  have hmx := h.max
  have HS := Lib.hid h
  clear h
  go_enter Tryz.func46, Tryz.ntmps46
  go_wp2_with fail
  go_loopw [8] (fun i wr => ∃ (j : Nat), j ≤ n ∧ i = .int .i64 j ∧ Keeps w wr ∧ Hid (idxV 0 L = idxV j (L.drop j))) (fun i _ => n - (intOf i).toNat)
  case atStart => exact ⟨0, by omega, rfl, Keeps.refl _, Lib.hid rfl⟩
  case round =>
    obtain ⟨j, hj, rfl, hkw, hR⟩ := hrel
    by_cases hlt : j < n
    · obtain ⟨b, o, rfl, hb, hc⟩ := HS.out.2.2.2.2 (by omega)
      obtain ⟨c0, c1⟩ := (hc j hlt).keep hb hkw
      have hD := Lib.hid (drop_getDQ L j pt0 (by omega))
      rw [hD.out] at hR
      have K := Lib.hid (fun w => sv1_any (L.getD j pt0) w)
      generalize L.getD j pt0 = s at *
      have hlt2 : (j : Int) < n := by omega
      clear hc
      cases hv : vP s with
      | false =>
        rw [hv] at K
        have hf := Lib.hid (show idxV 0 L = (j : Int) by rw [hR.out]; unfold idxV; rw [if_neg (by simp [hv])])
        clear hv
        go_wp2_with (go_at_call 27; (with_reducible refine (K.out _).mono ?_); rintro e w1 ⟨rfl, hk⟩)
        go_ret
        exact ⟨ret_i64 hf.out.symm, hkw.trans hk⟩
      | true =>
        rw [hv] at K
        have hR2 := Lib.hid (show idxV 0 L = idxV (j + 1) (L.drop (j + 1)) by rw [hR.out, idxV, if_pos hv])
        clear hv
        go_wp2_with (go_at_call 27; (with_reducible refine (K.out _).mono ?_); rintro e w1 ⟨rfl, hk⟩)
        go_roundw
        case rel => exact ⟨j + 1, by omega, by go_num, hkw.trans hk, hR2⟩
        case measure => simp [intOf]; omega
    · obtain rfl : j = n := by omega
      have hf := Lib.hid (show idxV 0 L = -1 by rw [hR.out, List.drop_of_length_le (by omega)]; rfl)
      go_wp2_with fail
      go_ret
      exact ⟨ret_i64 hf.out.symm, hkw⟩
set_option maxHeartbeats 400000 in
theorem scontf_any (A : Option Addr) (n c : Nat) (L : List Pt) (w : World) (h : Pts w A n c L) :
    Calls Tryz.prog 26 #[.slice A n c, .func (.func 27) #[] #[]] w fun e w' => e = .returned (.bool (!L.all vP)) ∧ Keeps w w' := by
  have K := Lib.hid (sidxf_any A n c L w h)
  have hi := Lib.hid (idxV_all L 0)
  generalize idxV 0 L = x at *
  go_enter Tryz.func26, Tryz.ntmps26
  go_wp2_with (go_at_call 46; (with_reducible refine K.out.mono ?_); rintro e w1 ⟨rfl, hk⟩)
  go_ret
  refine ⟨ret_bool ?_, hk⟩
  have := hi.out
  cases h : L.all vP <;> simp_all

theorem cnt_take (LL : List (List Pt)) (k : Nat) (h : k < LL.length) : cnt (LL.take (k + 1)) = cnt (LL.take k) + (LL.getD k []).length := by
  rw [takeLL_succ LL k h]; unfold cnt; simp
theorem allV_take (LL : List (List Pt)) (k : Nat) (h : k < LL.length) : allV (LL.take (k + 1)) = (allV (LL.take k) && (LL.getD k []).all vP) := by
  rw [takeLL_succ LL k h]; unfold allV; simp
theorem allV_part (LL : List (List Pt)) (k : Nat) (h : k < LL.length) (hv : (LL.getD k []).all vP = false) : allV LL = false := by
  unfold allV
  rw [List.all_eq_false]
  refine ⟨LL.getD k [], ?_, by rw [hv]; decide⟩
  rw [List.getD_eq_getElem?_getD, List.getElem?_eq_getElem h]; exact List.getElem_mem h
theorem cnt_le (M : Nat) : ∀ (LL : List (List Pt)), (∀ r ∈ LL, r.length ≤ M) → cnt LL ≤ LL.length * M
  | [], _ => by simp [cnt]
  | r :: rs, h => by
    have h1 := h r (by simp)
    have h2 := cnt_le M rs (fun x hx => h x (by simp [hx]))
    unfold cnt at h2 ⊢
    rw [List.map_cons, List.sum_cons, List.length_cons, Nat.add_mul]; omega
set_option maxRecDepth 100000 in
set_option maxHeartbeats 1000000 in
theorem points_any (A : Option Addr) (n c : Nat) (LL : List (List Pt)) (w : World) (h : Rws w A n c LL) (hn : n ≤ 1000000) (hM : ∀ r ∈ LL, r.length ≤ 1000000) :
    Calls Tryz.prog 16 #[.slice A n c] w fun e w' => e = .returned (.tuple #[.int .i64 (if allV LL = true then (cnt LL : Int) else 0), .bool (allV LL)]) ∧ Keeps w w' := by
  have hl := h.1
  have hni : (n : Int) ≤ 1000000 := by omega
  have HS := Lib.hid h
  have hC := Lib.hid (fun k => (cnt_le 1000000 (LL.take k) (fun r hr => hM r (List.mem_of_mem_take hr))))
  have hM := Lib.hid hM
  obtain ⟨vx, bx, hv1, hv2⟩ : ∃ (vx : Int) (bx : Bool), Hid (vx = if allV LL = true then (cnt LL : Int) else 0) ∧ Hid (bx = allV LL) := ⟨_, _, Lib.hid rfl, Lib.hid rfl⟩
  rw [← hv1.out, ← hv2.out]
  clear h
  go_enter Tryz.func16, Tryz.ntmps16
  go_wp2_with fail
  go_loopw [4, 9] (fun a i wr => ∃ (j x : Nat), j ≤ n ∧ i = .int .i64 j ∧ a = .int .i64 x ∧ Keeps w wr ∧ Hid (x = cnt (LL.take j) ∧ allV (LL.take j) = true)) (fun _ i _ => n - (intOf i).toNat)
  case atStart => exact ⟨0, 0, by omega, rfl, rfl, Keeps.refl _, Lib.hid ⟨rfl, rfl⟩⟩
  case round =>
    obtain ⟨j, x, hj, rfl, rfl, hkw, hR⟩ := hrel
    have hxb : x ≤ 1000000000000 := by
      have h1 := hC.out j
      have h2 := hR.out.1
      rw [List.length_take] at h1
      have h3 : min j LL.length * 1000000 ≤ 1000000 * 1000000 := Nat.mul_le_mul_right _ (by omega)
      omega
    have hxi : (x : Int) ≤ 1000000000000 := by omega
    by_cases hlt : j < n
    · obtain ⟨b, o, rfl, hb, hc⟩ := HS.out.2.2.2 (by omega)
      obtain ⟨Ak, nk, ck, c0, hP, hnk⟩ := hc j hlt
      have c0 := (hkw.cell hb).trans c0
      have hP := hP.keep hkw
      have hnl := hP.1
      have hnM : nk ≤ 1000000 := by
        rw [← hnl]; refine hM.out _ ?_
        rw [List.getD_eq_getElem?_getD, List.getElem?_eq_getElem (by omega)]; exact List.getElem_mem _
      have hni : (nk : Int) ≤ 1000000 := by omega
      have K := Lib.hid (scontf_any Ak nk ck _ wr hP)
      have hT := Lib.hid (cnt_take LL j (by omega))
      have hV := Lib.hid (allV_take LL j (by omega))
      have hF := Lib.hid (allV_part LL j (by omega))
      clear hP hc
      generalize LL.getD j [] = s at *
      have hlt2 : (j : Int) < n := by omega
      cases hv : s.all vP with
      | false =>
        rw [hv] at K
        have hf := Lib.hid (hF.out hv)
        clear hv
        go_wp2_with (go_at_call 26; (with_reducible refine K.out.mono ?_); rintro e w1 ⟨rfl, hk⟩)
        go_ret2
        refine ⟨?_, hkw.trans hk⟩
        rw [hv1.out, hv2.out]
        simp [hf.out]
      | true =>
        rw [hv] at K
        have hR2 := Lib.hid (show x + nk = cnt (LL.take (j + 1)) ∧ allV (LL.take (j + 1)) = true from ⟨by rw [hT.out, hR.out.1, hnl], by rw [hV.out, hR.out.2, hv]; rfl⟩)
        clear hv
        go_wp2_with (go_at_call 26; (with_reducible refine K.out.mono ?_); rintro e w1 ⟨rfl, hk⟩)
        go_roundw
        case rel => exact ⟨j + 1, x + nk, by omega, by go_num, by go_num, hkw.trans hk, hR2⟩
        case measure => simp [intOf]; omega
    · obtain rfl : j = n := by omega
      have hf := Lib.hid (show x = cnt LL ∧ allV LL = true by have := hR.out; rw [List.take_of_length_le (by omega)] at this; exact this)
      go_wp2_with fail
      go_ret2
      refine ⟨?_, hkw⟩
      rw [hv1.out, hv2.out]
      simp [hf.out.2, ← hf.out.1]
end
end
end Go.Proofs.YtdodgnpjlicnoaaGreat
