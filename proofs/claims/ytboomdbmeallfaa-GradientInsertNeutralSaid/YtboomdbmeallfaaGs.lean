/- Reference 31's InsertStop. -/
import Derived.Test.YtboomdbmeallfaaGq
import Derived.Test.YtboomdbmeallfaaGg
import Derived.Test.YtboomdbmeallfaaKu
import Derived.Deep.DrawnRows
namespace Go.Proofs.Ytboomdbmeallfaa
section
open Go.RowKit
attribute [local go_sem ↓] Go.wp_at_zero Go.wp_at_succ
set_option linter.unusedVariables false
set_option linter.unusedSimpArgs false
def flip5 (s : St) : St := (65536 - s.1, s.2)
def revS (L : List St) : List St := L.reverse.map flip5
def mirS (L : List St) : List St := if vB L = true then revS L else []
theorem revS_length (L : List St) : (revS L).length = L.length := by unfold revS; simp
theorem revS_get (L : List St) (k : Nat) (h : k < L.length) : (revS L).getD k st0 = flip5 (L.getD (L.length - 1 - k) st0) := by
  unfold revS
  rw [List.getD_eq_getElem?_getD, List.getElem?_map, List.getElem?_reverse h, List.getD_eq_getElem?_getD, List.getElem?_eq_getElem (by omega)]; rfl
theorem revS_ok (L : List St) (h : ∀ s ∈ L, okSt s) : ∀ s ∈ revS L, okSt s := by
  intro s hs
  unfold revS at hs
  obtain ⟨t, ht, rfl⟩ := List.mem_map.1 hs
  exact h t (List.mem_reverse.1 ht)
set_option maxRecDepth 100000 in
set_option maxHeartbeats 1000000 in
/-- slices.Clone of stops: a row of the call's own. -/
theorem clone5_any (A : Option Addr) (n c : Nat) (L : List St) (w : World) (h : Sts w A n c L) (hn : n ≤ 1000000000) :
    Calls Try.prog 46 #[.slice A n c] w fun e w' => ∃ v, e = .returned v ∧ w'.ownsRow w.heap.size 31 5 v n (rowS L) ∧ Keeps w w' := by
  obtain ⟨i0, hi, hz0, hz1, hz2⟩ := info_parts cs_info
  have hl := h.1
  have hPX := Lib.hid h.2.2.2.2
  have hq := fun w A => Go.Lib.run_eql_slice_nil (P := Try.prog) w 25 31 A n c 0 0 Try.underlying25
  cases A with
  | none =>
    obtain rfl : n = 0 := by
      by_cases h0 : 0 < n
      · obtain ⟨b, o, e, _⟩ := hPX.out h0; cases e
      · omega
    obtain rfl : L = [] := List.length_eq_zero_iff.1 hl
    clear h
    go_enter Try.func46, Try.ntmps46
    go_wp2_with fail
    go_ret
    exact ⟨_, rfl, World.ownsRow_nil _ _ _ _, Keeps.refl _⟩
  | some ad =>
    have hnews : ∀ w', Keeps w w' → ∀ j u, (rowS L)[j]? = some u → w'.cell? (ad.add j) = some u := by
      intro w' hk j u hu
      have hj := (List.getElem?_eq_some_iff.1 hu).1
      rw [rowS_length, hl] at hj
      obtain ⟨b, o, e, hb, hx⟩ := hPX.out (by omega)
      obtain rfl : ad = ⟨b, o, none⟩ := by simpa using e
      have hq : j = j / 5 * 5 + j % 5 := by omega
      have hm : j % 5 < 5 := Nat.mod_lt _ (by omega)
      rw [hq, rowS_get L (j / 5) (j % 5) (by omega) hm] at hu
      obtain ⟨q0, q1, q2, q3, q4⟩ := (hx (j / 5) (by omega)).keep hb hk
      rw [Addr.add_lit, hq]
      rcases (show j % 5 = 0 ∨ j % 5 = 1 ∨ j % 5 = 2 ∨ j % 5 = 3 ∨ j % 5 = 4 by omega) with h2 | h2 | h2 | h2 | h2 <;>
        (rw [h2] at hu ⊢; simp [stV] at hu; rw [← hu, ← Nat.add_assoc]; assumption)
    have hNews := Lib.hid hnews
    clear h hnews
    go_enter Try.func46, Try.ntmps46
    go_wp2_with (at_builtin; refine wpList_append_own _ rfl _ _ 25 rfl w.heap.size 31 i0 (.agg #[.int .i64 0, .int .u8 0, .int .u8 0, .int .u8 0, .int .u8 0]) 5 16 Try.underlying25 hi hz0 hz1 hz2 rfl (by decide) _ 0 [] rfl (World.ownsRow_lit w #[] 0 (Nat.le_refl _) (by unfold maxLen; omega) (by simp)) ad n c (rowS L) rfl (by rw [rowS_length, hl]) (hNews.out _ ((Keeps.refl _).alloc _)) (oneCell_rowS L) (by unfold maxLen; omega) (by omega) (by simp) ?_; intro v1 w1 hown1 hgrow1 hz9; clear hz9; have hk1 : Keeps w w1 := Below.grown (Keeps.alloc (Keeps.refl w) _) hgrow1 (by simp) (fun k hk => by simp [Act.eval, Value.ownBlock] at hk; omega); clear hgrow1; rw [List.nil_append, Nat.zero_add] at hown1)
    go_ret
    exact ⟨_, rfl, hown1, hk1⟩
set_option maxRecDepth 100000 in
set_option maxHeartbeats 4000000 in
theorem rrev5_any (A : Option Addr) (n c : Nat) (L : List St) (w : World) (h : Sts w A n c L) (hn : n ≤ 1000) :
    Calls Try.prog 35 #[.slice A n c] w fun e w' => ∃ A' c', e = .returned (.slice A' (mirS L).length c') ∧ Sts w' A' (mirS L).length c' (mirS L) ∧ Keeps w w' := by
  obtain ⟨i0, hi, hz0, hz1, hz2⟩ := info_parts cs_info
  have hl := h.1
  have KV := Lib.hid (fun w' (hk : Keeps w w') => rvalid31_any A n c L w' (h.keep hk))
  have HA := Lib.hid h
  have hni : (n : Int) ≤ 1000 := by omega
  clear h
  cases hv : vB L with
  | false =>
    rw [hv] at KV
    have e : mirS L = [] := by unfold mirS; rw [hv, if_neg (by decide)]
    rw [e]
    clear e hv HA
    go_enter Try.func35, Try.ntmps35
    go_wp2_with fail
    go_loopw [3, 4] (fun v i wr => i = .int .i64 ((n : Int) - 1) ∧ v = .slice (some ⟨w.heap.size, 0, none⟩) 0 0 ∧ Keeps w wr) (fun _ i _ => 0)
    case atStart => exact ⟨by go_num, rfl, (Keeps.refl _).alloc _⟩
    case round =>
      obtain ⟨rfl, rfl, hkw⟩ := hrel
      by_cases h0 : 0 < n
      · have h1 : (0 : Int) ≤ (n : Int) - 1 := by omega
        go_wp2_with (go_at_call 22; (with_reducible refine (KV.out _ hkw).mono ?_); rintro e w1 ⟨rfl, hk⟩)
        go_ret
        exact ⟨_, _, rfl, ⟨rfl, Nat.le_refl _, Nat.zero_le _, (fun s hs => by cases hs), fun h => absurd h (by simp)⟩, hkw.trans hk⟩
      · obtain rfl : n = 0 := by omega
        go_wp2_with fail
        go_ret
        exact ⟨_, _, rfl, ⟨rfl, Nat.le_refl _, Nat.zero_le _, (fun s hs => by cases hs), fun h => absurd h (by simp)⟩, hkw⟩
  | true =>
    rw [hv] at KV
    have e : mirS L = revS L := by unfold mirS; rw [hv, if_pos rfl]
    rw [e, revS_length, hl]
    obtain ⟨-, -, -, hrg⟩ := vB_range hv
    have hRg := Lib.hid hrg
    have hRl := Lib.hid ((revS_length L).trans hl)
    have hRo := Lib.hid (revS_ok L HA.out.2.2.2.1)
    have hRG := Lib.hid (revS_get L)
    clear e hv hrg
    go_enter Try.func35, Try.ntmps35
    go_wp2_with fail
    go_loopw [3, 4] (fun v i wr => ∃ j : Nat, j ≤ n ∧ i = .int .i64 ((n : Int) - 1 - j) ∧ Keeps w wr ∧ wr.ownsRow w.heap.size 31 5 v j (rowS ((revS L).take j))) (fun _ i _ => (intOf i + 1).toNat)
    case atStart => exact ⟨0, by omega, by go_num, (Keeps.refl _).alloc _, World.ownsRow_lit w #[] 0 (Nat.le_refl _) (by unfold maxLen; omega) (by simp)⟩
    case round =>
      obtain ⟨j, hj, rfl, hkw, hown⟩ := hrel
      by_cases hlt : j < n
      · rename World => wo
        obtain ⟨q, hq⟩ : ∃ q : Nat, (n : Int) - 1 - j = q := ⟨n - 1 - j, by omega⟩
        rw [hq]
        have hqn : q < n := by omega
        have hqn2 : (q : Int) < n := by omega
        obtain ⟨b, o, rfl, hb, hC⟩ := HA.out.2.2.2.2 (by omega)
        have hT := Lib.hid ((take_succ' (revS L) j (by rw [hRl.out]; omega)).trans (by rw [hRG.out j (by omega), show L.length - 1 - j = q by omega]))
        have hC := Lib.hid (hC q hqn)
        obtain ⟨r0, r1⟩ := hRg.out q (by omega)
        have hqj : (q : Int) - 1 = (n : Int) - 1 - (j + 1 : Nat) := by omega
        have hq2 : ((q : Int) + 1).toNat = q + 1 := by omega
        generalize L.getD q st0 = s at *
        have hO := Lib.hid hown
        have hb := Lib.hid hb
        have hqj := Lib.hid hqj
        clear hown hq
        go_wp2_with (go_at_call 22; (with_reducible refine (KV.out _ hkw).mono ?_); rintro e wi ⟨rfl, hkv⟩)
        have hkI := hkw.trans hkv
        have z0 : ∀ k : KW wi, k.w.cell? ⟨b, o + q * 5, none⟩ = some (.int .i64 s.1) := fun k => (hC.out.keep hb.out (hkI.trans k.keeps)).1
        have z1 : ∀ k : KW wi, k.w.cell? ⟨b, o + q * 5 + 1, none⟩ = some (.int .u8 s.2.1) := fun k => (hC.out.keep hb.out (hkI.trans k.keeps)).2.1
        have z2 : ∀ k : KW wi, k.w.cell? ⟨b, o + q * 5 + 2, none⟩ = some (.int .u8 s.2.2.1) := fun k => (hC.out.keep hb.out (hkI.trans k.keeps)).2.2.1
        have z3 : ∀ k : KW wi, k.w.cell? ⟨b, o + q * 5 + 3, none⟩ = some (.int .u8 s.2.2.2.1) := fun k => (hC.out.keep hb.out (hkI.trans k.keeps)).2.2.2.1
        have z4 : ∀ k : KW wi, k.w.cell? ⟨b, o + q * 5 + 4, none⟩ = some (.int .u8 s.2.2.2.2) := fun k => (hC.out.keep hb.out (hkI.trans k.keeps)).2.2.2.2
        have hkI := Lib.hid hkI
        have hkv := Lib.hid hkv
        clear hkw
        refine wp_region_kept_tail1 (v := ?_) 13 (wi) (by kernel_rfl) (by kernel_rfl) (Keeps.refl _) (Or.inl ⟨by rfl, ?_⟩) (fun _ _ _ h => h) ?_; rotate_left; · (intro w; go_simp; try with_reducible rfl)
        simp only [Act.put, List.setIfInBounds_toArray, List.set_cons_zero, List.set_cons_succ, List.take_succ_cons, List.take_zero, List.drop_succ_cons, List.drop_zero, Nat.reduceSub]
        repeat (first | go_big_quiet_skip | (go_big_quiet_want; go_big_quiet_op; first | go_big_quiet_on | go_big_quiet_call (fail)))
        refine wpQuiet_nil ?_
        rintro w' ⟨k9, rfl⟩
        have hk := k9.keeps
        generalize k9.w = w9 at hk ⊢
        clear k9
        have hkn := Lib.hid (hkI.out.trans hk)
        have hon := Lib.hid (own_keep hO.out (hkv.out.trans hk))
        clear z0 z1 z2 z3 z4 hO
        go_wp2_with (at_builtin; refine wpList_append_own _ rfl _ _ 25 rfl w.heap.size 31 i0 (.agg #[.int .i64 0, .int .u8 0, .int .u8 0, .int .u8 0, .int .u8 0]) 5 16 Try.underlying25 hi hz0 hz1 hz2 rfl (by decide) _ _ _ rfl ((hon.out).alloc _) ⟨w9.heap.size, 0, none⟩ 1 1 (stV (flip5 s)) rfl rfl (five_new _ _ _) (oneCell_stV _) (by unfold maxLen; omega) (by omega) (by have := (hkn.out).size; simp; omega) ?_; intro v1 w1 hown1 hgrow1 hz9; clear hz9; have hk1 := below_own (hkn.out) rfl (hon.out) hgrow1; clear hgrow1; rw [← rowS_one, ← rowS_append] at hown1)
        go_roundw
        case rel => exact ⟨j + 1, by omega, by rw [← hqj.out]; go_num, hk1, by rw [hT.out]; exact hown1⟩
        case measure => simp [intOf]; omega
      · obtain rfl : j = n := by omega
        rw [List.take_of_length_le (by rw [hRl.out]; exact Nat.le_refl _)] at hown
        have hm : (j : Int) - 1 - j = -1 := by omega
        rw [hm]
        obtain ⟨A', c', rfl, hS⟩ := Sts.of_own hown hRl.out hRo.out
        have hS := Lib.hid hS
        clear hown
        go_wp2_with fail
        go_ret
        exact ⟨_, _, rfl, hS.out, hkw⟩
end

section
open Go.RowKit
attribute [local go_sem ↓] Go.wp_at_zero Go.wp_at_succ
set_option linter.unusedVariables false
set_option linter.unusedSimpArgs false
def insE (L : List St) (s : St) : Int := if (0 < L.length ∧ vB L = false) ∨ s.1 < 0 ∨ 65536 < s.1 then 2 else if L.length = 16 then 5 else 0
def insL (L : List St) (s : St) : List St := if insE L s = 0 then ins s L else []
theorem insE_bad {L : List St} {s : St} (h : (0 < L.length ∧ vB L = false) ∨ s.1 < 0 ∨ 65536 < s.1) : insE L s = 2 ∧ insL L s = [] := by
  have e : insE L s = 2 := by unfold insE; rw [if_pos h]
  exact ⟨e, by unfold insL; rw [e, if_neg (by decide)]⟩
theorem insE_full {L : List St} {s : St} (h : ¬ ((0 < L.length ∧ vB L = false) ∨ s.1 < 0 ∨ 65536 < s.1)) (h2 : L.length = 16) : insE L s = 5 ∧ insL L s = [] := by
  have e : insE L s = 5 := by unfold insE; rw [if_neg h, if_pos h2]
  exact ⟨e, by unfold insL; rw [e, if_neg (by decide)]⟩
theorem insE_good {L : List St} {s : St} (h : ¬ ((0 < L.length ∧ vB L = false) ∨ s.1 < 0 ∨ 65536 < s.1)) (h2 : L.length ≠ 16) : insE L s = 0 ∧ insL L s = ins s L := by
  have e : insE L s = 0 := by unfold insE; rw [if_neg h, if_neg h2]
  exact ⟨e, by unfold insL; rw [e, if_pos rfl]⟩
/-- what InsertStop returns -/
def RetI (w : World) (L : List St) (s : St) (e : Ending) (w' : World) : Prop :=
  ∃ A' c', e = .returned (.tuple #[.slice A' (insL L s).length c', .int .i64 (insE L s)]) ∧ Sts w' A' (insL L s).length c' (insL L s) ∧ Keeps w w'
theorem RetI.none {w w' : World} {L : List St} {s : St} {e : Ending} {k : Int} (h : insE L s = k ∧ insL L s = []) (he : e = .returned (.tuple #[.slice Option.none 0 0, .int .i64 k])) (hk : Keeps w w') : RetI w L s e w' := by
  unfold RetI
  rw [h.1, h.2]
  exact ⟨Option.none, 0, he, ⟨rfl, Nat.le_refl _, Nat.zero_le _, (fun s hs => by cases hs), fun h => absurd h (by simp)⟩, hk⟩
set_option maxRecDepth 100000 in
set_option maxHeartbeats 4000000 in
theorem rinsE_any (A : Option Addr) (n c : Nat) (L : List St) (s : St) (w : World) (h : Sts w A n c L) (hs : okSt s) (hbad : (0 < L.length ∧ vB L = false) ∨ s.1 < 0 ∨ 65536 < s.1) :
    Calls Try.prog 33 #[.slice A n c, .agg #[.int .i64 s.1, .int .u8 s.2.1, .int .u8 s.2.2.1, .int .u8 s.2.2.2.1, .int .u8 s.2.2.2.2]] w (RetI w L s) := by
  have HS := Lib.hid (show ∀ w', Keeps (w.alloc (.cells #[.int .i64 s.1, .int .u8 s.2.1, .int .u8 s.2.2.1, .int .u8 s.2.2.2.1, .int .u8 s.2.2.2.2] 31)) w' → w'.cell? ⟨w.heap.size, 0, none⟩ = some (.int .i64 s.1) ∧ w'.frozen? ⟨w.heap.size, 0, none⟩ = false ∧ w'.cell? ⟨w.heap.size, 1, none⟩ = some (.int .u8 s.2.1) ∧ w'.frozen? ⟨w.heap.size, 1, none⟩ = false ∧ w'.cell? ⟨w.heap.size, 2, none⟩ = some (.int .u8 s.2.2.1) ∧ w'.frozen? ⟨w.heap.size, 2, none⟩ = false ∧ w'.cell? ⟨w.heap.size, 3, none⟩ = some (.int .u8 s.2.2.2.1) ∧ w'.frozen? ⟨w.heap.size, 3, none⟩ = false ∧ w'.cell? ⟨w.heap.size, 4, none⟩ = some (.int .u8 s.2.2.2.2) ∧ w'.frozen? ⟨w.heap.size, 4, none⟩ = false from fun w' hk => ⟨(hk.cell (p := ⟨w.heap.size, 0, none⟩) (by first | (simp; done) | (simp; omega))).trans (by simp [go_sem]), (hk.frozen (p := ⟨w.heap.size, 0, none⟩) (by first | (simp; done) | (simp; omega))).trans (by simp [go_sem]), (hk.cell (p := ⟨w.heap.size, 1, none⟩) (by first | (simp; done) | (simp; omega))).trans (by simp [go_sem]), (hk.frozen (p := ⟨w.heap.size, 1, none⟩) (by first | (simp; done) | (simp; omega))).trans (by simp [go_sem]), (hk.cell (p := ⟨w.heap.size, 2, none⟩) (by first | (simp; done) | (simp; omega))).trans (by simp [go_sem]), (hk.frozen (p := ⟨w.heap.size, 2, none⟩) (by first | (simp; done) | (simp; omega))).trans (by simp [go_sem]), (hk.cell (p := ⟨w.heap.size, 3, none⟩) (by first | (simp; done) | (simp; omega))).trans (by simp [go_sem]), (hk.frozen (p := ⟨w.heap.size, 3, none⟩) (by first | (simp; done) | (simp; omega))).trans (by simp [go_sem]), (hk.cell (p := ⟨w.heap.size, 4, none⟩) (by first | (simp; done) | (simp; omega))).trans (by simp [go_sem]), (hk.frozen (p := ⟨w.heap.size, 4, none⟩) (by first | (simp; done) | (simp; omega))).trans (by simp [go_sem])⟩)
  have HB := Lib.hid (show Keeps w (w.alloc (.cells #[.int .i64 s.1, .int .u8 s.2.1, .int .u8 s.2.2.1, .int .u8 s.2.2.2.1, .int .u8 s.2.2.2.2] 31)) from (by (repeat (first | (with_reducible exact Keeps.refl _) | (with_reducible assumption) | (with_reducible refine Keeps.drewN ?_ _) | (with_reducible refine Keeps.drew ?_) | (with_reducible refine Keeps.alloc ?_ _) | (with_reducible refine Keeps.setNew ?_ ?_ _))) <;> (dsimp only; omega)))
  have hk0 := Keeps.refl (w.alloc (.cells #[.int .i64 s.1, .int .u8 s.2.1, .int .u8 s.2.2.1, .int .u8 s.2.2.2.1, .int .u8 s.2.2.2.2] 31))
  have hl := h.1
  have hmx := h.max
  have KV := Lib.hid (fun w' (hk : Keeps w w') => rvalid31_any A n c L w' (h.keep hk))
  have hk := hk0
  have hE := Lib.hid (insE_bad hbad)
  clear h
  by_cases hn : 0 < n
  · have hn2 : (0 : Int) < n := by omega
    cases hv : vB L with
    | false =>
      rw [hv] at KV
      clear hbad hv
      go_enter Try.func33, Try.ntmps33
      go_wp2_with (go_at_call 22; (with_reducible refine (keepk (KV.out _ (HB.out.trans hk)) hk).mono ?_); rintro e wv ⟨rfl, hk⟩; have hj := Keeps.trans HB.out hk; have hk := hk; obtain ⟨y0, y1, y2, y3, y4, y5, y6, y7, y8, y9⟩ := HS.out _ hk)
      go_ret2
      exact RetI.none hE.out rfl (HB.out.trans hk)
    | true =>
      rw [hv] at KV
      have hb2 : s.1 < 0 ∨ 65536 < s.1 := by rcases hbad with h1 | h1
                                             · rw [hv] at h1; exact absurd h1.2 (by decide)
                                             · exact h1
      clear hbad hv
      rcases hb2 with hb2 | hb2
      · have q1 : decide (s.1 < 0) = true := decide_eq_true hb2
        go_enter Try.func33, Try.ntmps33
        go_wp2_with (go_at_call 22; (with_reducible refine (keepk (KV.out _ (HB.out.trans hk)) hk).mono ?_); rintro e wv ⟨rfl, hk⟩; have hj := Keeps.trans HB.out hk; have hk := hk; obtain ⟨y0, y1, y2, y3, y4, y5, y6, y7, y8, y9⟩ := HS.out _ hk)
        go_ret2
        exact RetI.none hE.out rfl (HB.out.trans hk)
      · have q0 : ¬ s.1 < 0 := by omega
        have q1 : decide (s.1 < 0) = false := decide_eq_false q0
        go_enter Try.func33, Try.ntmps33
        go_wp2_with (go_at_call 22; (with_reducible refine (keepk (KV.out _ (HB.out.trans hk)) hk).mono ?_); rintro e wv ⟨rfl, hk⟩; have hj := Keeps.trans HB.out hk; have hk := hk; obtain ⟨y0, y1, y2, y3, y4, y5, y6, y7, y8, y9⟩ := HS.out _ hk)
        go_ret2
        exact RetI.none hE.out rfl (HB.out.trans hk)
  · obtain rfl : n = 0 := by omega
    have hb2 : s.1 < 0 ∨ 65536 < s.1 := by rcases hbad with h1 | h1
                                           · omega
                                           · exact h1
    clear hbad
    rcases hb2 with hb2 | hb2
    · have q1 : decide (s.1 < 0) = true := decide_eq_true hb2
      go_enter Try.func33, Try.ntmps33
      go_wp2_with (go_at_call 22; (with_reducible refine (keepk (KV.out _ (HB.out.trans hk)) hk).mono ?_); rintro e wv ⟨rfl, hk⟩; have hj := Keeps.trans HB.out hk; have hk := hk; obtain ⟨y0, y1, y2, y3, y4, y5, y6, y7, y8, y9⟩ := HS.out _ hk)
      go_ret2
      exact RetI.none hE.out rfl (HB.out.trans hk)
    · have q0 : ¬ s.1 < 0 := by omega
      have q1 : decide (s.1 < 0) = false := decide_eq_false q0
      go_enter Try.func33, Try.ntmps33
      go_wp2_with (go_at_call 22; (with_reducible refine (keepk (KV.out _ (HB.out.trans hk)) hk).mono ?_); rintro e wv ⟨rfl, hk⟩; have hj := Keeps.trans HB.out hk; have hk := hk; obtain ⟨y0, y1, y2, y3, y4, y5, y6, y7, y8, y9⟩ := HS.out _ hk)
      go_ret2
      exact RetI.none hE.out rfl (HB.out.trans hk)
set_option maxRecDepth 100000 in
set_option maxHeartbeats 4000000 in
theorem rinsF_any (A : Option Addr) (n c : Nat) (L : List St) (s : St) (w : World) (h : Sts w A n c L) (hs : okSt s) (hgood : ¬ ((0 < L.length ∧ vB L = false) ∨ s.1 < 0 ∨ 65536 < s.1)) (h16 : L.length = 16) :
    Calls Try.prog 33 #[.slice A n c, .agg #[.int .i64 s.1, .int .u8 s.2.1, .int .u8 s.2.2.1, .int .u8 s.2.2.2.1, .int .u8 s.2.2.2.2]] w (RetI w L s) := by
  have HS := Lib.hid (show ∀ w', Keeps (w.alloc (.cells #[.int .i64 s.1, .int .u8 s.2.1, .int .u8 s.2.2.1, .int .u8 s.2.2.2.1, .int .u8 s.2.2.2.2] 31)) w' → w'.cell? ⟨w.heap.size, 0, none⟩ = some (.int .i64 s.1) ∧ w'.frozen? ⟨w.heap.size, 0, none⟩ = false ∧ w'.cell? ⟨w.heap.size, 1, none⟩ = some (.int .u8 s.2.1) ∧ w'.frozen? ⟨w.heap.size, 1, none⟩ = false ∧ w'.cell? ⟨w.heap.size, 2, none⟩ = some (.int .u8 s.2.2.1) ∧ w'.frozen? ⟨w.heap.size, 2, none⟩ = false ∧ w'.cell? ⟨w.heap.size, 3, none⟩ = some (.int .u8 s.2.2.2.1) ∧ w'.frozen? ⟨w.heap.size, 3, none⟩ = false ∧ w'.cell? ⟨w.heap.size, 4, none⟩ = some (.int .u8 s.2.2.2.2) ∧ w'.frozen? ⟨w.heap.size, 4, none⟩ = false from fun w' hk => ⟨(hk.cell (p := ⟨w.heap.size, 0, none⟩) (by first | (simp; done) | (simp; omega))).trans (by simp [go_sem]), (hk.frozen (p := ⟨w.heap.size, 0, none⟩) (by first | (simp; done) | (simp; omega))).trans (by simp [go_sem]), (hk.cell (p := ⟨w.heap.size, 1, none⟩) (by first | (simp; done) | (simp; omega))).trans (by simp [go_sem]), (hk.frozen (p := ⟨w.heap.size, 1, none⟩) (by first | (simp; done) | (simp; omega))).trans (by simp [go_sem]), (hk.cell (p := ⟨w.heap.size, 2, none⟩) (by first | (simp; done) | (simp; omega))).trans (by simp [go_sem]), (hk.frozen (p := ⟨w.heap.size, 2, none⟩) (by first | (simp; done) | (simp; omega))).trans (by simp [go_sem]), (hk.cell (p := ⟨w.heap.size, 3, none⟩) (by first | (simp; done) | (simp; omega))).trans (by simp [go_sem]), (hk.frozen (p := ⟨w.heap.size, 3, none⟩) (by first | (simp; done) | (simp; omega))).trans (by simp [go_sem]), (hk.cell (p := ⟨w.heap.size, 4, none⟩) (by first | (simp; done) | (simp; omega))).trans (by simp [go_sem]), (hk.frozen (p := ⟨w.heap.size, 4, none⟩) (by first | (simp; done) | (simp; omega))).trans (by simp [go_sem])⟩)
  have HB := Lib.hid (show Keeps w (w.alloc (.cells #[.int .i64 s.1, .int .u8 s.2.1, .int .u8 s.2.2.1, .int .u8 s.2.2.2.1, .int .u8 s.2.2.2.2] 31)) from (by (repeat (first | (with_reducible exact Keeps.refl _) | (with_reducible assumption) | (with_reducible refine Keeps.drewN ?_ _) | (with_reducible refine Keeps.drew ?_) | (with_reducible refine Keeps.alloc ?_ _) | (with_reducible refine Keeps.setNew ?_ ?_ _))) <;> (dsimp only; omega)))
  have hk0 := Keeps.refl (w.alloc (.cells #[.int .i64 s.1, .int .u8 s.2.1, .int .u8 s.2.2.1, .int .u8 s.2.2.2.1, .int .u8 s.2.2.2.2] 31))
  have hl := h.1
  have hmx := h.max
  have KV := Lib.hid (fun w' (hk : Keeps w w') => rvalid31_any A n c L w' (h.keep hk))
  have hk := hk0
  have hE := Lib.hid (insE_full hgood h16)
  clear h
  obtain rfl : n = 16 := by omega
  have hv : vB L = true := by cases e : vB L with
                              | true => rfl
                              | false => exact absurd (Or.inl ⟨by omega, e⟩) hgood
  have q0 : ¬ s.1 < 0 := fun h => hgood (Or.inr (Or.inl h))
  have q2 : ¬ 65536 < s.1 := fun h => hgood (Or.inr (Or.inr h))
  rw [hv] at KV
  clear hgood hv h16
  go_enter Try.func33, Try.ntmps33
  go_wp2_with (go_at_call 22; (with_reducible refine (keepk (KV.out _ (HB.out.trans hk)) hk).mono ?_); rintro e wv ⟨rfl, hk⟩; have hj := Keeps.trans HB.out hk; have hk := hk; obtain ⟨y0, y1, y2, y3, y4, y5, y6, y7, y8, y9⟩ := HS.out _ hk)
  go_ret2
  exact RetI.none hE.out rfl (HB.out.trans hk)
set_option maxRecDepth 100000 in
set_option maxHeartbeats 4000000 in
theorem rinsG_any (A : Option Addr) (n c : Nat) (L : List St) (s : St) (w : World) (h : Sts w A n c L) (hs : okSt s) (hgood : ¬ ((0 < L.length ∧ vB L = false) ∨ s.1 < 0 ∨ 65536 < s.1)) (h16 : L.length ≠ 16) :
    Calls Try.prog 33 #[.slice A n c, .agg #[.int .i64 s.1, .int .u8 s.2.1, .int .u8 s.2.2.1, .int .u8 s.2.2.2.1, .int .u8 s.2.2.2.2]] w (RetI w L s) := by
  have HS := Lib.hid (show ∀ w', Keeps (w.alloc (.cells #[.int .i64 s.1, .int .u8 s.2.1, .int .u8 s.2.2.1, .int .u8 s.2.2.2.1, .int .u8 s.2.2.2.2] 31)) w' → w'.cell? ⟨w.heap.size, 0, none⟩ = some (.int .i64 s.1) ∧ w'.frozen? ⟨w.heap.size, 0, none⟩ = false ∧ w'.cell? ⟨w.heap.size, 1, none⟩ = some (.int .u8 s.2.1) ∧ w'.frozen? ⟨w.heap.size, 1, none⟩ = false ∧ w'.cell? ⟨w.heap.size, 2, none⟩ = some (.int .u8 s.2.2.1) ∧ w'.frozen? ⟨w.heap.size, 2, none⟩ = false ∧ w'.cell? ⟨w.heap.size, 3, none⟩ = some (.int .u8 s.2.2.2.1) ∧ w'.frozen? ⟨w.heap.size, 3, none⟩ = false ∧ w'.cell? ⟨w.heap.size, 4, none⟩ = some (.int .u8 s.2.2.2.2) ∧ w'.frozen? ⟨w.heap.size, 4, none⟩ = false from fun w' hk => ⟨(hk.cell (p := ⟨w.heap.size, 0, none⟩) (by first | (simp; done) | (simp; omega))).trans (by simp [go_sem]), (hk.frozen (p := ⟨w.heap.size, 0, none⟩) (by first | (simp; done) | (simp; omega))).trans (by simp [go_sem]), (hk.cell (p := ⟨w.heap.size, 1, none⟩) (by first | (simp; done) | (simp; omega))).trans (by simp [go_sem]), (hk.frozen (p := ⟨w.heap.size, 1, none⟩) (by first | (simp; done) | (simp; omega))).trans (by simp [go_sem]), (hk.cell (p := ⟨w.heap.size, 2, none⟩) (by first | (simp; done) | (simp; omega))).trans (by simp [go_sem]), (hk.frozen (p := ⟨w.heap.size, 2, none⟩) (by first | (simp; done) | (simp; omega))).trans (by simp [go_sem]), (hk.cell (p := ⟨w.heap.size, 3, none⟩) (by first | (simp; done) | (simp; omega))).trans (by simp [go_sem]), (hk.frozen (p := ⟨w.heap.size, 3, none⟩) (by first | (simp; done) | (simp; omega))).trans (by simp [go_sem]), (hk.cell (p := ⟨w.heap.size, 4, none⟩) (by first | (simp; done) | (simp; omega))).trans (by simp [go_sem]), (hk.frozen (p := ⟨w.heap.size, 4, none⟩) (by first | (simp; done) | (simp; omega))).trans (by simp [go_sem])⟩)
  have HB := Lib.hid (show Keeps w (w.alloc (.cells #[.int .i64 s.1, .int .u8 s.2.1, .int .u8 s.2.2.1, .int .u8 s.2.2.2.1, .int .u8 s.2.2.2.2] 31)) from (by (repeat (first | (with_reducible exact Keeps.refl _) | (with_reducible assumption) | (with_reducible refine Keeps.drewN ?_ _) | (with_reducible refine Keeps.drew ?_) | (with_reducible refine Keeps.alloc ?_ _) | (with_reducible refine Keeps.setNew ?_ ?_ _))) <;> (dsimp only; omega)))
  have hk0 := Keeps.refl (w.alloc (.cells #[.int .i64 s.1, .int .u8 s.2.1, .int .u8 s.2.2.1, .int .u8 s.2.2.2.1, .int .u8 s.2.2.2.2] 31))
  have hl := h.1
  have hmx := h.max
  have KV := Lib.hid (fun w' (hk : Keeps w w') => rvalid31_any A n c L w' (h.keep hk))
  have hk := hk0
  obtain ⟨i0, hi, hz0, hz1, hz2⟩ := info_parts cs_info
  have hE := Lib.hid (insE_good hgood h16)
  have HA := Lib.hid h
  have hOk := Lib.hid (ins_ok s L hs h.2.2.2.1)
  have hLen := Lib.hid (ins_length s L)
  have q0 : ¬ s.1 < 0 := fun h => hgood (Or.inr (Or.inl h))
  have q2 : ¬ 65536 < s.1 := fun h => hgood (Or.inr (Or.inr h))
  have q1 : decide (s.1 < 0) = false := decide_eq_false q0
  have q3 : decide (65536 < s.1) = false := decide_eq_false q2
  have q4 : ((n : Int) == 16) = false := by rw [beq_eq_false_iff_ne]; omega
  clear q0 q2
  have hpl := lead_len L s.1
  have hple := Lib.hid (lead_le L s.1)
  have hpst := Lib.hid (lead_stop L s.1)
  have hme := Lib.hid (mid_end s L)
  rw [hl] at hpl hpst hme
  have hfin : ∀ (v : Value) (w' : World) (B : Nat), Hid (w'.ownsRow B 31 5 v (n + 1) (rowS (ins s L))) → Keeps w w' → RetI w L s (.returned (.tuple #[v, .int .i64 0])) w' := by
    intro v w' B hown hk
    obtain ⟨A', c', rfl, hS⟩ := Sts.of_own hown.out (by rw [hLen.out, hl]) hOk.out
    unfold RetI
    rw [hE.out.1, hE.out.2, hLen.out, hl]
    exact ⟨_, _, rfl, hS, hk⟩
  have hFin := Lib.hid hfin
  clear h hfin hE hOk hLen
  by_cases hn : 0 < n
  · have hn2 : (0 : Int) < n := by omega
    have hv : vB L = true := by cases e : vB L with
                                | true => rfl
                                | false => exact absurd (Or.inl ⟨by omega, e⟩) hgood
    have hn17 : n ≤ 16 := by have := (vB_range hv).2.1; omega
    rw [hv] at KV
    clear hgood hv h16
    generalize lead s.1 L = p at *
    go_enter Try.func33, Try.ntmps33
    go_wp2_with (go_at_call 22; (with_reducible refine (keepk (KV.out _ (HB.out.trans hk)) hk).mono ?_); rintro e wv ⟨rfl, hk⟩; have hj := Keeps.trans HB.out hk; have hk := hk; obtain ⟨y0, y1, y2, y3, y4, y5, y6, y7, y8, y9⟩ := HS.out _ hk)
    refine name_world (fun W hW => ?_)
    have hkW : Keeps w W := by rw [hW]; exact hj.alloc _
    have hsz : wv.heap.size ≤ W.heap.size := by rw [hW]; simp
    have hown0 : W.ownsRow wv.heap.size 31 5 (.slice (some ⟨wv.heap.size, 0, Option.none⟩) 0 0) 0 (rowS []) := by rw [hW]; exact World.ownsRow_lit wv #[] 0 (Nat.le_refl _) (by unfold maxLen; omega) (by simp)
    have hkv0 : Keeps wv W := by rw [hW]; exact (Keeps.refl _).alloc _
    have HS2 := Lib.hid (fun w' (hq : Keeps wv w') => HS.out w' (hk.trans hq))
    have HKW := Lib.hid hj
    have HA2 : Hid (∀ w', Keeps wv w' → ∃ b o, A = some ⟨b, o, Option.none⟩ ∧ ∀ k, k < n → StAt w' b (o + k * 5) (L.getD k st0)) := Lib.hid (fun w' hq => by
      obtain ⟨b, o, e, hb, hC⟩ := HA.out.2.2.2.2 hn
      exact ⟨b, o, e, fun k hk' => (hC k hk').keep hb (HKW.out.trans hq)⟩)
    clear hW hkW hsz hk hj y0 y1 y2 y3 y4 y5 y6 y7 y8 y9 HS HB hk0 HA KV
    go_loopw [6, 7, 8] (fun v d i wr => ∃ j : Nat, j ≤ n ∧ i = .int .i64 j ∧ Keeps wv wr ∧ ((j ≤ p ∧ d = .bool false ∧ Hid (wr.ownsRow wv.heap.size 31 5 v j (rowS (L.take j)))) ∨ (p < j ∧ d = .bool true ∧ Hid (wr.ownsRow wv.heap.size 31 5 v (j + 1) (rowS (mid s L p j)))))) (fun _ _ i _ => n - (intOf i).toNat)
    case atStart => exact ⟨0, by omega, rfl, hkv0, Or.inl ⟨by omega, rfl, by rw [List.take_zero]; exact Lib.hid hown0⟩⟩
    case round =>
      clear hown0 hkv0
      obtain ⟨j, hj, rfl, hkr, hO⟩ := hrel
      rename World => wr
      obtain ⟨x0, -, x1, -, x2, -, x3, -, x4, -⟩ := HS2.out wr hkr
      by_cases hlt : j < n
      · have hlt2 : (j : Int) < n := by omega
        obtain ⟨b, o, rfl, hC⟩ := HA2.out wr hkr
        obtain ⟨c0, c1, c2, c3, c4⟩ := hC j hlt
        clear hC
        rcases hO with ⟨hjp, rfl, hO⟩ | ⟨hjp, rfl, hO⟩
        · by_cases hjp2 : j < p
          · have hle := hple.out j hjp2
            have hT := Lib.hid (take_succ' L j (by omega))
            have t2 : decide (s.1 < (L.getD j st0).1) = false := decide_eq_false (by omega)
            generalize L.getD j st0 = y at *
            go_wp2_with fail
            go_quiet (fail)
            go_wp2_with (at_builtin; refine wpList_append_own _ rfl _ _ 25 rfl wv.heap.size 31 i0 (.agg #[.int .i64 0, .int .u8 0, .int .u8 0, .int .u8 0, .int .u8 0]) 5 16 Try.underlying25 hi hz0 hz1 hz2 rfl (by decide) _ _ _ rfl ((own_drw hO.out _).alloc _) ⟨wr.heap.size, 0, none⟩ 1 1 (stV y) rfl rfl (five_new _ _ _) (oneCell_stV _) (by unfold maxLen; omega) (by omega) (by have := (hkr).size; simp; omega) ?_; intro v1 w1 hown1 hgrow1 hz9; clear hz9; have hk1 := below_own (hkr.drewN _) rfl (own_drw hO.out _) hgrow1; clear hgrow1; rw [← rowS_one, ← rowS_append] at hown1)
            go_roundw
            case rel => exact ⟨j + 1, by omega, by go_num, hk1, Or.inl ⟨by omega, rfl, by rw [hT.out]; exact Lib.hid hown1⟩⟩
            case measure => simp [intOf]; omega
          · obtain rfl : j = p := by omega
            have hgt := hpst.out (by omega)
            have hM0 := Lib.hid (mid_0 s L j (by omega))
            have hM1 := Lib.hid (mid_succ s L j j (Nat.le_refl _) (by omega))
            have t2 : decide (s.1 < (L.getD j st0).1) = true := decide_eq_true hgt
            generalize hgy : L.getD j st0 = y at *
            have hgy := Lib.hid hgy
            go_wp2_with fail
            go_quiet (fail)
            go_upto_region 13 with (at_builtin; refine wpList_append_own _ rfl _ _ 25 rfl wv.heap.size 31 i0 (.agg #[.int .i64 0, .int .u8 0, .int .u8 0, .int .u8 0, .int .u8 0]) 5 16 Try.underlying25 hi hz0 hz1 hz2 rfl (by decide) _ _ _ rfl ((own_drw hO.out _).alloc _) ⟨wr.heap.size, 0, none⟩ 1 1 (stV s) rfl rfl (five_new _ _ _) (oneCell_stV _) (by unfold maxLen; omega) (by omega) (by have := (hkr).size; simp; omega) ?_; intro v1 w1 hown1 hgrow1 hz9; clear hz9; have hk1 := below_own (hkr.drewN _) rfl (own_drw hO.out _) hgrow1; clear hgrow1; rw [← rowS_one, ← rowS_append] at hown1)
            rw [← hM0.out] at hown1
            have hkr1 := hk1
            have hO1 := Lib.hid hown1
            clear hk1 hown1 c0 c1 c2 c3 c4 x0 x1 x2 x3 x4
            rename World => wq
            obtain ⟨b3, o3, e3, hcs⟩ := HA2.out wq hkr1
            injection e3 with e3
            injection e3 with e4 e5
            subst e4 e5
            have hcj := hcs j hlt
            rw [hgy.out] at hcj
            obtain ⟨c0, c1, c2, c3, c4⟩ := hcj
            clear hcs
            go_wp2_with (at_builtin; refine wpList_append_own _ rfl _ _ 25 rfl wv.heap.size 31 i0 (.agg #[.int .i64 0, .int .u8 0, .int .u8 0, .int .u8 0, .int .u8 0]) 5 16 Try.underlying25 hi hz0 hz1 hz2 rfl (by decide) _ _ _ rfl ((hO1.out).alloc _) ⟨wq.heap.size, 0, none⟩ 1 1 (stV y) rfl rfl (five_new _ _ _) (oneCell_stV _) (by unfold maxLen; omega) (by omega) (by have := (hkr1).size; simp; omega) ?_; intro v1 w1 hown1 hgrow1 hz9; clear hz9; have hk1 := below_own (hkr1) rfl (hO1.out) hgrow1; clear hgrow1; rw [← rowS_one, ← rowS_append] at hown1)
            go_roundw
            case rel => exact ⟨j + 1, by omega, by go_num, hk1, Or.inr ⟨by omega, rfl, by rw [hM1.out]; exact Lib.hid hown1⟩⟩
            case measure => simp [intOf]; omega
        · have hM1 := Lib.hid (mid_succ s L p j (by omega) (by omega))
          generalize L.getD j st0 = y at *
          go_wp2_with fail
          go_quiet (fail)
          go_wp2_with (at_builtin; refine wpList_append_own _ rfl _ _ 25 rfl wv.heap.size 31 i0 (.agg #[.int .i64 0, .int .u8 0, .int .u8 0, .int .u8 0, .int .u8 0]) 5 16 Try.underlying25 hi hz0 hz1 hz2 rfl (by decide) _ _ _ rfl ((own_drw hO.out _).alloc _) ⟨wr.heap.size, 0, none⟩ 1 1 (stV y) rfl rfl (five_new _ _ _) (oneCell_stV _) (by unfold maxLen; omega) (by omega) (by have := (hkr).size; simp; omega) ?_; intro v1 w1 hown1 hgrow1 hz9; clear hz9; have hk1 := below_own (hkr.drewN _) rfl (own_drw hO.out _) hgrow1; clear hgrow1; rw [← rowS_one, ← rowS_append] at hown1)
          go_roundw
          case rel => exact ⟨j + 1, by omega, by go_num, hk1, Or.inr ⟨by omega, rfl, by rw [hM1.out]; exact Lib.hid hown1⟩⟩
          case measure => simp [intOf]; omega
      · obtain rfl : j = n := by omega
        rcases hO with ⟨hjp, rfl, hO⟩ | ⟨hjp, rfl, hO⟩
        · obtain rfl : p = j := by omega
          have hM0 := Lib.hid (mid_0 s L p (by omega))
          go_wp2_with (at_builtin; refine wpList_append_own _ rfl _ _ 25 rfl wv.heap.size 31 i0 (.agg #[.int .i64 0, .int .u8 0, .int .u8 0, .int .u8 0, .int .u8 0]) 5 16 Try.underlying25 hi hz0 hz1 hz2 rfl (by decide) _ _ _ rfl ((hO.out).alloc _) ⟨wr.heap.size, 0, none⟩ 1 1 (stV s) rfl rfl (five_new _ _ _) (oneCell_stV _) (by unfold maxLen; omega) (by omega) (by have := (hkr).size; simp; omega) ?_; intro v1 w1 hown1 hgrow1 hz9; clear hz9; have hk1 := below_own (hkr) rfl (hO.out) hgrow1; clear hgrow1; rw [← rowS_one, ← rowS_append] at hown1)
          rw [← hM0.out, hme.out] at hown1
          go_ret2
          exact hFin.out _ _ _ (Lib.hid hown1) (HKW.out.trans hk1)
        · rw [hme.out] at hO
          go_wp2_with fail
          go_ret2
          exact hFin.out _ _ _ hO (HKW.out.trans hkr)
  · obtain rfl : n = 0 := by omega
    obtain rfl : L = [] := List.length_eq_zero_iff.1 hl
    have hi0 : ins s [] = [] ++ [s] := by unfold ins lead; simp
    rw [hi0] at hFin
    have hFin := Lib.hid hFin.out
    clear hgood h16 KV hpl hple hpst hme HA hi0 hl hmx hn
    have hk := hk0
    go_enter Try.func33, Try.ntmps33
    go_wp2_with fail
    have hW0s : ((w.alloc (.cells #[.int .i64 s.1, .int .u8 s.2.1, .int .u8 s.2.2.1, .int .u8 s.2.2.2.1, .int .u8 s.2.2.2.2] 31))).heap.size = w.heap.size + 1 := by simp
    have h0' : ∀ q, q = ((w.alloc (.cells #[.int .i64 s.1, .int .u8 s.2.1, .int .u8 s.2.2.1, .int .u8 s.2.2.2.1, .int .u8 s.2.2.2.2] 31))).heap.size → (((w.alloc (.cells #[.int .i64 s.1, .int .u8 s.2.1, .int .u8 s.2.2.1, .int .u8 s.2.2.2.1, .int .u8 s.2.2.2.2] 31))).alloc (.cells #[] 31)).ownsRow ((w.alloc (.cells #[.int .i64 s.1, .int .u8 s.2.1, .int .u8 s.2.2.1, .int .u8 s.2.2.2.1, .int .u8 s.2.2.2.2] 31))).heap.size 31 5 (.slice (some ⟨q, 0, Option.none⟩) 0 0) 0 (rowS []) := by
      rintro _ rfl
      exact World.ownsRow_lit _ #[] 0 (Nat.le_refl _) (by unfold maxLen; omega) (by simp)
    generalize ((w.alloc (.cells #[.int .i64 s.1, .int .u8 s.2.1, .int .u8 s.2.2.1, .int .u8 s.2.2.2.1, .int .u8 s.2.2.2.2] 31))) = W0 at *
    go_loopw [6, 7, 8] (fun v d i wr => i = .int .i64 0 ∧ d = .bool false ∧ Keeps W0 wr ∧ Hid (wr.ownsRow W0.heap.size 31 5 v 0 (rowS []))) (fun _ _ _ _ => 0)
    case atStart => exact ⟨rfl, rfl, hk0.alloc _, Lib.hid (h0' _ hW0s.symm)⟩
    case round =>
      clear h0' hk0 hk
      obtain ⟨rfl, rfl, hkr, hO⟩ := hrel
      rename World => wr
      obtain ⟨x0, -, x1, -, x2, -, x3, -, x4, -⟩ := HS.out wr hkr
      go_wp2_with (at_builtin; refine wpList_append_own _ rfl _ _ 25 rfl W0.heap.size 31 i0 (.agg #[.int .i64 0, .int .u8 0, .int .u8 0, .int .u8 0, .int .u8 0]) 5 16 Try.underlying25 hi hz0 hz1 hz2 rfl (by decide) _ _ _ rfl ((hO.out).alloc _) ⟨wr.heap.size, 0, none⟩ 1 1 (stV s) rfl rfl (five_new _ _ _) (oneCell_stV _) (by unfold maxLen; omega) (by omega) (by have := (hkr).size; simp; omega) ?_; intro v1 w1 hown1 hgrow1 hz9; clear hz9; have hk1 := below_own (hkr) rfl (hO.out) hgrow1; clear hgrow1; rw [← rowS_one, ← rowS_append] at hown1)
      go_ret2
      exact hFin.out _ _ _ (Lib.hid hown1) (HB.out.trans hk1)
theorem rins_any (A : Option Addr) (n c : Nat) (L : List St) (s : St) (w : World) (h : Sts w A n c L) (hs : okSt s) :
    Calls Try.prog 33 #[.slice A n c, .agg #[.int .i64 s.1, .int .u8 s.2.1, .int .u8 s.2.2.1, .int .u8 s.2.2.2.1, .int .u8 s.2.2.2.2]] w (RetI w L s) := by
  by_cases hb : (0 < L.length ∧ vB L = false) ∨ s.1 < 0 ∨ 65536 < s.1
  · exact rinsE_any A n c L s w h hs hb
  · by_cases h16 : L.length = 16
    · exact rinsF_any A n c L s w h hs hb h16
    · exact rinsG_any A n c L s w h hs hb h16
end
end Go.Proofs.Ytboomdbmeallfaa
