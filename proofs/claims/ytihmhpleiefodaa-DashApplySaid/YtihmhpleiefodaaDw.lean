/- Contracts of reference 25: runs, OnIntervals. -/
import Derived.Test.YtihmhpleiefodaaE25
namespace Go.Proofs.Ytihmhpleiefodaa
open Go.RowKit Go.Shelf
attribute [local go_sem ↓] Go.wp_at_zero Go.wp_at_succ
set_option linter.unusedVariables false
set_option linter.unusedSimpArgs false
theorem pair_info2 : (Try.prog.info? 36).map (fun i => (i.zero, i.size, i.bytes)) = some (some (.agg #[.int .i64 0, .int .i64 0]), 2, 16) := by kernel_rfl
theorem prGuard (op : BinOp) (x y : Operand) (xs ys : Array Value) (w : World) : (eqGuard op 36 x y (.agg xs) (.agg ys)).run Try.prog w = .ok () w := run_eqGuard_agg w op _ x y xs ys (by kernel_rfl)
theorem prEqual (x y z t : Int) (w : World) : (Op.equalIn 10000 36 (.agg #[.int .i64 x, .int .i64 y]) (.agg #[.int .i64 z, .int .i64 t])).run Try.prog w = .ok ((x == z) && (y == t)) w := by
  have ht := Try.underlying36
  have he := Try.underlying3
  have hsz : ∀ w, (sizeOf 3).run Try.prog w = .ok 1 w := fun w => by kernel_rfl
  have e1 : (Op.equalIn 9999 3 (.int .i64 x) (.int .i64 z)).run Try.prog w = .ok (x == z) w := by rw [show 9999 = 9998 + 1 from rfl, run_equalIn_int w 9998 _ .i64 .i64 x z he]
  have e2 : (Op.equalIn 9999 3 (.int .i64 y) (.int .i64 t)).run Try.prog w = .ok (y == t) w := by rw [show 9999 = 9998 + 1 from rfl, run_equalIn_int w 9998 _ .i64 .i64 y t he]
  rw [show (10000 : Nat) = 9999 + 1 from rfl, Op.equalIn]
  simp only [Sem.run_bind, run_underlying ht, Result.andThen_ok, hsz, Std.Legacy.Range.forIn_eq_forIn_range', Std.Legacy.Range.size, Nat.sub_zero, Nat.add_sub_cancel, Nat.div_one]
  have p1 : (part 3 #[Value.int .i64 x, .int .i64 y] 0).run Try.prog w = .ok (.int .i64 x) w := by simp [part, isAgg, run_underlying he]
  have p2 : (part 3 #[Value.int .i64 x, .int .i64 y] 1).run Try.prog w = .ok (.int .i64 y) w := by simp [part, isAgg, run_underlying he]
  have p3 : (part 3 #[Value.int .i64 z, .int .i64 t] 0).run Try.prog w = .ok (.int .i64 z) w := by simp [part, isAgg, run_underlying he]
  have p4 : (part 3 #[Value.int .i64 z, .int .i64 t] 1).run Try.prog w = .ok (.int .i64 t) w := by simp [part, isAgg, run_underlying he]
  rw [show List.range' 0 2 1 = [0, 1] from rfl]
  simp only [List.forIn_cons, Sem.run_bind, Nat.zero_mul, Nat.one_mul, p1, p3, e1, Result.andThen_ok]
  cases (x == z) with
  | false => simp
  | true =>
    simp only [Bool.not_true, Bool.false_eq_true, if_false, Sem.run_pure, Result.andThen_ok, Sem.run_bind, p2, p4, e2]
    cases (y == t) <;> simp
theorem prNeq (x y z t : Int) (w : World) : (binOp .neq 36 (.agg #[.int .i64 x, .int .i64 y]) (.agg #[.int .i64 z, .int .i64 t])).run Try.prog w = .ok (.bool !((x == z) && (y == t))) w := by
  rw [run_neq_struct, prEqual]; rfl
theorem prEql (x y z t : Int) (w : World) : (binOp .eql 36 (.agg #[.int .i64 x, .int .i64 y]) (.agg #[.int .i64 z, .int .i64 t])).run Try.prog w = .ok (.bool ((x == z) && (y == t))) w := by
  rw [run_eql_struct, prEqual]; rfl
theorem Pts.nil' (w : World) (A : Option Addr) (c : Nat) (hc : c ≤ maxLen) : Pts w A 0 c [] := ⟨rfl, Nat.zero_le _, hc, (fun p hp => by cases hp), (fun h => absurd h (by omega))⟩
theorem rowP_last (pre : List (Int × Int)) (s a e : Int) : (rowP (pre ++ [(s, a)])).set (pre.length * 2 + 1) (.int .i64 e) = rowP (pre ++ [(s, e)]) := by
  rw [rowP_append, rowP_append, rowP_one, rowP_one, List.set_append_right _ _ (by rw [rowP_length]; omega), rowP_length, show pre.length * 2 + 1 - pre.length * 2 = 1 by omega]
  rfl
set_option maxRecDepth 100000 in
set_option maxHeartbeats 2000000 in
theorem rall_tot (A : Option Addr) (n c : Nat) (D : List Int) (w : World) (h : Ins w A n c D) :
    Calls Try.prog 52 #[.slice A n c] w fun e w' => (∃ a b : Int, e = .returned (.tuple #[.int .i64 a, .int .i64 b])) ∧ Keeps w w' := by
  have hl := h.1
  have hmx := h.max
  have HI := Lib.hid h
  clear h
  go_enter Try.func52, Try.ntmps52
  go_wp2_with fail
  go_loopw [4, 5, 6] (fun s u i wr => ∃ (j : Nat) (a b : Int), j ≤ n ∧ i = .int .i64 j ∧ s = .int .i64 a ∧ u = .int .i64 b ∧ Keeps w wr) (fun _ _ i _ => n - (intOf i).toNat)
  case atStart => exact ⟨0, 0, 0, by omega, rfl, rfl, rfl, Keeps.refl _⟩
  case round =>
    obtain ⟨j, a, b, hj, rfl, rfl, rfl, hkw⟩ := hrel
    by_cases hlt : j < n
    · obtain ⟨bb, o, rfl, hb, hc⟩ := HI.out.at hlt
      have c0 := (hkw.cell (p := ⟨bb, o + j, none⟩) hb).trans hc
      have hlt2 : (j : Int) < n := by omega
      clear hc
      generalize D.getD j 0 = d at *
      by_cases he : j % 2 = 0
      · have he2 : (j : Int) % 2 = 0 := by omega
        go_wp2_with fail
        go_roundw
        case rel => exact ⟨j + 1, _, _, by omega, by go_num, rfl, rfl, hkw⟩
        case measure => simp [intOf]; omega
      · have he2 : (j : Int) % 2 = 1 := by omega
        go_wp2_with fail
        go_roundw
        case rel => exact ⟨j + 1, _, _, by omega, by go_num, rfl, rfl, hkw⟩
        case measure => simp [intOf]; omega
    · obtain rfl : j = n := by omega
      go_wp2_with fail
      refine bodyPost_ret (v := .tuple #[.int .i64 a, .int .i64 b]) (by simp [results, Try.results52, go_sem, *]) rfl ?_
      exact ⟨⟨_, _, rfl⟩, hkw⟩
/-- The states of reference 25's machine. -/
def StR (on : Int → Bool) (z : Int) (R : List (Int × Int)) (a : Int) (most : Nat) : Prop := (∃ pre s, R = pre ++ [(s, a)] ∧ Open1 on z pre s a ∧ pre.length ≤ most) ∨ (Open0 on z R a ∧ R.length ≤ most ∧ (0 < R.length → (R.getD (R.length - 1) pt0).2 < a))
/-- What reference 25's runs hands back: all intervals, or the first ones of too many. -/
def RrR (w : World) (L : List (Int × Int)) (long : Int) (most : Nat) (e : Ending) (w' : World) : Prop := ∃ (R : List (Int × Int)) (A : Option Addr) (c : Nat), e = .returned (.slice A R.length c) ∧ Pts w' A R.length c R ∧ Keeps w w' ∧
  (R = L ∨ (R.length = most + 1 ∧ most + 1 ≤ L.length ∧ ∀ p ∈ R, 0 ≤ p.1 ∧ p.1 < p.2 ∧ p.2 ≤ long)) ∧ R.length ≤ most + 1
set_option maxRecDepth 100000 in
set_option maxHeartbeats 4000000 in
theorem rruns_any (wd jn cp ml ph long : Int) (A : Option Addr) (n c : Nat) (D : List Int) (most : Nat) (w : World) (h : Ins w A n c D) (hm : most ≤ 1073741824) (hlong : long ≤ 4611686018427387904) :
    Calls Try.prog 35 #[.agg #[.int .i64 wd, .int .i64 jn, .int .i64 cp, .int .i64 ml, .slice A n c, .int .i64 ph], .int .i64 long, .int .i64 most] w (RrR w (onL wd jn cp ml ph D long) long most) := by
  have hl := h.1
  obtain ⟨i0, hi, hz0, hz1, hz2⟩ := info_parts pair_info2
  have HS := Lib.hid (show ∀ w', Keeps (w.alloc (.cells #[.int .i64 wd, .int .i64 jn, .int .i64 cp, .int .i64 ml, .slice A n c, .int .i64 ph] 27)) w' → w'.cell? ⟨w.heap.size, 0, none⟩ = some (.int .i64 wd) ∧ w'.frozen? ⟨w.heap.size, 0, none⟩ = false ∧ w'.cell? ⟨w.heap.size, 1, none⟩ = some (.int .i64 jn) ∧ w'.frozen? ⟨w.heap.size, 1, none⟩ = false ∧ w'.cell? ⟨w.heap.size, 2, none⟩ = some (.int .i64 cp) ∧ w'.frozen? ⟨w.heap.size, 2, none⟩ = false ∧ w'.cell? ⟨w.heap.size, 3, none⟩ = some (.int .i64 ml) ∧ w'.frozen? ⟨w.heap.size, 3, none⟩ = false ∧ w'.cell? ⟨w.heap.size, 4, none⟩ = some (.slice A n c) ∧ w'.frozen? ⟨w.heap.size, 4, none⟩ = false ∧ w'.cell? ⟨w.heap.size, 5, none⟩ = some (.int .i64 ph) ∧ w'.frozen? ⟨w.heap.size, 5, none⟩ = false from fun w' hk => ⟨(hk.cell (p := ⟨w.heap.size, 0, none⟩) (by first | (simp; done) | (simp; omega))).trans (by simp [go_sem]), (hk.frozen (p := ⟨w.heap.size, 0, none⟩) (by first | (simp; done) | (simp; omega))).trans (by simp [go_sem]), (hk.cell (p := ⟨w.heap.size, 1, none⟩) (by first | (simp; done) | (simp; omega))).trans (by simp [go_sem]), (hk.frozen (p := ⟨w.heap.size, 1, none⟩) (by first | (simp; done) | (simp; omega))).trans (by simp [go_sem]), (hk.cell (p := ⟨w.heap.size, 2, none⟩) (by first | (simp; done) | (simp; omega))).trans (by simp [go_sem]), (hk.frozen (p := ⟨w.heap.size, 2, none⟩) (by first | (simp; done) | (simp; omega))).trans (by simp [go_sem]), (hk.cell (p := ⟨w.heap.size, 3, none⟩) (by first | (simp; done) | (simp; omega))).trans (by simp [go_sem]), (hk.frozen (p := ⟨w.heap.size, 3, none⟩) (by first | (simp; done) | (simp; omega))).trans (by simp [go_sem]), (hk.cell (p := ⟨w.heap.size, 4, none⟩) (by first | (simp; done) | (simp; omega))).trans (by simp [go_sem]), (hk.frozen (p := ⟨w.heap.size, 4, none⟩) (by first | (simp; done) | (simp; omega))).trans (by simp [go_sem]), (hk.cell (p := ⟨w.heap.size, 5, none⟩) (by first | (simp; done) | (simp; omega))).trans (by simp [go_sem]), (hk.frozen (p := ⟨w.heap.size, 5, none⟩) (by first | (simp; done) | (simp; omega))).trans (by simp [go_sem])⟩)
  have HB := Lib.hid (show Keeps w (w.alloc (.cells #[.int .i64 wd, .int .i64 jn, .int .i64 cp, .int .i64 ml, .slice A n c, .int .i64 ph] 27)) from (by (repeat (first | (with_reducible exact Keeps.refl _) | (with_reducible assumption) | (with_reducible refine Keeps.drewN ?_ _) | (with_reducible refine Keeps.drew ?_) | (with_reducible refine Keeps.alloc ?_ _) | (with_reducible refine Keeps.setNew ?_ ?_ _))) <;> (dsimp only; omega)))
  have hk0 := Keeps.refl (w.alloc (.cells #[.int .i64 wd, .int .i64 jn, .int .i64 cp, .int .i64 ml, .slice A n c, .int .i64 ph] 27))
  have hk00 := hk0
  have hkL := hk0.alloc (.cells #[] 36)
  have hrL : ((w.alloc (.cells #[.int .i64 wd, .int .i64 jn, .int .i64 cp, .int .i64 ml, .slice A n c, .int .i64 ph] 27)).alloc (.cells #[] 36)).ownsRow (w.heap.size + 1) 36 2 (.slice (some ⟨w.heap.size + 1, 0, none⟩) 0 0) 0 (rowP []) := by
    have := World.ownsRow_lit (base := w.heap.size + 1) (e := 36) (size := 2) (w.alloc (.cells #[.int .i64 wd, .int .i64 jn, .int .i64 cp, .int .i64 ml, .slice A n c, .int .i64 ph] 27)) #[] 0 (by simp) (by unfold maxLen; omega) (by simp)
    rw [World.size_alloc] at this
    exact this
  have KV := Lib.hid (fun w' (hk : Keeps (w.alloc (.cells #[.int .i64 wd, .int .i64 jn, .int .i64 cp, .int .i64 ml, .slice A n c, .int .i64 ph] 27)) w') => keepk (rstyle_any wd jn cp ml ph A n c D w' (h.keep (HB.out.trans hk))) (Keeps.refl w'))
  have HI := Lib.hid h
  clear hk0
  by_cases hl1 : long < 1
  · have HRE := Lib.hid (show onL wd jn cp ml ph D long = [] by unfold onL; rw [if_neg (by rintro ⟨_, h9⟩; omega)])
    have KA := Lib.hid (fun w' (hk : Keeps (w.alloc (.cells #[.int .i64 wd, .int .i64 jn, .int .i64 cp, .int .i64 ml, .slice A n c, .int .i64 ph] 27)) w') => rall_tot A n c D w' (h.keep (HB.out.trans hk)))
    have hl1b : decide (long < 1) = true := decide_eq_true hl1
    clear h KV
    go_enter Try.func35, Try.ntmps35
    obtain ⟨y0, y1, y2, y3, y4, y5, y6, y7, y8, y9, y10, y11⟩ := HS.out _ hk00
    go_wp2_with (go_at_call 52; (with_reducible refine (KA.out _ hkL).mono ?_); rintro e w1 ⟨⟨a9, b9, rfl⟩, hk1⟩; have hk0 := hkL.trans hk1; clear y0 y1 y2 y3 y4 y5 y6 y7 y8 y9 y10 y11; obtain ⟨y0, y1, y2, y3, y4, y5, y6, y7, y8, y9, y10, y11⟩ := HS.out _ hk0; have hr1 := row_keep hrL hk1; clear hrL hkL KA)
    go_ret
    exact ⟨[], _, _, rfl, Pts.nil' _ _ _ (by unfold maxLen; omega), HB.out.trans hk0, .inl HRE.out.symm, by simp⟩
  · have hl1b : decide (long < 1) = false := decide_eq_false hl1
    cases hs : stB wd jn cp ml ph D with
    | false =>
      have HRE := Lib.hid (show onL wd jn cp ml ph D long = [] by unfold onL; rw [if_neg (by rw [hs]; simp)])
      have KA := Lib.hid (fun w' (hk : Keeps (w.alloc (.cells #[.int .i64 wd, .int .i64 jn, .int .i64 cp, .int .i64 ml, .slice A n c, .int .i64 ph] 27)) w') => rall_tot A n c D w' (h.keep (HB.out.trans hk)))
      rw [hs] at KV
      clear h hs
      go_enter Try.func35, Try.ntmps35
      obtain ⟨y0, y1, y2, y3, y4, y5, y6, y7, y8, y9, y10, y11⟩ := HS.out _ hk00
      go_wp2_with (first | (go_at_call 52; (with_reducible refine (KA.out _ hkL).mono ?_); rintro e w1 ⟨⟨a9, b9, rfl⟩, hk1⟩; have hk0 := hkL.trans hk1; clear y0 y1 y2 y3 y4 y5 y6 y7 y8 y9 y10 y11; obtain ⟨y0, y1, y2, y3, y4, y5, y6, y7, y8, y9, y10, y11⟩ := HS.out _ hk0; have hr1 := row_keep hrL hk1; clear hrL hkL KA) | (go_at_call 18; (with_reducible refine (KV.out _ hk0).mono ?_); rintro e w2 ⟨rfl, hk2⟩; have hk3 := hk0.trans hk2; clear y0 y1 y2 y3 y4 y5 y6 y7 y8 y9 y10 y11; obtain ⟨y0, y1, y2, y3, y4, y5, y6, y7, y8, y9, y10, y11⟩ := HS.out _ hk3; have hr2 := row_keep hr1 hk2; clear hr1))
      go_ret
      exact ⟨[], _, _, rfl, Pts.nil' _ _ _ (by unfold maxLen; omega), HB.out.trans hk3, .inl HRE.out.symm, by simp⟩
    | true =>
      have hLI : onL wd jn cp ml ph D long = ivs (onI D ph) long := by unfold onL; rw [if_pos ⟨hs, by omega⟩]
      rw [hs] at KV
      obtain ⟨hdb, p0, p1⟩ := stB_ok hs
      obtain ⟨hok, hev, h16, hpos⟩ := dashB_ok hdb
      have KA := Lib.hid (fun w' (hk : Keeps (w.alloc (.cells #[.int .i64 wd, .int .i64 jn, .int .i64 cp, .int .i64 ml, .slice A n c, .int .i64 ph] 27)) w') => rall_any A n c D w' (h.keep (HB.out.trans hk)) hok (by omega))
      have htw := sumP_two (D := D) D.length
      have htd : totD D = sumK D D.length := rfl
      have hU0 := sumP_bd hok 0 D.length
      have hU1 := sumP_bd hok 1 D.length
      by_cases hz1 : sumP 1 D D.length = 0
      · have HRE := Lib.hid (show onL wd jn cp ml ph D long = [(0, long)] by rw [hLI]; exact ivs_all _ _ (by omega) (fun x _ _ => on_all hok ph hpos hz1 x))
        have hte : totD D = 256 * sumP 0 D D.length := by omega
        rw [hte] at KA
        have hnn : (256 * sumP 0 D D.length = 0 ∧ (0 : Int) < 256 * sumP 0 D D.length) = False := by simp; omega
        have hnn2 : decide ((0 : Int) < 256 * sumP 0 D D.length) = false ∨ (decide ((0 : Int) < 256 * sumP 0 D D.length) = true ∧ (256 * sumP 0 D D.length == 0) = false) := by
          by_cases h9 : (0 : Int) < 256 * sumP 0 D D.length
          · exact .inr ⟨decide_eq_true h9, by simp only [beq_eq_false_iff_ne]; omega⟩
          · exact .inl (decide_eq_false h9)
        clear h hs hLI htw htd hte hnn hdb hok hpos hev hz1
        generalize 256 * sumP 0 D D.length = dr at *
        have hbe : (dr == dr) = true := beq_self_eq_true _
        rcases hnn2 with t1 | ⟨t1, t2⟩
        · go_enter Try.func35, Try.ntmps35
          obtain ⟨y0, y1, y2, y3, y4, y5, y6, y7, y8, y9, y10, y11⟩ := HS.out _ hk00
          go_wp2_with (first | (go_at_call 52; (with_reducible refine (KA.out _ hkL).mono ?_); rintro e w1 ⟨rfl, hk1⟩; have hk0 := hkL.trans hk1; clear y0 y1 y2 y3 y4 y5 y6 y7 y8 y9 y10 y11; obtain ⟨y0, y1, y2, y3, y4, y5, y6, y7, y8, y9, y10, y11⟩ := HS.out _ hk0; have hr1 := row_keep hrL hk1; clear hrL hkL KA) | (go_at_call 18; (with_reducible refine (KV.out _ hk0).mono ?_); rintro e w2 ⟨rfl, hk2⟩; have hk3 := hk0.trans hk2; clear y0 y1 y2 y3 y4 y5 y6 y7 y8 y9 y10 y11; obtain ⟨y0, y1, y2, y3, y4, y5, y6, y7, y8, y9, y10, y11⟩ := HS.out _ hk3; have hr2 := row_keep hr1 hk2; clear hr1) | (at_builtin; refine wpList_append_own _ rfl _ _ 33 rfl (w.heap.size + 1) 36 i0 (.agg #[.int .i64 0, .int .i64 0]) 2 16 Try.underlying33 hi hz0 hz1 hz2 rfl (by decide) _ _ _ rfl (row_keep hr2 ((Keeps.refl w2).alloc _)) ⟨w2.heap.size, 0, none⟩ 1 1 (ptV (0, long)) rfl rfl (two_newA w2 (0, long) _ _ rfl) (oneCell_ptV _) (by unfold maxLen; omega) (by omega) (by have := hk3.size; simp at this ⊢; omega) ?_; intro v1 w7 hown1 hgrow1 hz9; clear hz9; rw [← rowP_one, ← rowP_append] at hown1))
          have hra := row_keep hr2 ((Keeps.refl w2).alloc (.cells #[.int .i64 0, .int .i64 long] 36))
          have hk4 : Keeps w w7 := Below.grown ((HB.out.trans hk3).alloc _) hgrow1 (by have := (HB.out.trans hk3).size; simp; omega) (fun k e => by have := row_base hra k e; omega)
          obtain ⟨A', c', e', hPz⟩ := Pts.of_own (L := [(0, long)]) hown1 rfl (fun p hp => by rw [List.mem_singleton.1 hp]; exact ⟨⟨by omega, by omega⟩, ⟨by omega, by omega⟩⟩)
          cases e'
          replace hPz := Lib.hid hPz
          go_wp2_with fail
          go_ret
          exact ⟨[(0, long)], _, _, rfl, hPz.out, hk4, .inl HRE.out.symm, by simp⟩
        · go_enter Try.func35, Try.ntmps35
          obtain ⟨y0, y1, y2, y3, y4, y5, y6, y7, y8, y9, y10, y11⟩ := HS.out _ hk00
          go_wp2_with (first | (go_at_call 52; (with_reducible refine (KA.out _ hkL).mono ?_); rintro e w1 ⟨rfl, hk1⟩; have hk0 := hkL.trans hk1; clear y0 y1 y2 y3 y4 y5 y6 y7 y8 y9 y10 y11; obtain ⟨y0, y1, y2, y3, y4, y5, y6, y7, y8, y9, y10, y11⟩ := HS.out _ hk0; have hr1 := row_keep hrL hk1; clear hrL hkL KA) | (go_at_call 18; (with_reducible refine (KV.out _ hk0).mono ?_); rintro e w2 ⟨rfl, hk2⟩; have hk3 := hk0.trans hk2; clear y0 y1 y2 y3 y4 y5 y6 y7 y8 y9 y10 y11; obtain ⟨y0, y1, y2, y3, y4, y5, y6, y7, y8, y9, y10, y11⟩ := HS.out _ hk3; have hr2 := row_keep hr1 hk2; clear hr1) | (at_builtin; refine wpList_append_own _ rfl _ _ 33 rfl (w.heap.size + 1) 36 i0 (.agg #[.int .i64 0, .int .i64 0]) 2 16 Try.underlying33 hi hz0 hz1 hz2 rfl (by decide) _ _ _ rfl (row_keep hr2 ((Keeps.refl w2).alloc _)) ⟨w2.heap.size, 0, none⟩ 1 1 (ptV (0, long)) rfl rfl (two_newA w2 (0, long) _ _ rfl) (oneCell_ptV _) (by unfold maxLen; omega) (by omega) (by have := hk3.size; simp at this ⊢; omega) ?_; intro v1 w7 hown1 hgrow1 hz9; clear hz9; rw [← rowP_one, ← rowP_append] at hown1))
          have hra := row_keep hr2 ((Keeps.refl w2).alloc (.cells #[.int .i64 0, .int .i64 long] 36))
          have hk4 : Keeps w w7 := Below.grown ((HB.out.trans hk3).alloc _) hgrow1 (by have := (HB.out.trans hk3).size; simp; omega) (fun k e => by have := row_base hra k e; omega)
          obtain ⟨A', c', e', hPz⟩ := Pts.of_own (L := [(0, long)]) hown1 rfl (fun p hp => by rw [List.mem_singleton.1 hp]; exact ⟨⟨by omega, by omega⟩, ⟨by omega, by omega⟩⟩)
          cases e'
          replace hPz := Lib.hid hPz
          go_wp2_with fail
          go_ret
          exact ⟨[(0, long)], _, _, rfl, hPz.out, hk4, .inl HRE.out.symm, by simp⟩
      · have hpt : 0 < totD D := by
          rcases hpos with h9 | h9
          · exact absurd (by rw [h9]; rfl) hz1
          · exact h9
        by_cases hz0 : sumP 0 D D.length = 0
        · have HRE := Lib.hid (show onL wd jn cp ml ph D long = [] by rw [hLI]; exact ivs_none _ _ (by omega) (fun x _ _ => on_none hok ph hpt hz0 x))
          rw [hz0] at KA
          have t1 : decide (0 < totD D) = true := decide_eq_true hpt
          clear h hs hLI htw htd hdb hok hpos hev hz1 hz0 hU0 hU1
          generalize totD D = td at *
          go_enter Try.func35, Try.ntmps35
          obtain ⟨y0, y1, y2, y3, y4, y5, y6, y7, y8, y9, y10, y11⟩ := HS.out _ hk00
          go_wp2_with (first | (go_at_call 52; (with_reducible refine (KA.out _ hkL).mono ?_); rintro e w1 ⟨rfl, hk1⟩; have hk0 := hkL.trans hk1; clear y0 y1 y2 y3 y4 y5 y6 y7 y8 y9 y10 y11; obtain ⟨y0, y1, y2, y3, y4, y5, y6, y7, y8, y9, y10, y11⟩ := HS.out _ hk0; have hr1 := row_keep hrL hk1; clear hrL hkL KA) | (go_at_call 18; (with_reducible refine (KV.out _ hk0).mono ?_); rintro e w2 ⟨rfl, hk2⟩; have hk3 := hk0.trans hk2; clear y0 y1 y2 y3 y4 y5 y6 y7 y8 y9 y10 y11; obtain ⟨y0, y1, y2, y3, y4, y5, y6, y7, y8, y9, y10, y11⟩ := HS.out _ hk3; have hr2 := row_keep hr1 hk2; clear hr1))
          go_ret
          exact ⟨[], _, _, rfl, Pts.nil' _ _ _ (by unfold maxLen; omega), HB.out.trans hk3, .inl HRE.out.symm, by simp⟩
        · have t1 : decide (0 < totD D) = true := decide_eq_true hpt
          have t2 : (256 * sumP 0 D D.length == 0) = false := by simp only [beq_eq_false_iff_ne]; omega
          have t3 : (totD D == 256 * sumP 0 D D.length) = false := by simp only [beq_eq_false_iff_ne]; omega
          have KP := Lib.hid (fun w' a (hk : Keeps (w.alloc (.cells #[.int .i64 wd, .int .i64 jn, .int .i64 cp, .int .i64 ml, .slice A n c, .int .i64 ph] 27)) w') (ha : 0 ≤ a) (ha2 : a ≤ 4611686018427387904) => rpart_any wd jn cp ml ph A n c D a w' (h.keep (HB.out.trans hk)) hok (by omega) hpt ha (by omega) p0 p1)
          have HIN := Lib.hid (fun a i (hA : AtD D (posK D ph a) i) => InD.of_at (ph := ph) (a := a) hok hA)
          have HOK := Lib.hid hok
          have HSB := Lib.hid (fun i (hi : i < n) => (show sumK D (i + 1) ≤ 268435456 * 17 from by have := (sumK_bd hok (i + 1)).2; omega))
          have hposb := Lib.hid (fun a => (posK_bd D ph a hpt).1)
          have HL := Lib.hid hLI
          have hiv := Lib.hid (ivs_of (onI D ph) long (by omega))
          clear h hs hLI htw htd hdb hok hpos hev hz1 hz0 hU0 hU1
          generalize 256 * sumP 0 D D.length = dr at *
          generalize totD D = td at *
          go_enter Try.func35, Try.ntmps35
          obtain ⟨y0, y1, y2, y3, y4, y5, y6, y7, y8, y9, y10, y11⟩ := HS.out _ hk00
          go_wp2_with (first | (go_at_call 52; (with_reducible refine (KA.out _ hkL).mono ?_); rintro e w1 ⟨rfl, hk1⟩; have hk0 := hkL.trans hk1; clear y0 y1 y2 y3 y4 y5 y6 y7 y8 y9 y10 y11; obtain ⟨y0, y1, y2, y3, y4, y5, y6, y7, y8, y9, y10, y11⟩ := HS.out _ hk0; have hr1 := row_keep hrL hk1; clear hrL hkL KA) | (go_at_call 18; (with_reducible refine (KV.out _ hk0).mono ?_); rintro e w2 ⟨rfl, hk2⟩; have hk3 := hk0.trans hk2; clear y0 y1 y2 y3 y4 y5 y6 y7 y8 y9 y10 y11; obtain ⟨y0, y1, y2, y3, y4, y5, y6, y7, y8, y9, y10, y11⟩ := HS.out _ hk3; have hr2 := row_keep hr1 hk2; clear hr1))
          clear y0 y1 y2 y3 y4 y5 y6 y7 y8 y9 y10 y11 hk1 hk2 hk0 t1 t2 t3 KV
          go_loopw [7, 10] (fun v av wr => ∃ (R : List (Int × Int)) (a : Int), av = .int .i64 a ∧ 0 ≤ a ∧ a ≤ long ∧ Keeps (w.alloc (.cells #[.int .i64 wd, .int .i64 jn, .int .i64 cp, .int .i64 ml, .slice A n c, .int .i64 ph] 27)) wr ∧ wr.ownsRow (w.heap.size + 1) 36 2 v R.length (rowP R) ∧ R.length ≤ most + 1 ∧ Hid (StR (onI D ph) long R a most)) (fun _ av _ => (long - intOf av).toNat)
          case atStart => exact ⟨[], 0, rfl, by omega, by omega, hk3, hr2, by simp, Lib.hid (.inr ⟨open0_start _ _, by simp, fun h9 => by simp at h9⟩)⟩
          case round =>
            clear hk3 hr2
            obtain ⟨R, a, rfl, ha0, haz, hkw, hown, hRm, hS⟩ := hrel
            obtain ⟨y0, y1, y2, y3, y4, y5, y6, y7, y8, y9, y10, y11⟩ := HS.out _ hkw
            obtain ⟨A9, c9, rfl⟩ := own_len hown
            by_cases hlt : a < long
            · by_cases hmo : R.length ≤ most
              · obtain ⟨kk, hkk⟩ : ∃ kk, R.length = kk := ⟨_, rfl⟩
                rw [hkk] at hown hRm hmo ⊢
                replace hkk := Lib.hid hkk
                have hmoi : (kk : Int) ≤ most := by omega
                have KPa := Lib.hid (KP.out wr a hkw ha0 (by omega))
                go_upto_region 12 with (go_at_call 33; (with_reducible refine KPa.out.mono ?_); rintro e w3 ⟨⟨i, hAt, rfl⟩, hk3⟩; replace hAt := Lib.hid hAt)
                have hIn := HIN.out a i hAt.out
                have hlf0 : 0 < sumK D (i + 1) - posK D ph a := by have := hAt.out.2.2; omega
                have hin : i < n := by rw [← hl]; exact hAt.out.1
                have hlf1 : sumK D (i + 1) - posK D ph a ≤ 4563402752 := by have h8 := HSB.out i hin; have h9 := hposb.out a; omega
                have hon0 := Lib.hid (fun x h1 h2 => hIn.on HOK.out x h1 h2)
                have hk4 := hkw.trans hk3
                have own3 := row_keep hown hk3
                clear y0 y1 y2 y3 y4 y5 y6 y7 y8 y9 y10 y11 hAt hIn KPa hown
                obtain ⟨y0, y1, y2, y3, y4, y5, y6, y7, y8, y9, y10, y11⟩ := HS.out _ hk4
                generalize sumK D (i + 1) - posK D ph a = lf at *
                by_cases hc : lf < long - a
                · have hon := Lib.hid (fun x (h1 : a ≤ x) (h2 : x < a + lf) => hon0.out x h1 h2)
                  rcases Nat.mod_two_eq_zero_or_one i with he | he
                  · have he2 : (i : Int) % 2 = 0 := by omega
                    replace hon := Lib.hid (fun x h1 h2 => (hon.out x h1 h2).trans (decide_eq_true he))
                    rcases hS.out with ⟨pre, s, rfl, hO, hpm⟩ | ⟨hO, hpm, hla⟩
                    · have hq9 : kk = pre.length + 1 := by rw [← hkk.out]; simp
                      obtain ⟨q, hq⟩ : ∃ q : Nat, pre.length = q := ⟨_, rfl⟩
                      have hq1 : (kk : Int) - 1 = q := by omega
                      have hwq : IntKind.i64.wrap (q : Int) = q := i64_in _ (by omega)
                      have hqk : (q : Int) < kk := by omega
                      have hk0n : 0 < kk := by omega
                      obtain ⟨g, cap, hx, _, hgB, _⟩ := own_slice own3 (by omega)
                      obtain ⟨rfl, rfl⟩ : A9 = some ⟨g, 0, none⟩ ∧ c9 = cap := by simpa using hx
                      have hcl := rowAt own3 (q * 2 + 1) (by omega)
                      have c1 : w3.cell? ⟨g, q * 2 + 1, none⟩ = some (.int .i64 a) := by
                        rw [hcl.2.1, rowP_get _ q 1 (by rw [hkk.out]; omega) (by omega), ← hq, getD_snoc]; rfl
                      have f1 := hcl.2.2.1
                      have hst := (World.ownsRow.stored own3 (q * 2 + 1) (.int .i64 (a + lf))).1
                      rw [← hq, rowP_last, hq] at hst
                      have haa : (a == a) = true := beq_self_eq_true _
                      replace hO := Lib.hid hO
                      replace hq := Lib.hid hq
                      replace hst := Lib.hid hst
                      clear hcl hx hq9
                      go_wp2_with fail
                      go_roundw
                      case rel => exact ⟨pre ++ [(s, (a + lf))], (a + lf), rfl, by omega, by omega, hk4.setNew (by simp; omega) _, by rw [show (pre ++ [(s, (a + lf))]).length = kk by rw [← hkk.out]; simp]; exact hst.out, by rw [show (pre ++ [(s, (a + lf))]).length = kk by rw [← hkk.out]; simp]; omega, Lib.hid (.inl ⟨pre, s, rfl, hO.out.on (by omega) hon.out, hpm⟩)⟩
                      case measure => simp [intOf]; omega
                    · replace hO := Lib.hid hO
                      by_cases hk0n : 0 < kk
                      · obtain ⟨q, hq⟩ : ∃ q : Nat, kk = q + 1 := ⟨kk - 1, by omega⟩
                        have hq1 : (kk : Int) - 1 = q := by omega
                        have hwq : IntKind.i64.wrap (q : Int) = q := i64_in _ (by omega)
                        have hqk : (q : Int) < kk := by omega
                        obtain ⟨g, cap, hx, _, hgB, _⟩ := own_slice own3 (by omega)
                        obtain ⟨rfl, rfl⟩ : A9 = some ⟨g, 0, none⟩ ∧ c9 = cap := by simpa using hx
                        have hla2 := hla (by rw [hkk.out]; exact hk0n)
                        rw [hkk.out, show kk - 1 = q by omega] at hla2
                        have hcl := rowAt own3 (q * 2 + 1) (by omega)
                        have c1 : w3.cell? ⟨g, q * 2 + 1, none⟩ = some (.int .i64 (R.getD q pt0).2) := by
                          rw [hcl.2.1, rowP_get _ q 1 (by rw [hkk.out]; omega) (by omega)]; rfl
                        have haa : ((R.getD q pt0).2 == a) = false := by simp only [beq_eq_false_iff_ne]; omega
                        clear hcl hx hq hla hla2
                        generalize (R.getD q pt0).2 = lv at *
                        go_wp2_with (at_builtin; refine wpList_append_own _ rfl _ _ 33 rfl (w.heap.size + 1) 36 i0 (.agg #[.int .i64 0, .int .i64 0]) 2 16 Try.underlying33 hi hz0 hz1 hz2 rfl (by decide) _ _ _ rfl (row_keep own3 ((Keeps.refl w3).alloc _)) ⟨w3.heap.size, 0, none⟩ 1 1 (ptV (a, (a + lf))) rfl rfl (two_newA w3 (a, (a + lf)) _ _ rfl) (oneCell_ptV _) (by unfold maxLen; omega) (by omega) (by have := hk4.size; simp at this ⊢; omega) ?_; intro v1 w7 hown1 hgrow1 hz9; clear hz9; rw [← rowP_one, ← rowP_append] at hown1)
                        have hra := row_keep own3 ((Keeps.refl w3).alloc (.cells #[.int .i64 a, .int .i64 (a + lf)] 36))
                        have hk7 : Keeps (w.alloc (.cells #[.int .i64 wd, .int .i64 jn, .int .i64 cp, .int .i64 ml, .slice A n c, .int .i64 ph] 27)) w7 := Below.grown (hk4.alloc _) hgrow1 (by have := hk4.size; simp at this ⊢; omega) (fun k e => by have := row_base hra k e; simp; omega)
                        go_roundw
                        case rel => exact ⟨R ++ [(a, (a + lf))], (a + lf), rfl, by omega, by omega, hk7, by rw [List.length_append, hkk.out]; exact hown1, by rw [List.length_append, List.length_singleton, hkk.out]; omega, Lib.hid (.inl ⟨R, a, rfl, hO.out.on ha0 (by omega) hon.out, by rw [hkk.out]; omega⟩)⟩
                        case measure => simp [intOf]; omega
                      · have hk0f : decide (0 < kk) = false := decide_eq_false hk0n
                        clear hla
                        go_wp2_with (at_builtin; refine wpList_append_own _ rfl _ _ 33 rfl (w.heap.size + 1) 36 i0 (.agg #[.int .i64 0, .int .i64 0]) 2 16 Try.underlying33 hi hz0 hz1 hz2 rfl (by decide) _ _ _ rfl (row_keep own3 ((Keeps.refl w3).alloc _)) ⟨w3.heap.size, 0, none⟩ 1 1 (ptV (a, (a + lf))) rfl rfl (two_newA w3 (a, (a + lf)) _ _ rfl) (oneCell_ptV _) (by unfold maxLen; omega) (by omega) (by have := hk4.size; simp at this ⊢; omega) ?_; intro v1 w7 hown1 hgrow1 hz9; clear hz9; rw [← rowP_one, ← rowP_append] at hown1)
                        have hra := row_keep own3 ((Keeps.refl w3).alloc (.cells #[.int .i64 a, .int .i64 (a + lf)] 36))
                        have hk7 : Keeps (w.alloc (.cells #[.int .i64 wd, .int .i64 jn, .int .i64 cp, .int .i64 ml, .slice A n c, .int .i64 ph] 27)) w7 := Below.grown (hk4.alloc _) hgrow1 (by have := hk4.size; simp at this ⊢; omega) (fun k e => by have := row_base hra k e; simp; omega)
                        go_roundw
                        case rel => exact ⟨R ++ [(a, (a + lf))], (a + lf), rfl, by omega, by omega, hk7, by rw [List.length_append, hkk.out]; exact hown1, by rw [List.length_append, List.length_singleton, hkk.out]; omega, Lib.hid (.inl ⟨R, a, rfl, hO.out.on ha0 (by omega) hon.out, by rw [hkk.out]; omega⟩)⟩
                        case measure => simp [intOf]; omega
                  · have he2 : (i : Int) % 2 = 1 := by omega
                    replace hon := Lib.hid (fun x h1 h2 => (hon.out x h1 h2).trans (decide_eq_false (show ¬ i % 2 = 0 by omega)))
                    have hS2 : Hid (StR (onI D ph) long R (a + lf) most) := Lib.hid (by
                      rcases hS.out with ⟨pre, s, e9, hO, hpm⟩ | ⟨hO, hpm, hla⟩
                      · refine .inr ⟨?_, by rw [hkk.out]; omega, fun _ => ?_⟩
                        · rw [e9]
                          exact (hO.close (by omega) (fun _ => hon.out a (Int.le_refl _) (by omega))).off (by omega) hon.out
                        · rw [e9]
                          have : (pre ++ [(s, a)]).length - 1 = pre.length := by simp
                          rw [this, getD_snoc]
                          show a < (a + lf)
                          omega
                      · exact .inr ⟨hO.off (by omega) hon.out, hpm, fun h9 => by have := hla h9; omega⟩)
                    go_wp2_with fail
                    go_roundw
                    case rel => exact ⟨R, (a + lf), rfl, by omega, by omega, hk4, by rw [hkk.out]; exact own3, by rw [hkk.out]; omega, hS2⟩
                    case measure => simp [intOf]; omega
                · have hon := Lib.hid (fun x (h1 : a ≤ x) (h2 : x < long) => hon0.out x h1 (by omega))
                  rcases Nat.mod_two_eq_zero_or_one i with he | he
                  · have he2 : (i : Int) % 2 = 0 := by omega
                    replace hon := Lib.hid (fun x h1 h2 => (hon.out x h1 h2).trans (decide_eq_true he))
                    rcases hS.out with ⟨pre, s, rfl, hO, hpm⟩ | ⟨hO, hpm, hla⟩
                    · have hq9 : kk = pre.length + 1 := by rw [← hkk.out]; simp
                      obtain ⟨q, hq⟩ : ∃ q : Nat, pre.length = q := ⟨_, rfl⟩
                      have hq1 : (kk : Int) - 1 = q := by omega
                      have hwq : IntKind.i64.wrap (q : Int) = q := i64_in _ (by omega)
                      have hqk : (q : Int) < kk := by omega
                      have hk0n : 0 < kk := by omega
                      obtain ⟨g, cap, hx, _, hgB, _⟩ := own_slice own3 (by omega)
                      obtain ⟨rfl, rfl⟩ : A9 = some ⟨g, 0, none⟩ ∧ c9 = cap := by simpa using hx
                      have hcl := rowAt own3 (q * 2 + 1) (by omega)
                      have c1 : w3.cell? ⟨g, q * 2 + 1, none⟩ = some (.int .i64 a) := by
                        rw [hcl.2.1, rowP_get _ q 1 (by rw [hkk.out]; omega) (by omega), ← hq, getD_snoc]; rfl
                      have f1 := hcl.2.2.1
                      have hst := (World.ownsRow.stored own3 (q * 2 + 1) (.int .i64 long)).1
                      rw [← hq, rowP_last, hq] at hst
                      have haa : (a == a) = true := beq_self_eq_true _
                      replace hO := Lib.hid hO
                      replace hq := Lib.hid hq
                      replace hst := Lib.hid hst
                      clear hcl hx hq9
                      go_wp2_with fail
                      go_roundw
                      case rel => exact ⟨pre ++ [(s, long)], long, rfl, by omega, by omega, hk4.setNew (by simp; omega) _, by rw [show (pre ++ [(s, long)]).length = kk by rw [← hkk.out]; simp]; exact hst.out, by rw [show (pre ++ [(s, long)]).length = kk by rw [← hkk.out]; simp]; omega, Lib.hid (.inl ⟨pre, s, rfl, hO.out.on (by omega) hon.out, hpm⟩)⟩
                      case measure => simp [intOf]; omega
                    · replace hO := Lib.hid hO
                      by_cases hk0n : 0 < kk
                      · obtain ⟨q, hq⟩ : ∃ q : Nat, kk = q + 1 := ⟨kk - 1, by omega⟩
                        have hq1 : (kk : Int) - 1 = q := by omega
                        have hwq : IntKind.i64.wrap (q : Int) = q := i64_in _ (by omega)
                        have hqk : (q : Int) < kk := by omega
                        obtain ⟨g, cap, hx, _, hgB, _⟩ := own_slice own3 (by omega)
                        obtain ⟨rfl, rfl⟩ : A9 = some ⟨g, 0, none⟩ ∧ c9 = cap := by simpa using hx
                        have hla2 := hla (by rw [hkk.out]; exact hk0n)
                        rw [hkk.out, show kk - 1 = q by omega] at hla2
                        have hcl := rowAt own3 (q * 2 + 1) (by omega)
                        have c1 : w3.cell? ⟨g, q * 2 + 1, none⟩ = some (.int .i64 (R.getD q pt0).2) := by
                          rw [hcl.2.1, rowP_get _ q 1 (by rw [hkk.out]; omega) (by omega)]; rfl
                        have haa : ((R.getD q pt0).2 == a) = false := by simp only [beq_eq_false_iff_ne]; omega
                        clear hcl hx hq hla hla2
                        generalize (R.getD q pt0).2 = lv at *
                        go_wp2_with (at_builtin; refine wpList_append_own _ rfl _ _ 33 rfl (w.heap.size + 1) 36 i0 (.agg #[.int .i64 0, .int .i64 0]) 2 16 Try.underlying33 hi hz0 hz1 hz2 rfl (by decide) _ _ _ rfl (row_keep own3 ((Keeps.refl w3).alloc _)) ⟨w3.heap.size, 0, none⟩ 1 1 (ptV (a, long)) rfl rfl (two_newA w3 (a, long) _ _ rfl) (oneCell_ptV _) (by unfold maxLen; omega) (by omega) (by have := hk4.size; simp at this ⊢; omega) ?_; intro v1 w7 hown1 hgrow1 hz9; clear hz9; rw [← rowP_one, ← rowP_append] at hown1)
                        have hra := row_keep own3 ((Keeps.refl w3).alloc (.cells #[.int .i64 a, .int .i64 long] 36))
                        have hk7 : Keeps (w.alloc (.cells #[.int .i64 wd, .int .i64 jn, .int .i64 cp, .int .i64 ml, .slice A n c, .int .i64 ph] 27)) w7 := Below.grown (hk4.alloc _) hgrow1 (by have := hk4.size; simp at this ⊢; omega) (fun k e => by have := row_base hra k e; simp; omega)
                        go_roundw
                        case rel => exact ⟨R ++ [(a, long)], long, rfl, by omega, by omega, hk7, by rw [List.length_append, hkk.out]; exact hown1, by rw [List.length_append, List.length_singleton, hkk.out]; omega, Lib.hid (.inl ⟨R, a, rfl, hO.out.on ha0 (by omega) hon.out, by rw [hkk.out]; omega⟩)⟩
                        case measure => simp [intOf]; omega
                      · have hk0f : decide (0 < kk) = false := decide_eq_false hk0n
                        clear hla
                        go_wp2_with (at_builtin; refine wpList_append_own _ rfl _ _ 33 rfl (w.heap.size + 1) 36 i0 (.agg #[.int .i64 0, .int .i64 0]) 2 16 Try.underlying33 hi hz0 hz1 hz2 rfl (by decide) _ _ _ rfl (row_keep own3 ((Keeps.refl w3).alloc _)) ⟨w3.heap.size, 0, none⟩ 1 1 (ptV (a, long)) rfl rfl (two_newA w3 (a, long) _ _ rfl) (oneCell_ptV _) (by unfold maxLen; omega) (by omega) (by have := hk4.size; simp at this ⊢; omega) ?_; intro v1 w7 hown1 hgrow1 hz9; clear hz9; rw [← rowP_one, ← rowP_append] at hown1)
                        have hra := row_keep own3 ((Keeps.refl w3).alloc (.cells #[.int .i64 a, .int .i64 long] 36))
                        have hk7 : Keeps (w.alloc (.cells #[.int .i64 wd, .int .i64 jn, .int .i64 cp, .int .i64 ml, .slice A n c, .int .i64 ph] 27)) w7 := Below.grown (hk4.alloc _) hgrow1 (by have := hk4.size; simp at this ⊢; omega) (fun k e => by have := row_base hra k e; simp; omega)
                        go_roundw
                        case rel => exact ⟨R ++ [(a, long)], long, rfl, by omega, by omega, hk7, by rw [List.length_append, hkk.out]; exact hown1, by rw [List.length_append, List.length_singleton, hkk.out]; omega, Lib.hid (.inl ⟨R, a, rfl, hO.out.on ha0 (by omega) hon.out, by rw [hkk.out]; omega⟩)⟩
                        case measure => simp [intOf]; omega
                  · have he2 : (i : Int) % 2 = 1 := by omega
                    replace hon := Lib.hid (fun x h1 h2 => (hon.out x h1 h2).trans (decide_eq_false (show ¬ i % 2 = 0 by omega)))
                    have hS2 : Hid (StR (onI D ph) long R long most) := Lib.hid (by
                      rcases hS.out with ⟨pre, s, e9, hO, hpm⟩ | ⟨hO, hpm, hla⟩
                      · refine .inr ⟨?_, by rw [hkk.out]; omega, fun _ => ?_⟩
                        · rw [e9]
                          exact (hO.close (by omega) (fun _ => hon.out a (Int.le_refl _) (by omega))).off (by omega) hon.out
                        · rw [e9]
                          have : (pre ++ [(s, a)]).length - 1 = pre.length := by simp
                          rw [this, getD_snoc]
                          show a < long
                          omega
                      · exact .inr ⟨hO.off (by omega) hon.out, hpm, fun h9 => by have := hla h9; omega⟩)
                    go_wp2_with fail
                    go_roundw
                    case rel => exact ⟨R, long, rfl, by omega, by omega, hk4, by rw [hkk.out]; exact own3, by rw [hkk.out]; omega, hS2⟩
                    case measure => simp [intOf]; omega
              · have hmoi : ¬ ((R.length : Int) ≤ most) := by omega
                rcases hS.out with ⟨pre, s, e9, hO, hpm⟩ | ⟨_, hpm, _⟩
                · have hlq : R.length = pre.length + 1 := by rw [e9]; simp
                  have hmr := hO.more (by omega) haz
                  have hpp := hO.2.2.2.pre (by omega) (by have := hO.1; omega)
                  have hbd : ∀ p ∈ R, 0 ≤ p.1 ∧ p.1 < p.2 ∧ p.2 ≤ long := fun p hp => by
                    rw [e9] at hp
                    rcases List.mem_append.1 hp with h9 | h9
                    · exact hiv.out.bounds p (hpp.subset h9)
                    · rw [List.mem_singleton.1 h9]; exact ⟨hO.2.1, hO.1, haz⟩
                  have hR9 : R.length = most + 1 ∧ most + 1 ≤ (onL wd jn cp ml ph D long).length := by rw [HL.out]; omega
                  obtain ⟨A', c', e', hPz⟩ := Pts.of_own hown rfl (fun p hp => by have := hbd p hp; exact ⟨⟨by omega, by omega⟩, ⟨by omega, by omega⟩⟩)
                  cases e'
                  replace hPz := Lib.hid hPz
                  clear e9 hlq hown
                  replace hR9 := Lib.hid hR9
                  go_wp2_with fail
                  go_ret
                  exact ⟨R, _, _, rfl, hPz.out, HB.out.trans hkw, .inr ⟨hR9.out.1, hR9.out.2, hbd⟩, hRm⟩
                · exact absurd hpm hmo
            · have hR9 : R = onL wd jn cp ml ph D long := by
                rw [HL.out]
                have e8 : a = long := by omega
                rcases hS.out with ⟨pre, s, e9, hO, hpm⟩ | ⟨hO, hpm, _⟩
                · rw [e8] at hO e9
                  rw [e9]
                  exact (hO.close (Int.le_refl _) (fun h9 => by omega)).done (by omega)
                · rw [e8] at hO
                  exact hO.done (by omega)
              have hbd : ∀ p ∈ R, 0 ≤ p.1 ∧ p.1 < p.2 ∧ p.2 ≤ long := fun p hp => hiv.out.bounds p (by rw [← HL.out, ← hR9]; exact hp)
              obtain ⟨A', c', e', hPz⟩ := Pts.of_own hown rfl (fun p hp => by have := hbd p hp; exact ⟨⟨by omega, by omega⟩, ⟨by omega, by omega⟩⟩)
              cases e'
              replace hPz := Lib.hid hPz
              replace hR9 := Lib.hid hR9
              clear hown
              go_wp2_with fail
              go_ret
              exact ⟨R, _, _, rfl, hPz.out, HB.out.trans hkw, .inl hR9.out, hRm⟩
set_option maxHeartbeats 1000000 in
theorem ronint_any (wd jn cp ml ph long : Int) (A : Option Addr) (n c : Nat) (D : List Int) (w : World) (h : Ins w A n c D) (hlong : long ≤ 300000) :
    Calls Try.prog 17 #[.agg #[.int .i64 wd, .int .i64 jn, .int .i64 cp, .int .i64 ml, .slice A n c, .int .i64 ph], .int .i64 long] w fun e w' => ∃ A' c', e = .returned (.slice A' (onL wd jn cp ml ph D long).length c') ∧ Pts w' A' (onL wd jn cp ml ph D long).length c' (onL wd jn cp ml ph D long) ∧ Keeps w w' := by
  have HS := Lib.hid (show ∀ w', Keeps (w.alloc (.cells #[.int .i64 wd, .int .i64 jn, .int .i64 cp, .int .i64 ml, .slice A n c, .int .i64 ph] 27)) w' → w'.cell? ⟨w.heap.size, 0, none⟩ = some (.int .i64 wd) ∧ w'.frozen? ⟨w.heap.size, 0, none⟩ = false ∧ w'.cell? ⟨w.heap.size, 1, none⟩ = some (.int .i64 jn) ∧ w'.frozen? ⟨w.heap.size, 1, none⟩ = false ∧ w'.cell? ⟨w.heap.size, 2, none⟩ = some (.int .i64 cp) ∧ w'.frozen? ⟨w.heap.size, 2, none⟩ = false ∧ w'.cell? ⟨w.heap.size, 3, none⟩ = some (.int .i64 ml) ∧ w'.frozen? ⟨w.heap.size, 3, none⟩ = false ∧ w'.cell? ⟨w.heap.size, 4, none⟩ = some (.slice A n c) ∧ w'.frozen? ⟨w.heap.size, 4, none⟩ = false ∧ w'.cell? ⟨w.heap.size, 5, none⟩ = some (.int .i64 ph) ∧ w'.frozen? ⟨w.heap.size, 5, none⟩ = false from fun w' hk => ⟨(hk.cell (p := ⟨w.heap.size, 0, none⟩) (by first | (simp; done) | (simp; omega))).trans (by simp [go_sem]), (hk.frozen (p := ⟨w.heap.size, 0, none⟩) (by first | (simp; done) | (simp; omega))).trans (by simp [go_sem]), (hk.cell (p := ⟨w.heap.size, 1, none⟩) (by first | (simp; done) | (simp; omega))).trans (by simp [go_sem]), (hk.frozen (p := ⟨w.heap.size, 1, none⟩) (by first | (simp; done) | (simp; omega))).trans (by simp [go_sem]), (hk.cell (p := ⟨w.heap.size, 2, none⟩) (by first | (simp; done) | (simp; omega))).trans (by simp [go_sem]), (hk.frozen (p := ⟨w.heap.size, 2, none⟩) (by first | (simp; done) | (simp; omega))).trans (by simp [go_sem]), (hk.cell (p := ⟨w.heap.size, 3, none⟩) (by first | (simp; done) | (simp; omega))).trans (by simp [go_sem]), (hk.frozen (p := ⟨w.heap.size, 3, none⟩) (by first | (simp; done) | (simp; omega))).trans (by simp [go_sem]), (hk.cell (p := ⟨w.heap.size, 4, none⟩) (by first | (simp; done) | (simp; omega))).trans (by simp [go_sem]), (hk.frozen (p := ⟨w.heap.size, 4, none⟩) (by first | (simp; done) | (simp; omega))).trans (by simp [go_sem]), (hk.cell (p := ⟨w.heap.size, 5, none⟩) (by first | (simp; done) | (simp; omega))).trans (by simp [go_sem]), (hk.frozen (p := ⟨w.heap.size, 5, none⟩) (by first | (simp; done) | (simp; omega))).trans (by simp [go_sem])⟩)
  have HB := Lib.hid (show Keeps w (w.alloc (.cells #[.int .i64 wd, .int .i64 jn, .int .i64 cp, .int .i64 ml, .slice A n c, .int .i64 ph] 27)) from (by (repeat (first | (with_reducible exact Keeps.refl _) | (with_reducible assumption) | (with_reducible refine Keeps.drewN ?_ _) | (with_reducible refine Keeps.drew ?_) | (with_reducible refine Keeps.alloc ?_ _) | (with_reducible refine Keeps.setNew ?_ ?_ _))) <;> (dsimp only; omega)))
  have hk0 := Keeps.refl (w.alloc (.cells #[.int .i64 wd, .int .i64 jn, .int .i64 cp, .int .i64 ml, .slice A n c, .int .i64 ph] 27))
  have KR := Lib.hid (fun w' (hk : Keeps w w') => rruns_any wd jn cp ml ph long A n c D 1073741824 w' (h.keep hk) (by omega) (by omega))
  rw [show ((1073741824 : Nat) : Int) = 1073741824 from rfl] at KR
  obtain ⟨y0, y1, y2, y3, y4, y5, y6, y7, y8, y9, y10, y11⟩ := HS.out _ hk0
  clear h
  go_enter Try.func17, Try.ntmps17
  go_wp2_with (go_at_call 35; (with_reducible refine (KR.out _ HB.out).mono ?_); rintro e w1 ⟨R, A1, c1, rfl, hP, hk, hR, -⟩; replace hP := Lib.hid hP; replace hR := Lib.hid hR)
  go_ret
  have hRR : R = onL wd jn cp ml ph D long := by
    rcases hR.out with h1 | ⟨_, h2, _⟩
    · exact h1
    · exfalso
      unfold onL at h2
      split at h2
      · have := (ivs_of (onI D ph) long (by omega)).len (by omega)
        omega
      · simp at h2
  rw [← hRR]
  exact ⟨A1, c1, rfl, hP.out, HB.out.trans hk⟩
end Go.Proofs.Ytihmhpleiefodaa
