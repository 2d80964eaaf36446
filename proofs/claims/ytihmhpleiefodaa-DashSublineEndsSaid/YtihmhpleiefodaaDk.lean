/- The contract of dash.OnIntervals' iterator. -/
import Derived.Test.YtihmhpleiefodaaDr
import Derived.Test.YtihmhpleiefodaaKw
namespace Go.Proofs.Ytihmhpleiefodaa
open Go.RowKit Go.Shelf
set_option linter.unusedVariables false
set_option linter.unusedSimpArgs false
/-- The intervals that OnIntervals yields. -/
def onL (wd jn cp ml ph : Int) (D : List Int) (long : Int) : List (Int × Int) := if stB wd jn cp ml ph D = true ∧ 0 < long then ivs (onI D ph) long else []
theorem j_keeps {α : Type} {J : List α → World → Prop} {B : Nat} (hJ : AbidesFrom B J) {s : List α} {X Y : World} (h : J s X) (hk : Keeps X Y) : J s Y := hJ s X Y none h (grown_keeps hk) (fun r e => by cases e)
theorem cell_lt {w : World} {b o : Nat} {v : Value} (h : w.cell? ⟨b, o, none⟩ = some v) : b < w.heap.size := by
  rcases Nat.lt_or_ge b w.heap.size with h1 | h1
  · exact h1
  · have : w.heap[b]? = none := Array.getElem?_eq_none h1
    simp [World.cell?, this] at h
theorem Ins.cellAt {w : World} {b o n c : Nat} {D : List Int} (h : Ins w (some ⟨b, o, none⟩) n c D) {j : Nat} (hj : j < n) : w.cell? ⟨b, o + j, none⟩ = some (.int .i64 (D.getD j 0)) := by
  obtain ⟨b', o', e, hb, hc⟩ := h.at hj
  cases e
  exact hc
def dist (i p n : Nat) : Nat := if i ≤ p then p - i else p + n - i
theorem dist_step {i i2 p n : Nat} (hi : i < n) (hp : p < n) (hne : i ≠ p) (h : (i + 1) % n = i2) : dist i2 p n < dist i p n := by
  by_cases e : i + 1 = n
  · rw [e, Nat.mod_self] at h
    subst h
    unfold dist
    rw [if_pos (by omega), if_neg (by omega)]
    omega
  · rw [Nat.mod_eq_of_lt (by omega)] at h
    subst h
    unfold dist
    split <;> split <;> omega
theorem dist_le (i p n : Nat) (hi : i < n) (hp : p < n) : dist i p n < n := by unfold dist; split <;> omega
section
attribute [local go_sem] Oper.semAt_some
set_option maxRecDepth 100000 in
set_option maxHeartbeats 2000000 in
theorem oni1_in (q : Nat) (h1 : 1 ≤ q) (l Bs Bl : Nat) (wd jn cp ml ph long : Int) (A : Option Addr) (n c : Nat) (D : List Int) (Kp : World → World → Prop) (hKt : ∀ {X Y Z : World}, Kp X Y → Kp Y Z → Kp X Z) (J Jx : List (Int × Int) → World → Prop)
    (hY : ∀ pre x W, J pre W → pre.length < (onL wd jn cp ml ph D long).length → (0 ≤ x.1 ∧ x.1 < x.2 ∧ x.2 ≤ long) → YieldAt Fence.wide (q - 1) Try.prog l #[.int .i64 x.1, .int .i64 x.2] W fun e W' =>
      (e = .returned (.bool true) ∧ J (pre ++ [x]) W' ∧ Kp W W') ∨ (e = .returned (.bool false) ∧ Jx (pre ++ [x]) W'))
    (W : World) (hJ : AbidesFrom W.heap.size J) (hKk : ∀ {X Y : World}, Kp W X → Keeps X Y → Kp W Y) (hKr : Kp W W)
    (hC : ∀ W', Kp W W' → (W'.cell? ⟨Bs, 0, none⟩ = some (.int .i64 wd) ∧ W'.cell? ⟨Bs, 1, none⟩ = some (.int .i64 jn) ∧ W'.cell? ⟨Bs, 2, none⟩ = some (.int .i64 cp) ∧ W'.cell? ⟨Bs, 3, none⟩ = some (.int .i64 ml) ∧ W'.cell? ⟨Bs, 4, none⟩ = some (.slice A n c) ∧ W'.cell? ⟨Bs, 5, none⟩ = some (.int .i64 ph) ∧ W'.cell? ⟨Bl, 0, none⟩ = some (.int .i64 long)) ∧ Ins W' A n c D) (h0 : J [] W) (hlong : long ≤ 4611686018427387904) :
    CallsIn Fence.wide q Try.prog 53 #[.func (.yield l) #[] #[], .pointer (some ⟨Bs, 0, none⟩), .pointer (some ⟨Bl, 0, none⟩)] W fun e W' => (∃ v, e = .returned v) ∧
      ((∃ ys, ys = onL wd jn cp ml ph D long ∧ J ys W') ∨ (∃ pre, pre <+: onL wd jn cp ml ph D long ∧ Jx pre W')) := by
  have hl := (hC W hKr).2.1
  obtain ⟨⟨y0, y1, y2, y3, y4, y5, y6⟩, hI⟩ := hC W hKr
  replace hC := Lib.hid hC
  have KV := Lib.hid (style_any wd jn cp ml ph A n c D W hI)
  refine callsIn_of_wp Try.func53 rfl trivial ?_ rfl
  simp only [Try.ntmps53, List.size_toArray, List.length_cons, List.length_nil, Nat.reduceAdd, Nat.reduceSub, Array.replicate_succ, Array.replicate_zero, List.push_toArray, List.append_toArray, List.nil_append, List.cons_append]
  cases hs : stB wd jn cp ml ph D with
  | false =>
    have hR := Lib.hid (show onL wd jn cp ml ph D long = [] by unfold onL; rw [if_neg (by rw [hs]; simp)])
    rw [hs] at KV
    clear hs hY
    gi_wp2_with ((try refine ⟨trivial, ?_⟩); gi_at_call 31; refine (callsIn_wide.2 KV.out).mono ?_; rintro e w1 ⟨rfl, hk⟩)
    refine bodyPost_ret (results_none rfl _ _ _) rfl ?_
    exact ⟨⟨_, rfl⟩, .inl ⟨_, rfl, by rw [hR.out]; exact j_keeps hJ h0 hk⟩⟩
  | true =>
    rw [hs] at KV
    have hlk := Lib.hid (fun w1 (hk : Keeps W w1) => (hC.out w1 (hKk hKr hk)).1)
    by_cases hl0 : long ≤ 0
    · have hR := Lib.hid (show onL wd jn cp ml ph D long = [] by unfold onL; rw [if_neg (by rintro ⟨_, h⟩; omega)])
      clear hs hY
      gi_wp2_with ((try refine ⟨trivial, ?_⟩); gi_at_call 31; refine (callsIn_wide.2 KV.out).mono ?_; rintro e w1 ⟨rfl, hk⟩; obtain ⟨z0, z1, z2, z3, z4, z5, z6⟩ := hlk.out w1 hk; have hb1 := cell_lt z0)
      refine bodyPost_ret (results_none rfl _ _ _) rfl ?_
      exact ⟨⟨_, rfl⟩, .inl ⟨_, rfl, by rw [hR.out]; exact j_keeps hJ h0 hk⟩⟩
    · have hR := Lib.hid (show onL wd jn cp ml ph D long = ivs (onI D ph) long by unfold onL; rw [if_pos ⟨hs, by omega⟩])
      obtain ⟨hdb, p0, p1⟩ := stB_ok hs
      obtain ⟨hok, hev, h16, hpos⟩ := dashB_ok hdb
      rw [hR.out] at hY
      replace hY := Lib.hid hY
      replace hok := Lib.hid hok
      have hl0b : decide (long ≤ 0) = false := decide_eq_false hl0
      clear hs hdb
      gi_wp2_with ((try refine ⟨trivial, ?_⟩); gi_at_call 31; refine (callsIn_wide.2 KV.out).mono ?_; rintro e w1 ⟨rfl, hk⟩; obtain ⟨z0, z1, z2, z3, z4, z5, z6⟩ := hlk.out w1 hk; have hb1 := cell_lt z0)
      have hB0 := BoxN.new w1 36 #[.int .i64 0, .int .i64 0]
      have hkA := hk.alloc (.cells #[.int .i64 0, .int .i64 0] 36)
      have hH : W.heap.size ≤ w1.heap.size := hk.size
      clear hk KV hlk z0 z1 z2 z3 z4 z5 z6 y0 y1 y2 y3 y4 y5 y6 hI hb1
      generalize w1.alloc (.cells #[.int .i64 0, .int .i64 0] 36) = W1 at *
      generalize w1.heap.size = H at *
      clear w1
      gi_loopw [22] (fun i wr => ∃ j : Nat, i = .int .i64 j ∧ j ≤ n ∧ Keeps W wr ∧ BoxN wr H 36 #[.int .i64 (sumP 0 D j), .int .i64 (sumP 1 D j)]) (fun i _ => n - (intOf i).toNat)
      case atStart => exact ⟨0, rfl, by omega, hkA, hB0⟩
      case round =>
        clear hkA hB0
        obtain ⟨j, rfl, hj, hkw, hbx⟩ := hrel
        obtain ⟨⟨z0, z1, z2, z3, z4, z5, z6⟩, hIw⟩ := hC.out wr (hKk hKr hkw)
        have x0 : wr.cell? ⟨H, 0, none⟩ = some (.int .i64 (sumP 0 D j)) := (hbx.cell 0).trans rfl
        have x1 : wr.cell? ⟨H, 1, none⟩ = some (.int .i64 (sumP 1 D j)) := (hbx.cell 1).trans rfl
        have f0 := hbx.frozen 0
        have f1 := hbx.frozen 1
        by_cases hlt : j < n
        · obtain ⟨b, o, rfl, hb, c0⟩ := hIw.at hlt
          have hd := hok.out j
          have hU0 := sumP_bd hok.out 0 j
          have hU1 := sumP_bd hok.out 1 j
          have hV0 := Lib.hid (sumP_succ 0 D j)
          have hV1 := Lib.hid (sumP_succ 1 D j)
          have hlt2 : (j : Int) < n := by omega
          clear hIw
          generalize D.getD j 0 = d at *
          generalize sumP 0 D j = u0 at *
          generalize sumP 1 D j = u1 at *
          by_cases he : j % 2 = 0
          · have he2 : (j : Int) % 2 = 0 := by omega
            gi_wp2
            go_roundw
            case rel =>
              refine ⟨j + 1, by go_num, by omega, hkw.setNew (by dsimp only; omega) _, ?_⟩
              have := hbx.set 0 (.int .i64 (u0 + d))
              simp only [List.setIfInBounds_toArray, List.set_cons_succ, List.set_cons_zero] at this
              rw [hV0.out, if_pos he, hV1.out, if_neg (by omega), Int.add_zero]
              exact this
            case measure => simp [intOf]; omega
          · have he2 : (j : Int) % 2 = 1 := by omega
            gi_wp2
            go_roundw
            case rel =>
              refine ⟨j + 1, by go_num, by omega, hkw.setNew (by dsimp only; omega) _, ?_⟩
              have := hbx.set 1 (.int .i64 (u1 + d))
              simp only [List.setIfInBounds_toArray, List.set_cons_succ, List.set_cons_zero] at this
              rw [hV0.out, if_neg he, hV1.out, if_pos (by omega), Int.add_zero]
              exact this
            case measure => simp [intOf]; omega
        · obtain rfl : j = n := by omega
          by_cases hz1 : sumP 1 D j = 0
          · have hz1b : (sumP 1 D j == 0) = true := by rw [hz1]; rfl
            have hL := ivs_all (onI D ph) long (by omega) (fun x _ _ => on_all hok.out ph hpos (by rw [hl]; exact hz1) x)
            have hJ1 := j_keeps hJ h0 hkw
            obtain ⟨fn, tmps, assign, body, hy, hR1⟩ := hY.out [] (0, long) wr hJ1 (by rw [hL]; simp) ⟨Int.le_refl _, by dsimp only; omega, Int.le_refl _⟩
            dsimp only at hy
            replace hL := Lib.hid hL
            clear hz1
            gi_wp2
            refine hR1.mono ?_
            rintro e W3 (⟨rfl, hJ3, hk3⟩ | ⟨rfl, hJ3⟩)
            · gi_wp2
              refine bodyPost_ret (results_none rfl _ _ _) rfl ?_
              exact ⟨⟨_, rfl⟩, .inl ⟨_, rfl, by rw [hR.out, hL.out]; exact hJ3⟩⟩
            · gi_wp2
              refine bodyPost_ret (results_none rfl _ _ _) rfl ?_
              exact ⟨⟨_, rfl⟩, .inr ⟨[(0, long)], by rw [hR.out, hL.out]; exact List.prefix_refl _, hJ3⟩⟩
          · have hz1b : (sumP 1 D j == 0) = false := by simpa using hz1
            have hpt : 0 < totD D := by
              rcases hpos with h | h
              · exact absurd (by rw [show j = 0 by omega]; rfl) hz1
              · exact h
            by_cases hz0 : sumP 0 D j = 0
            · have hz0b : (sumP 0 D j == 0) = true := by rw [hz0]; rfl
              have hL := ivs_none (onI D ph) long (by omega) (fun x _ _ => on_none hok.out ph hpt (by rw [hl]; exact hz0) x)
              have hJ1 := j_keeps hJ h0 hkw
              replace hL := Lib.hid hL
              clear hz0 hz1
              gi_wp2
              refine bodyPost_ret (results_none rfl _ _ _) rfl ?_
              exact ⟨⟨_, rfl⟩, .inl ⟨_, rfl, by rw [hR.out, hL.out]; exact hJ1⟩⟩
            · have hz0b : (sumP 0 D j == 0) = false := by simpa using hz0
              have hJ1 := j_keeps hJ h0 hkw
              have KP := Lib.hid (phase_any wd jn cp ml ph A j c D 0 wr hIw hok.out (by omega) hpt (by omega) (by omega) p0 p1)
              gi_wp2_with ((try refine ⟨trivial, ?_⟩); gi_at_call 32; refine (callsIn_wide.2 KP.out).mono ?_; rintro e w2 ⟨⟨p, hAt, rfl⟩, hk2⟩; replace hAt := Lib.hid hAt)
              have hkw2 := hkw.trans hk2
              have hI0 := InD.of_at hok.out hAt.out
              have hp9 := hAt.out.1
              have hp8 := hAt.out.2
              rw [sumK_succ] at hp8
              have hp8 := hok.out p
              have hJ2 := j_keeps hJ h0 hkw2
              have hKp2 := hKk hKr hkw2
              have hsp := sumK_succ D p
              have hll : (j : Int) ≤ 16 := by omega
              have hleft : 0 < sumK D (p + 1) - posK D ph 0 ∧ sumK D (p + 1) - posK D ph 0 ≤ 268435456 ∧ D.getD p 0 ≠ 0 := by have h1 := hAt.out.2; rw [hsp] at h1 ⊢; omega
              obtain ⟨hl1, hl2, hl3⟩ := hleft
              have hpj : p < j := by omega
              clear hkw hk2 hkw2 hJ1 KP hAt hbx x0 x1 f0 f1 z0 z1 z2 z3 z4 z5 z6 hIw hsp hp8 hz0 hz1 hz1b hz0b
              generalize sumK D (p + 1) - posK D ph 0 = left0 at *
              replace hl3 := Lib.hid hl3
              gi_loopw [7, 8, 9, 10] (fun fr iv lv av wr => ∃ (pre : List (Int × Int)) (f : Int) (i : Nat) (lf a : Int), fr = .int .i64 f ∧ iv = .int .i64 i ∧ lv = .int .i64 lf ∧ av = .int .i64 a ∧ 0 ≤ a ∧ a ≤ long ∧ i < j ∧ 0 ≤ lf ∧ lf ≤ 268435456 ∧ Hid (a < long → InD D ph a i lf) ∧ Hid (lf = 0 → D.getD i 0 = 0) ∧ J pre wr ∧ Kp W wr ∧ Hid ((f = -1 ∧ Open0 (onI D ph) long pre a) ∨ (0 ≤ f ∧ Open1 (onI D ph) long pre f a))) (fun _ iv _ av _ => (long - intOf av).toNat * 20 + dist (intOf iv).toNat p j)
              case atStart => exact ⟨[], -1, p, left0, 0, rfl, rfl, rfl, rfl, by omega, by omega, hpj, by omega, by omega, Lib.hid (fun _ => hI0), Lib.hid (fun h => by omega), hJ2, hKp2, Lib.hid (.inl ⟨rfl, open0_start _ _⟩)⟩
              case round =>
                clear hI0 hJ2 hKp2 hl1 hl2
                obtain ⟨pre, f, i, lf, a, rfl, rfl, rfl, rfl, ha0, haz, hij, hlf0, hlf1, hIn, hz, hJw, hkw, hF⟩ := hrel
                obtain ⟨⟨z0, z1, z2, z3, z4, z5, z6⟩, hIw⟩ := hC.out wr hkw
                by_cases hlt : a < long
                · replace hIn := Lib.hid (hIn.out hlt)
                  obtain ⟨i2, hi2e⟩ : ∃ i2 : Nat, (i + 1) % j = i2 := ⟨_, rfl⟩
                  have hi2 : i2 < j := by rw [← hi2e]; exact Nat.mod_lt _ (by omega)
                  have hpm : ((i : Int) + 1).tmod j = i2 := by rw [Int.tmod_eq_emod_of_nonneg (by omega), ← hi2e]; rfl
                  have hmz : ((j : Int) == 0) = false := by simp only [beq_eq_false_iff_ne]; omega
                  have hi2i : (i2 : Int) < j := by omega
                  obtain ⟨b, o, rfl, hb, _⟩ := hIw.at hi2
                  have c0 := hIw.cellAt hi2
                  have hdb := hok.out i2
                  have hnx0 := Lib.hid (fun (e : long - a ≥ lf) => InD.next hok.out hIn.out i2 (by rw [hl]; exact hi2e))
                  have hon0 := Lib.hid (fun x h1 h2 => hIn.out.on hok.out x h1 h2)
                  have hdd := Lib.hid (rfl : D.getD i2 0 = D.getD i2 0)
                  have hst : Hid (i ≠ p → (long - a).toNat * 20 + dist i2 p j < (long - a).toNat * 20 + dist i p j) := Lib.hid (fun hne => by
                    have : dist i2 p j < dist i p j := dist_step hij hpj hne hi2e
                    omega)
                  have hdl := Lib.hid (dist_le i2 p j hi2 hpj)
                  generalize hdg : D.getD i2 0 = d at *
                  replace hdg := Lib.hid hdg
                  have hd0 : Hid (256 * d = 0 → D.getD i2 0 = 0) := Lib.hid (fun h => by rw [hdg.out]; omega)
                  replace hi2e := Lib.hid hi2e
                  clear hIw
                  by_cases hlz : lf = 0
                  · subst hlz
                    have hne : Hid (i ≠ p) := Lib.hid (fun h => hl3.out (by rw [← h]; exact hz.out rfl))
                    have hmn : (0 : Int) ≤ long - a := by omega
                    have hmn2 : ¬ (long - a < 0) := by omega
                    have hnx := Lib.hid (fun (_ : a + 0 < long) => hnx0.out (by omega))
                    gi_wp2
                    go_roundw
                    case rel => exact ⟨pre, f, i2, 256 * d, a, rfl, rfl, by first | rfl | go_num, by first | rfl | go_num, by omega, by omega, hi2, by omega, by omega, Lib.hid (fun h => by have := hnx.out (by omega); rwa [Int.add_zero] at this), hd0, hJw, hkw, hF⟩
                    case measure => have h9 := hst.out hne.out; simp [intOf]; omega
                  · have hlp : 0 < lf := by omega
                    by_cases hc : lf ≤ long - a
                    · have hon := Lib.hid (fun x (h1 : a ≤ x) (h2 : x < a + lf) => hon0.out x h1 h2)
                      have hnx := Lib.hid (fun (_ : a + lf < long) => hnx0.out (by omega))
                      have hz9 : (lf == 0) = false := by simp only [beq_eq_false_iff_ne]; omega
                      clear hst hnx0 hon0
                      rcases Nat.mod_two_eq_zero_or_one i with he | he
                      · have he2 : (i : Int) % 2 = 0 := by omega
                        replace hon := Lib.hid (fun x h1 h2 => (hon.out x h1 h2).trans (decide_eq_true he))
                        rcases hF.out with ⟨rfl, hO⟩ | ⟨hf, hO⟩
                        · replace hO := Lib.hid hO
                          gi_wp2
                          go_roundw
                          case rel => exact ⟨pre, a, i2, 256 * d, a + lf, rfl, rfl, by first | rfl | go_num, by go_num, by omega, by omega, hi2, by omega, by omega, hnx, hd0, hJw, hkw, Lib.hid (.inr ⟨ha0, hO.out.on ha0 (by omega) hon.out⟩)⟩
                          case measure => have := hdl.out; simp [intOf]; omega
                        · have hfn : decide (f < 0) = false := decide_eq_false (by omega)
                          replace hO := Lib.hid hO
                          gi_wp2
                          go_roundw
                          case rel => exact ⟨pre, f, i2, 256 * d, a + lf, rfl, rfl, by first | rfl | go_num, by go_num, by omega, by omega, hi2, by omega, by omega, hnx, hd0, hJw, hkw, Lib.hid (.inr ⟨hf, hO.out.on (by omega) hon.out⟩)⟩
                          case measure => have := hdl.out; simp [intOf]; omega
                      · have he2 : (i : Int) % 2 = 1 := by omega
                        replace hon := Lib.hid (fun x h1 h2 => (hon.out x h1 h2).trans (decide_eq_false (show ¬ i % 2 = 0 by omega)))
                        rcases hF.out with ⟨rfl, hO⟩ | ⟨hf, hO⟩
                        · replace hO := Lib.hid hO
                          gi_wp2
                          go_roundw
                          case rel => exact ⟨pre, -1, i2, 256 * d, a + lf, rfl, rfl, by first | rfl | go_num, by go_num, by omega, by omega, hi2, by omega, by omega, hnx, hd0, hJw, hkw, Lib.hid (.inl ⟨rfl, hO.out.off (by omega) hon.out⟩)⟩
                          case measure => have := hdl.out; simp [intOf]; omega
                        · have hcl := hO.close (by omega) (fun _ => hon.out a (Int.le_refl _) (by omega))
                          have hpr := hcl.pre (by omega) (by omega)
                          have hlen := hO.more (by omega) (by omega)
                          obtain ⟨fn, tmps, assign, body, hy, hR1⟩ := hY.out pre (f, a) wr hJw hlen ⟨hf, hO.1, by dsimp only; omega⟩
                          dsimp only at hy
                          replace hcl := Lib.hid hcl
                          replace hpr := Lib.hid hpr
                          clear hO hlen hF
                          gi_wp2
                          refine hR1.mono ?_
                          rintro e W3 (⟨rfl, hJ3, hk3⟩ | ⟨rfl, hJ3⟩)
                          · have hk4 := hKt hkw hk3
                            obtain ⟨⟨x0, x1, x2, x3, x4, x5, x6⟩, hI3⟩ := hC.out W3 hk4
                            have d3 := hI3.cellAt hi2
                            rw [hdg.out] at d3
                            clear hI3
                            gi_wp2
                            go_roundw
                            case rel => exact ⟨pre ++ [(f, a)], -1, i2, 256 * d, a + lf, rfl, rfl, by first | rfl | go_num, by go_num, by omega, by omega, hi2, by omega, by omega, hnx, hd0, hJ3, hk4, Lib.hid (.inl ⟨rfl, hcl.out.off (by omega) hon.out⟩)⟩
                            case measure => have := hdl.out; simp [intOf]; omega
                          · gi_wp2
                            refine bodyPost_ret (results_none rfl _ _ _) rfl ?_
                            exact ⟨⟨_, rfl⟩, .inr ⟨_, by rw [hR.out]; exact hpr.out, hJ3⟩⟩
                    · have hon := Lib.hid (fun x (h1 : a ≤ x) (h2 : x < a + (long - a)) => hon0.out x h1 (by omega))
                      have hnx : Hid (a + (long - a) < long → InD D ph (a + (long - a)) i2 (256 * d)) := Lib.hid (fun h => absurd h (by omega))
                      have hz9 : (long - a == 0) = false := by simp only [beq_eq_false_iff_ne]; omega
                      have hc2 : long - a < lf := by omega
                      clear hst hnx0 hon0
                      rcases Nat.mod_two_eq_zero_or_one i with he | he
                      · have he2 : (i : Int) % 2 = 0 := by omega
                        replace hon := Lib.hid (fun x h1 h2 => (hon.out x h1 h2).trans (decide_eq_true he))
                        rcases hF.out with ⟨rfl, hO⟩ | ⟨hf, hO⟩
                        · replace hO := Lib.hid hO
                          gi_wp2
                          go_roundw
                          case rel => exact ⟨pre, a, i2, 256 * d, a + (long - a), rfl, rfl, by first | rfl | go_num, by go_num, by omega, by omega, hi2, by omega, by omega, hnx, hd0, hJw, hkw, Lib.hid (.inr ⟨ha0, hO.out.on ha0 (by omega) hon.out⟩)⟩
                          case measure => have := hdl.out; simp [intOf]; omega
                        · have hfn : decide (f < 0) = false := decide_eq_false (by omega)
                          replace hO := Lib.hid hO
                          gi_wp2
                          go_roundw
                          case rel => exact ⟨pre, f, i2, 256 * d, a + (long - a), rfl, rfl, by first | rfl | go_num, by go_num, by omega, by omega, hi2, by omega, by omega, hnx, hd0, hJw, hkw, Lib.hid (.inr ⟨hf, hO.out.on (by omega) hon.out⟩)⟩
                          case measure => have := hdl.out; simp [intOf]; omega
                      · have he2 : (i : Int) % 2 = 1 := by omega
                        replace hon := Lib.hid (fun x h1 h2 => (hon.out x h1 h2).trans (decide_eq_false (show ¬ i % 2 = 0 by omega)))
                        rcases hF.out with ⟨rfl, hO⟩ | ⟨hf, hO⟩
                        · replace hO := Lib.hid hO
                          gi_wp2
                          go_roundw
                          case rel => exact ⟨pre, -1, i2, 256 * d, a + (long - a), rfl, rfl, by first | rfl | go_num, by go_num, by omega, by omega, hi2, by omega, by omega, hnx, hd0, hJw, hkw, Lib.hid (.inl ⟨rfl, hO.out.off (by omega) hon.out⟩)⟩
                          case measure => have := hdl.out; simp [intOf]; omega
                        · have hcl := hO.close (by omega) (fun _ => hon.out a (Int.le_refl _) (by omega))
                          have hpr := hcl.pre (by omega) (by omega)
                          have hlen := hO.more (by omega) (by omega)
                          obtain ⟨fn, tmps, assign, body, hy, hR1⟩ := hY.out pre (f, a) wr hJw hlen ⟨hf, hO.1, by dsimp only; omega⟩
                          dsimp only at hy
                          replace hcl := Lib.hid hcl
                          replace hpr := Lib.hid hpr
                          clear hO hlen hF
                          gi_wp2
                          refine hR1.mono ?_
                          rintro e W3 (⟨rfl, hJ3, hk3⟩ | ⟨rfl, hJ3⟩)
                          · have hk4 := hKt hkw hk3
                            obtain ⟨⟨x0, x1, x2, x3, x4, x5, x6⟩, hI3⟩ := hC.out W3 hk4
                            have d3 := hI3.cellAt hi2
                            rw [hdg.out] at d3
                            clear hI3
                            gi_wp2
                            go_roundw
                            case rel => exact ⟨pre ++ [(f, a)], -1, i2, 256 * d, a + (long - a), rfl, rfl, by first | rfl | go_num, by go_num, by omega, by omega, hi2, by omega, by omega, hnx, hd0, hJ3, hk4, Lib.hid (.inl ⟨rfl, hcl.out.off (by omega) hon.out⟩)⟩
                            case measure => have := hdl.out; simp [intOf]; omega
                          · gi_wp2
                            refine bodyPost_ret (results_none rfl _ _ _) rfl ?_
                            exact ⟨⟨_, rfl⟩, .inr ⟨_, by rw [hR.out]; exact hpr.out, hJ3⟩⟩
                · obtain rfl : a = long := by omega
                  rcases hF.out with ⟨rfl, hO⟩ | ⟨hf, hO⟩
                  · have hL := Lib.hid (hO.done (by omega))
                    clear hF hO
                    gi_wp2
                    go_end0
                    exact ⟨⟨_, rfl⟩, .inl (by rw [hR.out, ← hL.out]; exact hJw)⟩
                  · have hcl := hO.close (by omega) (fun h => by omega)
                    have hL := hcl.done (by omega)
                    have hlen := hO.more (by omega) (by omega)
                    obtain ⟨fn, tmps, assign, body, hy, hR1⟩ := hY.out pre (f, a) wr hJw hlen ⟨hf, hO.1, by dsimp only; omega⟩
                    dsimp only at hy
                    replace hL := Lib.hid hL
                    clear hO hlen hF hcl
                    gi_wp2
                    refine hR1.mono ?_
                    rintro e W3 (⟨rfl, hJ3, hk3⟩ | ⟨rfl, hJ3⟩)
                    · gi_wp2
                      go_end0
                      exact ⟨⟨_, rfl⟩, .inl ⟨_, rfl, by rw [hR.out, ← hL.out]; exact hJ3⟩⟩
                    · gi_wp2
                      go_end0
                      exact ⟨⟨_, rfl⟩, .inr ⟨_, by rw [hR.out, ← hL.out]; exact List.prefix_refl _, hJ3⟩⟩
end
end Go.Proofs.Ytihmhpleiefodaa
