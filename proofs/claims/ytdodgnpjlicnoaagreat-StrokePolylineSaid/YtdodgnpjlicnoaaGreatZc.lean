/- Contract of reference 24's joins. -/
import Derived.Test.YtdodgnpjlicnoaaGreatZb
import Derived.Test.YtdodgnpjlicnoaaGreatE24
namespace Go.Proofs.YtdodgnpjlicnoaaGreat
section
open Go.RowKit
attribute [local go_sem ↓] Go.wp_at_zero Go.wp_at_succ
set_option linter.unusedVariables false
set_option linter.unusedSimpArgs false
def joinsL (closed : Bool) (L : List Pt) (wd jn cp ml ph : Int) (D : List Int) : List (List Pt) := if L.length ≤ 1 then [] else flatTo (joinK closed L wd jn cp ml ph D) L.length
theorem joinL_put (u v b : Pt) (wd jn cp ml ph : Int) (D : List Int) : putL (joinL u v b wd jn cp ml ph D) = joinL u v b wd jn cp ml ph D := putL_wrap _
set_option maxRecDepth 100000 in
set_option maxHeartbeats 8000000 in
theorem joins_any (cl : Bool) (A : Option Addr) (n c : Nat) (L : List Pt) (wd jn cp ml ph : Int) (Ad : Option Addr) (nd cd : Nat) (D : List Int) (w : World) (h : Pts w A n c L) (hI : Ins w Ad nd cd D) (hn : n ≤ 100000) :
    Calls Tryz.prog 42 #[.agg #[.slice A n c, .bool cl], .agg #[.int .i64 wd, .int .i64 jn, .int .i64 cp, .int .i64 ml, .slice Ad nd cd, .int .i64 ph]] w fun e w' => ∃ v, e = .returned v ∧ GRws w' w.heap.size v (joinsL cl L wd jn cp ml ph D) ∧ Keeps w w' := by
  have hl := h.1
  have hni : (n : Int) ≤ 100000 := by omega
  have HS := Lib.hid (show ∀ w', Keeps ((w.alloc (.cells #[.slice A n c, .bool cl] 24)).alloc (.cells #[.int .i64 wd, .int .i64 jn, .int .i64 cp, .int .i64 ml, .slice Ad nd cd, .int .i64 ph] 27)) w' → w'.cell? ⟨w.heap.size, 0, none⟩ = some (.slice A n c) ∧ w'.frozen? ⟨w.heap.size, 0, none⟩ = false ∧ w'.cell? ⟨w.heap.size, 1, none⟩ = some (.bool cl) ∧ w'.frozen? ⟨w.heap.size, 1, none⟩ = false ∧ w'.cell? ⟨w.heap.size + 1, 0, none⟩ = some (.int .i64 wd) ∧ w'.frozen? ⟨w.heap.size + 1, 0, none⟩ = false ∧ w'.cell? ⟨w.heap.size + 1, 1, none⟩ = some (.int .i64 jn) ∧ w'.frozen? ⟨w.heap.size + 1, 1, none⟩ = false ∧ w'.cell? ⟨w.heap.size + 1, 2, none⟩ = some (.int .i64 cp) ∧ w'.frozen? ⟨w.heap.size + 1, 2, none⟩ = false ∧ w'.cell? ⟨w.heap.size + 1, 3, none⟩ = some (.int .i64 ml) ∧ w'.frozen? ⟨w.heap.size + 1, 3, none⟩ = false ∧ w'.cell? ⟨w.heap.size + 1, 4, none⟩ = some (.slice Ad nd cd) ∧ w'.frozen? ⟨w.heap.size + 1, 4, none⟩ = false ∧ w'.cell? ⟨w.heap.size + 1, 5, none⟩ = some (.int .i64 ph) ∧ w'.frozen? ⟨w.heap.size + 1, 5, none⟩ = false from fun w' hk => ⟨(hk.cell (p := ⟨w.heap.size, 0, none⟩) (by first | (simp; done) | (simp; omega))).trans (by simp [go_sem]), (hk.frozen (p := ⟨w.heap.size, 0, none⟩) (by first | (simp; done) | (simp; omega))).trans (by simp [go_sem]), (hk.cell (p := ⟨w.heap.size, 1, none⟩) (by first | (simp; done) | (simp; omega))).trans (by simp [go_sem]), (hk.frozen (p := ⟨w.heap.size, 1, none⟩) (by first | (simp; done) | (simp; omega))).trans (by simp [go_sem]), (hk.cell (p := ⟨w.heap.size + 1, 0, none⟩) (by first | (simp; done) | (simp; omega))).trans (by simp [go_sem]), (hk.frozen (p := ⟨w.heap.size + 1, 0, none⟩) (by first | (simp; done) | (simp; omega))).trans (by simp [go_sem]), (hk.cell (p := ⟨w.heap.size + 1, 1, none⟩) (by first | (simp; done) | (simp; omega))).trans (by simp [go_sem]), (hk.frozen (p := ⟨w.heap.size + 1, 1, none⟩) (by first | (simp; done) | (simp; omega))).trans (by simp [go_sem]), (hk.cell (p := ⟨w.heap.size + 1, 2, none⟩) (by first | (simp; done) | (simp; omega))).trans (by simp [go_sem]), (hk.frozen (p := ⟨w.heap.size + 1, 2, none⟩) (by first | (simp; done) | (simp; omega))).trans (by simp [go_sem]), (hk.cell (p := ⟨w.heap.size + 1, 3, none⟩) (by first | (simp; done) | (simp; omega))).trans (by simp [go_sem]), (hk.frozen (p := ⟨w.heap.size + 1, 3, none⟩) (by first | (simp; done) | (simp; omega))).trans (by simp [go_sem]), (hk.cell (p := ⟨w.heap.size + 1, 4, none⟩) (by first | (simp; done) | (simp; omega))).trans (by simp [go_sem]), (hk.frozen (p := ⟨w.heap.size + 1, 4, none⟩) (by first | (simp; done) | (simp; omega))).trans (by simp [go_sem]), (hk.cell (p := ⟨w.heap.size + 1, 5, none⟩) (by first | (simp; done) | (simp; omega))).trans (by simp [go_sem]), (hk.frozen (p := ⟨w.heap.size + 1, 5, none⟩) (by first | (simp; done) | (simp; omega))).trans (by simp [go_sem])⟩)
  have HB := Lib.hid (show Keeps w ((w.alloc (.cells #[.slice A n c, .bool cl] 24)).alloc (.cells #[.int .i64 wd, .int .i64 jn, .int .i64 cp, .int .i64 ml, .slice Ad nd cd, .int .i64 ph] 27)) from (by (repeat (first | (with_reducible exact Keeps.refl _) | (with_reducible assumption) | (with_reducible refine Keeps.drewN ?_ _) | (with_reducible refine Keeps.drew ?_) | (with_reducible refine Keeps.alloc ?_ _) | (with_reducible refine Keeps.setNew ?_ ?_ _))) <;> (dsimp only; omega)))
  have hk0 := Keeps.refl ((w.alloc (.cells #[.slice A n c, .bool cl] 24)).alloc (.cells #[.int .i64 wd, .int .i64 jn, .int .i64 cp, .int .i64 ml, .slice Ad nd cd, .int .i64 ph] 27))
  have hWs : (((w.alloc (.cells #[.slice A n c, .bool cl] 24)).alloc (.cells #[.int .i64 wd, .int .i64 jn, .int .i64 cp, .int .i64 ml, .slice Ad nd cd, .int .i64 ph] 27))).heap.size = w.heap.size + 2 := by simp
  have HP := Lib.hid (fun w' (hk : Keeps w w') => h.keep hk)
  have HI := Lib.hid (fun w' (hk : Keeps w w') => hI.keep hk)
  clear h hI
  unfold joinsL
  by_cases h1 : n ≤ 1
  · rw [if_pos (by omega)]
    have hB0 := Lib.hid ((GRws.nil ((w.alloc (.cells #[.slice A n c, .bool cl] 24)).alloc (.cells #[.int .i64 wd, .int .i64 jn, .int .i64 cp, .int .i64 ml, .slice Ad nd cd, .int .i64 ph] 27)) (w.heap.size) (w.heap.size + 2) 0 hWs (by omega)))
    have hno : (n : Int) ≤ 1 := by omega
    rcases (show (¬ (0 : Int) < n ∧ ¬ (1 : Int) < n) ∨ ((0 : Int) < n ∧ ¬ (1 : Int) < n) by omega) with ⟨h01, h02⟩ | ⟨h01, h02⟩
    all_goals
      go_enter Tryz.func42, Tryz.ntmps42
      go_wp2_with fail
      generalize ((w.alloc (.cells #[.slice A n c, .bool cl] 24)).alloc (.cells #[.int .i64 wd, .int .i64 jn, .int .i64 cp, .int .i64 ml, .slice Ad nd cd, .int .i64 ph] 27)) = W0 at *
      go_loopw [5, 7] (fun q i wr => i = .int .i64 0 ∧ q = .slice (some ⟨w.heap.size + 2, 0, none⟩) 0 0 ∧ Keeps W0 wr ∧ Hid (GRws wr w.heap.size (.slice (some ⟨w.heap.size + 2, 0, none⟩) 0 0) [])) (fun _ _ _ => 0)
      case atStart => exact ⟨rfl, by simp [hWs], hk0.alloc _, hB0⟩
      case round =>
        clear hB0
        obtain ⟨rfl, rfl, hkw, hB0⟩ := hrel
        obtain ⟨y0, y1, y2, y3, y4, y5, y6, y7, y8, y9, y10, y11, y12, y13, y14, y15⟩ := HS.out _ hkw
        go_wp2_with fail
        go_ret
        exact ⟨_, rfl, hB0.out, HB.out.trans hkw⟩
  · rw [if_neg (by omega)]
    obtain ⟨b, o, rfl, hbw, hC0⟩ := (HP.out _ (Keeps.refl _)).2.2.2.2 (by omega)
    have hPt := Lib.hid (fun q (hq : q < n) w' (hk : Keeps w w') => (hC0 q hq).keep hbw hk)
    obtain ⟨m1, hm1⟩ : ∃ m1 : Nat, n = m1 + 1 := ⟨n - 1, by omega⟩
    have e1 : (n : Int) - 1 = m1 := by omega
    have ew1 : IntKind.i64.wrap (m1 : Int) = m1 := IntWalk.i64_in _ (by omega)
    have el1 : (m1 : Int) < n := by omega
    have el0 : (0 : Int) < n := by omega
    have elq : (1 : Int) < n := by omega
    have el0n : 0 < n := by omega
    have el1n : 1 < n := by omega
    have hm1a : n ≤ m1 + 1 := by omega
    have hm1b : m1 + 1 ≤ n := by omega
    clear hC0 hbw hm1
    have hB0 := Lib.hid ((GRws.nil ((w.alloc (.cells #[.slice (some ⟨b, o, none⟩) n c, .bool cl] 24)).alloc (.cells #[.int .i64 wd, .int .i64 jn, .int .i64 cp, .int .i64 ml, .slice Ad nd cd, .int .i64 ph] 27)) (((w.alloc (.cells #[.slice (some ⟨b, o, none⟩) n c, .bool cl] 24)).alloc (.cells #[.int .i64 wd, .int .i64 jn, .int .i64 cp, .int .i64 ml, .slice Ad nd cd, .int .i64 ph] 27))).heap.size (w.heap.size + 2) 0 hWs (by omega)))
    cases cl with
    | true =>
      go_enter Tryz.func42, Tryz.ntmps42
      go_wp2_with fail
      generalize ((w.alloc (.cells #[.slice (some ⟨b, o, none⟩) n c, .bool true] 24)).alloc (.cells #[.int .i64 wd, .int .i64 jn, .int .i64 cp, .int .i64 ml, .slice Ad nd cd, .int .i64 ph] 27)) = W0 at *
      go_loopw [5, 7] (fun q i wr => ∃ (j : Nat) (Aq : Option Addr) (cq : Nat), j ≤ n ∧ i = .int .i64 j ∧ q = .slice Aq (flatTo (joinK true L wd jn cp ml ph D) j).length cq ∧ Keeps W0 wr ∧ Hid (GRws wr W0.heap.size (.slice Aq (flatTo (joinK true L wd jn cp ml ph D) j).length cq) (flatTo (joinK true L wd jn cp ml ph D) j))) (fun _ i _ => n - (intOf i).toNat)
      case atStart => exact ⟨0, some ⟨w.heap.size + 2, 0, none⟩, 0, by omega, rfl, by first | rfl | simp [flatTo, hWs], hk0.alloc _, by first | exact hB0 | (simpa [flatTo, hWs] using hB0)⟩
      case round =>
        clear hB0 hk0
        obtain ⟨j, Aq, cq, hj, rfl, rfl, hkw, hF⟩ := hrel
        have hfl := flatTo_len (joinK true L wd jn cp ml ph D) (fun i => joinK_len _ _ _ _ _ _ _ _ i) j
        obtain ⟨y0, y1, y2, y3, y4, y5, y6, y7, y8, y9, y10, y11, y12, y13, y14, y15⟩ := HS.out _ hkw
        by_cases hlt : j < n
        · have hlt2 : (j : Int) < n := by omega
          have k1 : ∃ k1 : Nat, k1 = j + n - 1 := ⟨_, rfl⟩
          obtain ⟨k1, hk1⟩ := k1
          have r0 : (j : Int) + n - 1 = k1 := by omega
          have r1 : IntKind.i64.wrap (k1 : Int) = k1 := IntWalk.i64_in _ (by omega)
          obtain ⟨s1, hs1⟩ : ∃ s1 : Nat, s1 = k1 % n := ⟨_, rfl⟩
          have hs1n : s1 < n := by rw [hs1]; exact Nat.mod_lt _ (by omega)
          have r2 : (k1 : Int).tmod (n : Int) = (s1 : Int) := by rw [Int.tmod_eq_emod_of_nonneg (by omega), hs1]; rfl
          have r3 : IntKind.i64.wrap (s1 : Int) = s1 := IntWalk.i64_in _ (by omega)
          have r4 : ((s1 : Int)).toNat = s1 := by omega
          have r5 : (s1 : Int) < n := by omega
          have r6 : (0 : Int) ≤ (s1 : Int) := by omega
          obtain ⟨s2, hs2⟩ : ∃ s2 : Nat, s2 = (j + 1) % n := ⟨_, rfl⟩
          have hs2n : s2 < n := by rw [hs2]; exact Nat.mod_lt _ (by omega)
          have t2 : ((j : Int) + 1).tmod (n : Int) = (s2 : Int) := by rw [Int.tmod_eq_emod_of_nonneg (by omega), hs2]; rfl
          have t3 : IntKind.i64.wrap (s2 : Int) = s2 := IntWalk.i64_in _ (by omega)
          have t4 : ((s2 : Int)).toNat = s2 := by omega
          have t5 : (s2 : Int) < n := by omega
          have t6 : (0 : Int) ≤ (s2 : Int) := by omega
          have t7 : IntKind.i64.wrap ((j : Int) + 1) = (j : Int) + 1 := IntWalk.i64_in _ (by omega)
          have n0 : ¬ (n : Int) = 0 := by omega
          have n1 : ¬ n = 0 := by omega
          have hT := Lib.hid (show flatTo (joinK true L wd jn cp ml ph D) (j + 1) = flatTo (joinK true L wd jn cp ml ph D) j ++ joinL (L.getD s1 pt0) (L.getD j pt0) (L.getD s2 pt0) wd jn cp ml ph D by rw [flatTo, joinK, hl, if_pos (show joinI true n j = true from rfl), hs1, hs2, hk1])
          have gs := hPt.out s1 hs1n
          have gp := hPt.out j hlt
          have gt := hPt.out s2 hs2n
          have KJ := Lib.hid (fun w' (hk : Keeps w w') => rjoinF_any (L.getD s1 pt0) (L.getD j pt0) (L.getD s2 pt0) wd jn cp ml ph Ad nd cd D w' (HI.out _ hk))
          have hjl : (joinL (L.getD s1 pt0) (L.getD j pt0) (L.getD s2 pt0) wd jn cp ml ph D).length ≤ 1 := joinL_one _ _ _ _ _ _ _ _ _
          have hpw := Lib.hid (joinL_put (L.getD s1 pt0) (L.getD j pt0) (L.getD s2 pt0) wd jn cp ml ph D)
          have hjs : ∀ r ∈ joinL (L.getD s1 pt0) (L.getD j pt0) (L.getD s2 pt0) wd jn cp ml ph D, r.length ≤ 16 := fun r hr => by
            obtain ⟨rfl, _⟩ := wrapL_mem hr
            exact joinR_short _ _ _ _ _ _ _ _ _
          generalize L.getD s1 pt0 = r at *
          generalize L.getD j pt0 = p at *
          generalize L.getD s2 pt0 = q at *
          generalize joinL r p q wd jn cp ml ph D = JL at *
          clear hs1 hs2 hk1
          generalize flatTo (joinK true L wd jn cp ml ph D) j = LT at *
          go_wp2_with fail
          clear y0 y1 y2 y3 y4 y5 y6 y7 y8 y9 y10 y11 y12 y13 y14 y15
          have z0 : ∀ k : KW wr, k.w.cell? ⟨w.heap.size, 0, none⟩ = some (.slice (some ⟨b, o, none⟩) n c) := fun k => (HS.out _ (hkw.trans k.keeps)).1
          have z2 : ∀ k : KW wr, k.w.cell? ⟨w.heap.size + 1, 0, none⟩ = some (.int .i64 wd) := fun k => (HS.out _ (hkw.trans k.keeps)).2.2.2.2.1
          have z3 : ∀ k : KW wr, k.w.cell? ⟨w.heap.size + 1, 1, none⟩ = some (.int .i64 jn) := fun k => (HS.out _ (hkw.trans k.keeps)).2.2.2.2.2.2.1
          have z4 : ∀ k : KW wr, k.w.cell? ⟨w.heap.size + 1, 2, none⟩ = some (.int .i64 cp) := fun k => (HS.out _ (hkw.trans k.keeps)).2.2.2.2.2.2.2.2.1
          have z5 : ∀ k : KW wr, k.w.cell? ⟨w.heap.size + 1, 3, none⟩ = some (.int .i64 ml) := fun k => (HS.out _ (hkw.trans k.keeps)).2.2.2.2.2.2.2.2.2.2.1
          have z6 : ∀ k : KW wr, k.w.cell? ⟨w.heap.size + 1, 4, none⟩ = some (.slice Ad nd cd) := fun k => (HS.out _ (hkw.trans k.keeps)).2.2.2.2.2.2.2.2.2.2.2.2.1
          have z7 : ∀ k : KW wr, k.w.cell? ⟨w.heap.size + 1, 5, none⟩ = some (.int .i64 ph) := fun k => (HS.out _ (hkw.trans k.keeps)).2.2.2.2.2.2.2.2.2.2.2.2.2.2.1
          have z20 : ∀ k : KW wr, k.w.cell? ⟨b, o + s1 * 2, none⟩ = some (.int .i64 r.1) := fun k => (gs _ (HB.out.trans (hkw.trans k.keeps))).1
          have z21 : ∀ k : KW wr, k.w.cell? ⟨b, o + s1 * 2 + 1, none⟩ = some (.int .i64 r.2) := fun k => (gs _ (HB.out.trans (hkw.trans k.keeps))).2
          have z22 : ∀ k : KW wr, k.w.cell? ⟨b, o + j * 2, none⟩ = some (.int .i64 p.1) := fun k => (gp _ (HB.out.trans (hkw.trans k.keeps))).1
          have z23 : ∀ k : KW wr, k.w.cell? ⟨b, o + j * 2 + 1, none⟩ = some (.int .i64 p.2) := fun k => (gp _ (HB.out.trans (hkw.trans k.keeps))).2
          have z24 : ∀ k : KW wr, k.w.cell? ⟨b, o + s2 * 2, none⟩ = some (.int .i64 q.1) := fun k => (gt _ (HB.out.trans (hkw.trans k.keeps))).1
          have z25 : ∀ k : KW wr, k.w.cell? ⟨b, o + s2 * 2 + 1, none⟩ = some (.int .i64 q.2) := fun k => (gt _ (HB.out.trans (hkw.trans k.keeps))).2
          refine wp_region_kept_tail 24 (wr) (by kernel_rfl) (by kernel_rfl) (Keeps.refl _) ?_
          simp only [List.take_succ_cons, List.take_zero, List.drop_succ_cons, List.drop_zero]
          repeat (first | go_big_quiet_skip | (go_big_quiet_want; go_big_quiet_op; first | go_big_quiet_on | go_big_quiet_call (fail)))
          refine wpQuiet_nil ?_
          rintro w' ⟨k9, rfl⟩
          have hk := k9.keeps
          generalize k9.w = w9 at hk ⊢
          clear k9
          clear z0 z2 z3 z4 z5 z6 z7 z20 z21 z22 z23 z24 z25 gs gp gt r0 r1 r2 r3 r4 r5 r6 t2 t3 t4 t5 t6 t7
          go_wp2_with (go_at_call 60; (with_reducible refine (KJ.out _ (HB.out.trans (hkw.trans hk))).mono ?_); rintro e w10 ⟨Aj, cj, rfl, hRj, hk10⟩; have hkk := Lib.hid (hk.trans hk10); have hRj := Lib.hid hRj; clear hk10)
          have hw9 := hk.size
          have hw0 := Nat.le_trans hkw.size hk.size
          have hjli : (JL.length : Int) ≤ 1 := by omega
          skip
          go_loopw [5, 9] (fun q i wi => ∃ (k : Nat) (Aq : Option Addr) (cq : Nat), k ≤ JL.length ∧ i = .int .i64 k ∧ q = .slice Aq (LT ++ putL (JL.take k)).length cq ∧ Keeps W0 wi ∧ Hid (GRws wi W0.heap.size (.slice Aq (LT ++ putL (JL.take k)).length cq) (LT ++ putL (JL.take k))) ∧ Hid (k = 0 → Keeps w10 wi ∧ ∀ g, (Value.slice Aq (LT ++ putL (JL.take k)).length cq).ownBlock = some g → g < w9.heap.size)) (fun _ i _ => JL.length - (intOf i).toNat)
          case atStart => exact ⟨0, Aq, cq, by omega, rfl, by rw [List.take_zero, show putL [] = [] from rfl, List.append_nil], hkw.trans hkk.out, by rw [List.take_zero, show putL [] = [] from rfl, List.append_nil]; exact Lib.hid (hF.out.keep hkk.out), Lib.hid (fun _ => ⟨Keeps.refl _, fun g hg => Nat.lt_of_lt_of_le (hF.out.lt g (by rw [List.take_zero, show putL [] = [] from rfl, List.append_nil] at hg; exact hg)).2 hw9⟩)⟩
          case round =>
            clear hF
            obtain ⟨k, Aq, cq, hk, rfl, rfl, hkw, hF, hO⟩ := hrel
            have hpl := putL_len (JL.take k)
            rw [List.length_take] at hpl
            have hLT : (LT ++ putL (JL.take k)).length ≤ 200000 := by rw [List.length_append]; omega
            obtain ⟨y0, y1, y2, y3, y4, y5, y6, y7, y8, y9, y10, y11, y12, y13, y14, y15⟩ := HS.out _ hkw
            by_cases hlk : k < JL.length
            · have hk0 : k = 0 := by omega
              have hlk2 : (k : Int) < JL.length := by omega
              obtain ⟨hw10, hown⟩ := hO.out hk0
              obtain ⟨bj, oj, rfl, hbj, hbj2, hCj⟩ := (hRj.out.keep hw10).2.2.2 (by omega)
              obtain ⟨Ak, nk, ck, c0, hPk, hnk, hfk⟩ := hCj k hlk
              have hmem : JL.getD k [] ∈ JL := by rw [List.getD_eq_getElem?_getD, List.getElem?_eq_getElem hlk]; exact List.getElem_mem _
              have hsk := hjs _ hmem
              have hTk := Lib.hid (show LT ++ putL (JL.take (k + 1)) = (LT ++ putL (JL.take k)) ++ wrapL (JL.getD k []) by rw [putL_take JL k hlk, List.append_assoc])
              have hnkl := hPk.1
              have hA := Lib.hid (show ∀ a, Ak = some a → W0.heap.size ≤ a.block ∧ some a.block ≠ (Value.slice Aq (LT ++ putL (JL.take k)).length cq).ownBlock from fun a ha => ⟨by have h2 := hfk a ha; omega, fun e => by have h1 := hown _ e.symm; have h2 := hfk a ha; omega⟩)
              have hPk := Lib.hid hPk
              clear hCj hk0
              generalize JL.getD k [] = X at *
              generalize LT ++ putL (JL.take k) = LS at *
              go_wp2_with (go_at_call 43; (with_reducible refine (rapp_any W0.heap.size _ _ Ak _ ck _ _ hF.out hkw.size hPk.out hnk hA.out (by omega)).mono ?_); rintro e w12 ⟨v12, rfl, hB12, hk12⟩; have hkw12 := hk12 W0 hkw (Nat.le_refl _); have hB12 := Lib.hid hB12; obtain ⟨A12, c12, rfl⟩ := hB12.out.row)
              go_roundw
              case rel => exact ⟨k + 1, A12, c12, by omega, by go_num, by rw [hTk.out, List.length_append], hkw12, by rw [hTk.out]; exact hB12, Lib.hid (fun h => by omega)⟩
              case measure => simp [intOf]; omega
            · obtain rfl : k = JL.length := by omega
              have hlk2 : ¬ (JL.length : Int) < JL.length := by omega
              rw [List.take_of_length_le (Nat.le_refl _), hpw.out] at hF ⊢
              clear hO
              go_wp2_with fail
              go_roundw
              case rel => exact ⟨j + 1, Aq, cq, by omega, by go_num, by rw [hT.out], hkw, by rw [hT.out]; exact hF⟩
              case measure => simp [intOf]; omega
        · obtain rfl : j = n := by omega
          have hlt2 : ¬ (j : Int) < j := by omega
          go_wp2_with fail
          go_ret
          try rw [hl]
          exact ⟨_, rfl, hF.out.base HB.out.size, HB.out.trans hkw⟩
    | false =>
      go_enter Tryz.func42, Tryz.ntmps42
      go_wp2_with fail
      generalize ((w.alloc (.cells #[.slice (some ⟨b, o, none⟩) n c, .bool false] 24)).alloc (.cells #[.int .i64 wd, .int .i64 jn, .int .i64 cp, .int .i64 ml, .slice Ad nd cd, .int .i64 ph] 27)) = W0 at *
      go_loopw [5, 7] (fun q i wr => ∃ (j : Nat) (Aq : Option Addr) (cq : Nat), j ≤ n ∧ i = .int .i64 j ∧ q = .slice Aq (flatTo (joinK false L wd jn cp ml ph D) j).length cq ∧ Keeps W0 wr ∧ Hid (GRws wr W0.heap.size (.slice Aq (flatTo (joinK false L wd jn cp ml ph D) j).length cq) (flatTo (joinK false L wd jn cp ml ph D) j))) (fun _ i _ => n - (intOf i).toNat)
      case atStart => exact ⟨0, some ⟨w.heap.size + 2, 0, none⟩, 0, by omega, rfl, by first | rfl | simp [flatTo, hWs], hk0.alloc _, by first | exact hB0 | (simpa [flatTo, hWs] using hB0)⟩
      case round =>
        clear hB0 hk0
        obtain ⟨j, Aq, cq, hj, rfl, rfl, hkw, hF⟩ := hrel
        have hfl := flatTo_len (joinK false L wd jn cp ml ph D) (fun i => joinK_len _ _ _ _ _ _ _ _ i) j
        obtain ⟨y0, y1, y2, y3, y4, y5, y6, y7, y8, y9, y10, y11, y12, y13, y14, y15⟩ := HS.out _ hkw
        by_cases hlt : j < n
        · have hlt2 : (j : Int) < n := by omega
          by_cases hin : 0 < j ∧ j + 1 < n
          · have hi1 : ((j : Int) == 0) = false := by rw [beq_eq_false_iff_ne]; omega
            have hi2 : ((j : Int) == m1) = false := by rw [beq_eq_false_iff_ne]; omega
            have k1 : ∃ k1 : Nat, k1 = j + n - 1 := ⟨_, rfl⟩
            obtain ⟨k1, hk1⟩ := k1
            have r0 : (j : Int) + n - 1 = k1 := by omega
            have r1 : IntKind.i64.wrap (k1 : Int) = k1 := IntWalk.i64_in _ (by omega)
            obtain ⟨s1, hs1⟩ : ∃ s1 : Nat, s1 = k1 % n := ⟨_, rfl⟩
            have hs1n : s1 < n := by rw [hs1]; exact Nat.mod_lt _ (by omega)
            have r2 : (k1 : Int).tmod (n : Int) = (s1 : Int) := by rw [Int.tmod_eq_emod_of_nonneg (by omega), hs1]; rfl
            have r3 : IntKind.i64.wrap (s1 : Int) = s1 := IntWalk.i64_in _ (by omega)
            have r4 : ((s1 : Int)).toNat = s1 := by omega
            have r5 : (s1 : Int) < n := by omega
            have r6 : (0 : Int) ≤ (s1 : Int) := by omega
            obtain ⟨s2, hs2⟩ : ∃ s2 : Nat, s2 = (j + 1) % n := ⟨_, rfl⟩
            have hs2n : s2 < n := by rw [hs2]; exact Nat.mod_lt _ (by omega)
            have t2 : ((j : Int) + 1).tmod (n : Int) = (s2 : Int) := by rw [Int.tmod_eq_emod_of_nonneg (by omega), hs2]; rfl
            have t3 : IntKind.i64.wrap (s2 : Int) = s2 := IntWalk.i64_in _ (by omega)
            have t4 : ((s2 : Int)).toNat = s2 := by omega
            have t5 : (s2 : Int) < n := by omega
            have t6 : (0 : Int) ≤ (s2 : Int) := by omega
            have t7 : IntKind.i64.wrap ((j : Int) + 1) = (j : Int) + 1 := IntWalk.i64_in _ (by omega)
            have n0 : ¬ (n : Int) = 0 := by omega
            have n1 : ¬ n = 0 := by omega
            have hT := Lib.hid (show flatTo (joinK false L wd jn cp ml ph D) (j + 1) = flatTo (joinK false L wd jn cp ml ph D) j ++ joinL (L.getD s1 pt0) (L.getD j pt0) (L.getD s2 pt0) wd jn cp ml ph D by rw [flatTo, joinK, hl, if_pos (show joinI false n j = true by unfold joinI; simp; omega), hs1, hs2, hk1])
            have gs := hPt.out s1 hs1n
            have gp := hPt.out j hlt
            have gt := hPt.out s2 hs2n
            have KJ := Lib.hid (fun w' (hk : Keeps w w') => rjoinF_any (L.getD s1 pt0) (L.getD j pt0) (L.getD s2 pt0) wd jn cp ml ph Ad nd cd D w' (HI.out _ hk))
            have hjl : (joinL (L.getD s1 pt0) (L.getD j pt0) (L.getD s2 pt0) wd jn cp ml ph D).length ≤ 1 := joinL_one _ _ _ _ _ _ _ _ _
            have hpw := Lib.hid (joinL_put (L.getD s1 pt0) (L.getD j pt0) (L.getD s2 pt0) wd jn cp ml ph D)
            have hjs : ∀ r ∈ joinL (L.getD s1 pt0) (L.getD j pt0) (L.getD s2 pt0) wd jn cp ml ph D, r.length ≤ 16 := fun r hr => by
              obtain ⟨rfl, _⟩ := wrapL_mem hr
              exact joinR_short _ _ _ _ _ _ _ _ _
            generalize L.getD s1 pt0 = r at *
            generalize L.getD j pt0 = p at *
            generalize L.getD s2 pt0 = q at *
            generalize joinL r p q wd jn cp ml ph D = JL at *
            clear hs1 hs2 hk1
            generalize flatTo (joinK false L wd jn cp ml ph D) j = LT at *
            go_wp2_with fail
            clear y0 y1 y2 y3 y4 y5 y6 y7 y8 y9 y10 y11 y12 y13 y14 y15
            have z0 : ∀ k : KW wr, k.w.cell? ⟨w.heap.size, 0, none⟩ = some (.slice (some ⟨b, o, none⟩) n c) := fun k => (HS.out _ (hkw.trans k.keeps)).1
            have z2 : ∀ k : KW wr, k.w.cell? ⟨w.heap.size + 1, 0, none⟩ = some (.int .i64 wd) := fun k => (HS.out _ (hkw.trans k.keeps)).2.2.2.2.1
            have z3 : ∀ k : KW wr, k.w.cell? ⟨w.heap.size + 1, 1, none⟩ = some (.int .i64 jn) := fun k => (HS.out _ (hkw.trans k.keeps)).2.2.2.2.2.2.1
            have z4 : ∀ k : KW wr, k.w.cell? ⟨w.heap.size + 1, 2, none⟩ = some (.int .i64 cp) := fun k => (HS.out _ (hkw.trans k.keeps)).2.2.2.2.2.2.2.2.1
            have z5 : ∀ k : KW wr, k.w.cell? ⟨w.heap.size + 1, 3, none⟩ = some (.int .i64 ml) := fun k => (HS.out _ (hkw.trans k.keeps)).2.2.2.2.2.2.2.2.2.2.1
            have z6 : ∀ k : KW wr, k.w.cell? ⟨w.heap.size + 1, 4, none⟩ = some (.slice Ad nd cd) := fun k => (HS.out _ (hkw.trans k.keeps)).2.2.2.2.2.2.2.2.2.2.2.2.1
            have z7 : ∀ k : KW wr, k.w.cell? ⟨w.heap.size + 1, 5, none⟩ = some (.int .i64 ph) := fun k => (HS.out _ (hkw.trans k.keeps)).2.2.2.2.2.2.2.2.2.2.2.2.2.2.1
            have z20 : ∀ k : KW wr, k.w.cell? ⟨b, o + s1 * 2, none⟩ = some (.int .i64 r.1) := fun k => (gs _ (HB.out.trans (hkw.trans k.keeps))).1
            have z21 : ∀ k : KW wr, k.w.cell? ⟨b, o + s1 * 2 + 1, none⟩ = some (.int .i64 r.2) := fun k => (gs _ (HB.out.trans (hkw.trans k.keeps))).2
            have z22 : ∀ k : KW wr, k.w.cell? ⟨b, o + j * 2, none⟩ = some (.int .i64 p.1) := fun k => (gp _ (HB.out.trans (hkw.trans k.keeps))).1
            have z23 : ∀ k : KW wr, k.w.cell? ⟨b, o + j * 2 + 1, none⟩ = some (.int .i64 p.2) := fun k => (gp _ (HB.out.trans (hkw.trans k.keeps))).2
            have z24 : ∀ k : KW wr, k.w.cell? ⟨b, o + s2 * 2, none⟩ = some (.int .i64 q.1) := fun k => (gt _ (HB.out.trans (hkw.trans k.keeps))).1
            have z25 : ∀ k : KW wr, k.w.cell? ⟨b, o + s2 * 2 + 1, none⟩ = some (.int .i64 q.2) := fun k => (gt _ (HB.out.trans (hkw.trans k.keeps))).2
            refine wp_region_kept_tail 24 (wr) (by kernel_rfl) (by kernel_rfl) (Keeps.refl _) ?_
            simp only [List.take_succ_cons, List.take_zero, List.drop_succ_cons, List.drop_zero]
            repeat (first | go_big_quiet_skip | (go_big_quiet_want; go_big_quiet_op; first | go_big_quiet_on | go_big_quiet_call (fail)))
            refine wpQuiet_nil ?_
            rintro w' ⟨k9, rfl⟩
            have hk := k9.keeps
            generalize k9.w = w9 at hk ⊢
            clear k9
            clear z0 z2 z3 z4 z5 z6 z7 z20 z21 z22 z23 z24 z25 gs gp gt r0 r1 r2 r3 r4 r5 r6 t2 t3 t4 t5 t6 t7
            go_wp2_with (go_at_call 60; (with_reducible refine (KJ.out _ (HB.out.trans (hkw.trans hk))).mono ?_); rintro e w10 ⟨Aj, cj, rfl, hRj, hk10⟩; have hkk := Lib.hid (hk.trans hk10); have hRj := Lib.hid hRj; clear hk10)
            have hw9 := hk.size
            have hw0 := Nat.le_trans hkw.size hk.size
            have hjli : (JL.length : Int) ≤ 1 := by omega
            skip
            go_loopw [5, 9] (fun q i wi => ∃ (k : Nat) (Aq : Option Addr) (cq : Nat), k ≤ JL.length ∧ i = .int .i64 k ∧ q = .slice Aq (LT ++ putL (JL.take k)).length cq ∧ Keeps W0 wi ∧ Hid (GRws wi W0.heap.size (.slice Aq (LT ++ putL (JL.take k)).length cq) (LT ++ putL (JL.take k))) ∧ Hid (k = 0 → Keeps w10 wi ∧ ∀ g, (Value.slice Aq (LT ++ putL (JL.take k)).length cq).ownBlock = some g → g < w9.heap.size)) (fun _ i _ => JL.length - (intOf i).toNat)
            case atStart => exact ⟨0, Aq, cq, by omega, rfl, by rw [List.take_zero, show putL [] = [] from rfl, List.append_nil], hkw.trans hkk.out, by rw [List.take_zero, show putL [] = [] from rfl, List.append_nil]; exact Lib.hid (hF.out.keep hkk.out), Lib.hid (fun _ => ⟨Keeps.refl _, fun g hg => Nat.lt_of_lt_of_le (hF.out.lt g (by rw [List.take_zero, show putL [] = [] from rfl, List.append_nil] at hg; exact hg)).2 hw9⟩)⟩
            case round =>
              clear hF
              obtain ⟨k, Aq, cq, hk, rfl, rfl, hkw, hF, hO⟩ := hrel
              have hpl := putL_len (JL.take k)
              rw [List.length_take] at hpl
              have hLT : (LT ++ putL (JL.take k)).length ≤ 200000 := by rw [List.length_append]; omega
              obtain ⟨y0, y1, y2, y3, y4, y5, y6, y7, y8, y9, y10, y11, y12, y13, y14, y15⟩ := HS.out _ hkw
              by_cases hlk : k < JL.length
              · have hk0 : k = 0 := by omega
                have hlk2 : (k : Int) < JL.length := by omega
                obtain ⟨hw10, hown⟩ := hO.out hk0
                obtain ⟨bj, oj, rfl, hbj, hbj2, hCj⟩ := (hRj.out.keep hw10).2.2.2 (by omega)
                obtain ⟨Ak, nk, ck, c0, hPk, hnk, hfk⟩ := hCj k hlk
                have hmem : JL.getD k [] ∈ JL := by rw [List.getD_eq_getElem?_getD, List.getElem?_eq_getElem hlk]; exact List.getElem_mem _
                have hsk := hjs _ hmem
                have hTk := Lib.hid (show LT ++ putL (JL.take (k + 1)) = (LT ++ putL (JL.take k)) ++ wrapL (JL.getD k []) by rw [putL_take JL k hlk, List.append_assoc])
                have hnkl := hPk.1
                have hA := Lib.hid (show ∀ a, Ak = some a → W0.heap.size ≤ a.block ∧ some a.block ≠ (Value.slice Aq (LT ++ putL (JL.take k)).length cq).ownBlock from fun a ha => ⟨by have h2 := hfk a ha; omega, fun e => by have h1 := hown _ e.symm; have h2 := hfk a ha; omega⟩)
                have hPk := Lib.hid hPk
                clear hCj hk0
                generalize JL.getD k [] = X at *
                generalize LT ++ putL (JL.take k) = LS at *
                go_wp2_with (go_at_call 43; (with_reducible refine (rapp_any W0.heap.size _ _ Ak _ ck _ _ hF.out hkw.size hPk.out hnk hA.out (by omega)).mono ?_); rintro e w12 ⟨v12, rfl, hB12, hk12⟩; have hkw12 := hk12 W0 hkw (Nat.le_refl _); have hB12 := Lib.hid hB12; obtain ⟨A12, c12, rfl⟩ := hB12.out.row)
                go_roundw
                case rel => exact ⟨k + 1, A12, c12, by omega, by go_num, by rw [hTk.out, List.length_append], hkw12, by rw [hTk.out]; exact hB12, Lib.hid (fun h => by omega)⟩
                case measure => simp [intOf]; omega
              · obtain rfl : k = JL.length := by omega
                have hlk2 : ¬ (JL.length : Int) < JL.length := by omega
                rw [List.take_of_length_le (Nat.le_refl _), hpw.out] at hF ⊢
                clear hO
                go_wp2_with fail
                go_roundw
                case rel => exact ⟨j + 1, Aq, cq, by omega, by go_num, by rw [hT.out], hkw, by rw [hT.out]; exact hF⟩
                case measure => simp [intOf]; omega
          · rcases (show j = 0 ∨ (0 < j ∧ j = m1) by omega) with hj0 | ⟨hj0, hj1⟩
            · have hi1 : ((j : Int) == 0) = true := by rw [beq_iff_eq]; omega
              have hT := Lib.hid (show flatTo (joinK false L wd jn cp ml ph D) (j + 1) = flatTo (joinK false L wd jn cp ml ph D) j by rw [flatTo, joinK, hl, if_neg (show ¬ joinI false n j = true by unfold joinI; simp; omega), List.append_nil])
              clear hj0 hin
              go_wp2_with fail
              go_roundw
              case rel => exact ⟨j + 1, Aq, cq, by omega, by go_num, by rw [hT.out], hkw, by rw [hT.out]; exact hF⟩
              case measure => simp [intOf]; omega
            · have hi1 : ((j : Int) == 0) = false := by rw [beq_eq_false_iff_ne]; omega
              have hi2 : ((j : Int) == m1) = true := by rw [beq_iff_eq]; omega
              have hT := Lib.hid (show flatTo (joinK false L wd jn cp ml ph D) (j + 1) = flatTo (joinK false L wd jn cp ml ph D) j by rw [flatTo, joinK, hl, if_neg (show ¬ joinI false n j = true by unfold joinI; simp; omega), List.append_nil])
              clear hj1 hin
              go_wp2_with fail
              go_roundw
              case rel => exact ⟨j + 1, Aq, cq, by omega, by go_num, by rw [hT.out], hkw, by rw [hT.out]; exact hF⟩
              case measure => simp [intOf]; omega
        · obtain rfl : j = n := by omega
          have hlt2 : ¬ (j : Int) < j := by omega
          go_wp2_with fail
          go_ret
          try rw [hl]
          exact ⟨_, rfl, hF.out.base HB.out.size, HB.out.trans hkw⟩
end
end Go.Proofs.YtdodgnpjlicnoaaGreat
