/- Contract of smallAll. -/
import Derived.Test.YtdodgnpjlicnoaaGreatZc
import Derived.Test.YtdodgnpjlicnoaaGreatKp
import Derived.Test.YtdodgnpjlicnoaaGreatKq
import Derived.Test.YtdodgnpjlicnoaaGreatOz
namespace Go.Proofs.YtdodgnpjlicnoaaGreat
section
section
open Go.RowKit
attribute [local go_sem ↓] Go.wp_at_zero Go.wp_at_succ
set_option linter.unusedVariables false
set_option linter.unusedSimpArgs false
/-- rows under way beside rows that are read -/
structure OutI (w : World) (B B2 : Nat) (v : Value) (LL : List (List Pt)) (wr : World) : Prop where
  rows : GRws wr B v LL
  own : ∀ g, v.ownBlock = some g → g < B2 ∨ w.heap.size ≤ g
  still : ∀ g, B2 ≤ g → g < w.heap.size → wr.heap[g]? = w.heap[g]?
  keep : ∀ w0, Keeps w0 w → w0.heap.size ≤ B → Keeps w0 wr
  size : w.heap.size ≤ wr.heap.size
theorem OutI.snoc {w wr w1 : World} {B B2 g cap n c : Nat} {v : Value} {A : Option Addr} {LL : List (List Pt)} {L : List Pt} {VS : List Value} {t : TypeId} (h : OutI w B B2 v LL wr)
    (hown : wr.ownsRow B 22 1 v LL.length VS) (hall : ∀ k, k < LL.length → ∃ Ak nk ck, VS[k]? = some (.slice Ak nk ck) ∧ Pts wr Ak nk ck (LL.getD k []) ∧ nk ≤ 4611686018427387904 ∧ ∀ a, Ak = some a → B ≤ a.block ∧ a.block < wr.heap.size ∧ some a.block ≠ v.ownBlock)
    (hP : Pts wr A n c L) (hn : n ≤ 4611686018427387904) (hA : ∀ a, A = some a → B ≤ a.block ∧ a.block < wr.heap.size ∧ some a.block ≠ v.ownBlock)
    (h1 : w1.ownsRow B 22 1 (.slice (some ⟨g, 0, none⟩) (LL.length + 1) cap) (LL.length + 1) (VS ++ [.slice A n c])) (hg : (wr.alloc (.cells #[.slice A n c] t)).grownBy w1 v.ownBlock) (hlie : v.ownBlock = some g ∨ g = wr.heap.size + 1) :
    OutI w B B2 (.slice (some ⟨g, 0, none⟩) (LL.length + 1) cap) (LL ++ [L]) w1 := by
  have hr : ∀ k, v.ownBlock = some k → B ≤ k := fun k hk => (hown.lt k hk).1
  have hs1 : wr.heap.size + 1 ≤ w1.heap.size := by have := hg.size; simpa using this
  refine ⟨GRws.snoc hown hall hP hn hA h1 hg hlie, ?_, ?_, ?_, ?_⟩
  · intro x hx
    simp [Value.ownBlock] at hx
    subst hx
    have hsz := h.size
    rcases hlie with e | e
    · exact h.own _ e
    · right; omega
  · intro x h2 h3
    have hne : some x ≠ v.ownBlock := fun e => by rcases h.own x e.symm with h4 | h4 <;> omega
    have hsz := h.size
    have e2 := hg.block x (by simp; omega) hne
    have e3 := (World.grownBy_alloc wr (.cells #[.slice A n c] t) none).block x (by omega) (by simp)
    exact e2.trans (e3.trans (h.still x h2 h3))
  · intro w0 h2 h3
    exact keeps_grown (h.keep w0 h2 h3) hg (fun k hk => Nat.le_trans h3 (hr k hk))
  · have := h.size; omega
def outl (cl : Bool) (L : List Pt) (wd jn cp ml ph : Int) (D : List Int) : List (List Pt) := bodsL cl L wd ++ joinsL cl L wd jn cp ml ph D
theorem outl_len (cl : Bool) (L : List Pt) (wd jn cp ml ph : Int) (D : List Int) : (outl cl L wd jn cp ml ph D).length ≤ 2 * L.length := by
  unfold outl bodsL joinsL
  split
  · simp
  · have h1 := flatTo_len (bodyR L wd) (fun i => wrapL_len _) (segK cl L.length)
    have h2 := flatTo_len (joinK cl L wd jn cp ml ph D) (fun i => joinK_len _ _ _ _ _ _ _ _ i) L.length
    have h4 := segK_le cl L.length
    rw [List.length_append]; omega
theorem joinsL_len (cl : Bool) (L : List Pt) (wd jn cp ml ph : Int) (D : List Int) : (joinsL cl L wd jn cp ml ph D).length ≤ L.length := by
  unfold joinsL
  split
  · simp
  · exact flatTo_len (joinK cl L wd jn cp ml ph D) (fun i => joinK_len _ _ _ _ _ _ _ _ i) L.length
theorem bodsL_len (cl : Bool) (L : List Pt) (wd : Int) : (bodsL cl L wd).length ≤ L.length := by
  unfold bodsL
  split
  · simp
  · have h1 := flatTo_len (bodyR L wd) (fun i => wrapL_len _) (segK cl L.length)
    have h4 := segK_le cl L.length
    omega
theorem rings_zero {cl : Bool} {L : List Pt} {wd jn cp ml ph : Int} {D : List Int} (h : L.length = 0) : ringsL cl L wd jn cp ml ph D = outl cl L wd jn cp ml ph D := by
  unfold ringsL outl bodsL joinsL
  rw [if_pos h, if_pos (by omega), if_pos (by omega)]; rfl
theorem rings_one {cl : Bool} {L : List Pt} {wd jn cp ml ph : Int} {D : List Int} (h : L.length = 1) : ringsL cl L wd jn cp ml ph D = outl cl L wd jn cp ml ph D ++ wrapL (dotR (L.getD 0 pt0) wd cp) := by
  unfold ringsL outl bodsL joinsL
  rw [if_neg (by omega), if_pos h, if_pos (by omega), if_pos (by omega)]; rfl
theorem rings_more {cl : Bool} {L : List Pt} {wd jn cp ml ph : Int} {D : List Int} (h : 1 < L.length) : ringsL cl L wd jn cp ml ph D = outl cl L wd jn cp ml ph D ++ endsR cl L wd cp := by
  unfold ringsL outl bodsL joinsL
  rw [if_neg (by omega), if_neg (by omega), if_neg (by omega), if_neg (by omega)]
set_option maxRecDepth 100000 in
set_option maxHeartbeats 8000000 in
theorem outline_any (cl : Bool) (A : Option Addr) (n c : Nat) (L : List Pt) (wd jn cp ml ph : Int) (Ad : Option Addr) (nd cd : Nat) (D : List Int) (w : World) (h : Pts w A n c L) (hI : Ins w Ad nd cd D) (hn : n ≤ 100000) :
    Calls Tryz.prog 21 #[.agg #[.slice A n c, .bool cl], .agg #[.int .i64 wd, .int .i64 jn, .int .i64 cp, .int .i64 ml, .slice Ad nd cd, .int .i64 ph]] w fun e w' => ∃ v, e = .returned v ∧ GRws w' w.heap.size v (ringsL cl L wd jn cp ml ph D) ∧ Keeps w w' := by
  have hl := h.1
  have hni : (n : Int) ≤ 100000 := by omega
  obtain ⟨j0, ji, jz0, jz1, jz2⟩ := info_parts rows_info
  have HJ0 := Lib.hid (And.intro ji (And.intro jz0 (And.intro jz1 jz2)))
  clear ji jz0 jz1 jz2
  have HS := Lib.hid (show ∀ w', Keeps ((w.alloc (.cells #[.slice A n c, .bool cl] 24)).alloc (.cells #[.int .i64 wd, .int .i64 jn, .int .i64 cp, .int .i64 ml, .slice Ad nd cd, .int .i64 ph] 27)) w' → w'.cell? ⟨w.heap.size, 0, none⟩ = some (.slice A n c) ∧ w'.frozen? ⟨w.heap.size, 0, none⟩ = false ∧ w'.cell? ⟨w.heap.size, 1, none⟩ = some (.bool cl) ∧ w'.frozen? ⟨w.heap.size, 1, none⟩ = false ∧ w'.cell? ⟨w.heap.size + 1, 0, none⟩ = some (.int .i64 wd) ∧ w'.frozen? ⟨w.heap.size + 1, 0, none⟩ = false ∧ w'.cell? ⟨w.heap.size + 1, 1, none⟩ = some (.int .i64 jn) ∧ w'.frozen? ⟨w.heap.size + 1, 1, none⟩ = false ∧ w'.cell? ⟨w.heap.size + 1, 2, none⟩ = some (.int .i64 cp) ∧ w'.frozen? ⟨w.heap.size + 1, 2, none⟩ = false ∧ w'.cell? ⟨w.heap.size + 1, 3, none⟩ = some (.int .i64 ml) ∧ w'.frozen? ⟨w.heap.size + 1, 3, none⟩ = false ∧ w'.cell? ⟨w.heap.size + 1, 4, none⟩ = some (.slice Ad nd cd) ∧ w'.frozen? ⟨w.heap.size + 1, 4, none⟩ = false ∧ w'.cell? ⟨w.heap.size + 1, 5, none⟩ = some (.int .i64 ph) ∧ w'.frozen? ⟨w.heap.size + 1, 5, none⟩ = false from fun w' hk => ⟨(hk.cell (p := ⟨w.heap.size, 0, none⟩) (by first | (simp; done) | (simp; omega))).trans (by simp [go_sem]), (hk.frozen (p := ⟨w.heap.size, 0, none⟩) (by first | (simp; done) | (simp; omega))).trans (by simp [go_sem]), (hk.cell (p := ⟨w.heap.size, 1, none⟩) (by first | (simp; done) | (simp; omega))).trans (by simp [go_sem]), (hk.frozen (p := ⟨w.heap.size, 1, none⟩) (by first | (simp; done) | (simp; omega))).trans (by simp [go_sem]), (hk.cell (p := ⟨w.heap.size + 1, 0, none⟩) (by first | (simp; done) | (simp; omega))).trans (by simp [go_sem]), (hk.frozen (p := ⟨w.heap.size + 1, 0, none⟩) (by first | (simp; done) | (simp; omega))).trans (by simp [go_sem]), (hk.cell (p := ⟨w.heap.size + 1, 1, none⟩) (by first | (simp; done) | (simp; omega))).trans (by simp [go_sem]), (hk.frozen (p := ⟨w.heap.size + 1, 1, none⟩) (by first | (simp; done) | (simp; omega))).trans (by simp [go_sem]), (hk.cell (p := ⟨w.heap.size + 1, 2, none⟩) (by first | (simp; done) | (simp; omega))).trans (by simp [go_sem]), (hk.frozen (p := ⟨w.heap.size + 1, 2, none⟩) (by first | (simp; done) | (simp; omega))).trans (by simp [go_sem]), (hk.cell (p := ⟨w.heap.size + 1, 3, none⟩) (by first | (simp; done) | (simp; omega))).trans (by simp [go_sem]), (hk.frozen (p := ⟨w.heap.size + 1, 3, none⟩) (by first | (simp; done) | (simp; omega))).trans (by simp [go_sem]), (hk.cell (p := ⟨w.heap.size + 1, 4, none⟩) (by first | (simp; done) | (simp; omega))).trans (by simp [go_sem]), (hk.frozen (p := ⟨w.heap.size + 1, 4, none⟩) (by first | (simp; done) | (simp; omega))).trans (by simp [go_sem]), (hk.cell (p := ⟨w.heap.size + 1, 5, none⟩) (by first | (simp; done) | (simp; omega))).trans (by simp [go_sem]), (hk.frozen (p := ⟨w.heap.size + 1, 5, none⟩) (by first | (simp; done) | (simp; omega))).trans (by simp [go_sem])⟩)
  have HB := Lib.hid (show Keeps w ((w.alloc (.cells #[.slice A n c, .bool cl] 24)).alloc (.cells #[.int .i64 wd, .int .i64 jn, .int .i64 cp, .int .i64 ml, .slice Ad nd cd, .int .i64 ph] 27)) from (by (repeat (first | (with_reducible exact Keeps.refl _) | (with_reducible assumption) | (with_reducible refine Keeps.drewN ?_ _) | (with_reducible refine Keeps.drew ?_) | (with_reducible refine Keeps.alloc ?_ _) | (with_reducible refine Keeps.setNew ?_ ?_ _))) <;> (dsimp only; omega)))
  have hk0 := Keeps.refl ((w.alloc (.cells #[.slice A n c, .bool cl] 24)).alloc (.cells #[.int .i64 wd, .int .i64 jn, .int .i64 cp, .int .i64 ml, .slice Ad nd cd, .int .i64 ph] 27))
  have hk := hk0
  have HP := Lib.hid (fun w' (hk : Keeps w w') => h.keep hk)
  have HI := Lib.hid (fun w' (hk : Keeps w w') => hI.keep hk)
  have KBd := Lib.hid (fun w' (hk : Keeps w w') => bods_any cl A n c L wd jn cp ml ph Ad nd cd w' (h.keep hk) hn)
  have KJn := Lib.hid (fun w' (hk : Keeps w w') => joins_any cl A n c L wd jn cp ml ph Ad nd cd D w' (h.keep hk) (hI.keep hk) hn)
  have hbl := bodsL_len cl L wd
  have hjl := joinsL_len cl L wd jn cp ml ph D
  have hO := Lib.hid (show outl cl L wd jn cp ml ph D = bodsL cl L wd ++ joinsL cl L wd jn cp ml ph D from rfl)
  have hz0 := Lib.hid (fun h => rings_zero (cl := cl) (L := L) (wd := wd) (jn := jn) (cp := cp) (ml := ml) (ph := ph) (D := D) h)
  have hz1 := Lib.hid (fun h => rings_one (cl := cl) (L := L) (wd := wd) (jn := jn) (cp := cp) (ml := ml) (ph := ph) (D := D) h)
  have hz2 := Lib.hid (fun h => rings_more (cl := cl) (L := L) (wd := wd) (jn := jn) (cp := cp) (ml := ml) (ph := ph) (D := D) h)
  obtain ⟨RL, hRL⟩ : ∃ RL, Hid (RL = ringsL cl L wd jn cp ml ph D) := ⟨_, Lib.hid rfl⟩
  rw [← hRL.out]
  clear h hI
  generalize bodsL cl L wd = BL at *
  generalize joinsL cl L wd jn cp ml ph D = JL at *
  go_enter Tryz.func21, Tryz.ntmps21
  go_wp2_with (first | (go_at_call 41; (with_reducible refine (KBd.out _ (HB.out.trans hk)).mono ?_); rintro e w1 ⟨v1, rfl, hB1, hk1⟩; have hB1 := Lib.hid (hB1.base hk.size); replace hk := hk.trans hk1; obtain ⟨y0, y1, y2, y3, y4, y5, y6, y7, y8, y9, y10, y11, y12, y13, y14, y15⟩ := HS.out _ hk; clear hk1) | (go_at_call 42; (with_reducible refine (KJn.out _ (HB.out.trans hk)).mono ?_); rintro e w2 ⟨v2, rfl, hJ2, hk2⟩; have hB2 := Lib.hid (hB1.out.keep hk2); have hk12 := hk2.size; have hk1s := hk.size; replace hk := hk.trans hk2; clear hk2) | fail "ARM")
  generalize ((w.alloc (.cells #[.slice A n c, .bool cl] 24)).alloc (.cells #[.int .i64 wd, .int .i64 jn, .int .i64 cp, .int .i64 ml, .slice Ad nd cd, .int .i64 ph] 27)) = W0 at *
  obtain ⟨A1, c1, rfl⟩ := hB1.out.row
  obtain ⟨A2, c2, e2, hR2⟩ := hJ2.rws
  subst e2
  have hstart := Lib.hid (show OutI w2 W0.heap.size w1.heap.size (.slice A1 BL.length c1) BL w2 from ⟨hB2.out, fun g hg => .inl ((hB1.out.lt g hg).2), fun _ _ _ => rfl, fun _ h _ => h, Nat.le_refl _⟩)
  have hjli : (JL.length : Int) ≤ 100000 := by omega
  have hR2 := Lib.hid hR2
  have hJ2 := Lib.hid hJ2
  clear hB1 hB2
  have hkw2 := Lib.hid hk
  clear hk hk0 y0 y1 y2 y3 y4 y5 y6 y7 y8 y9 y10 y11 y12 y13 y14 y15
  go_loopw [5, 7] (fun q i wr => ∃ (j : Nat) (Aq : Option Addr) (cq : Nat), j ≤ JL.length ∧ i = .int .i64 j ∧ q = .slice Aq (BL ++ JL.take j).length cq ∧ Hid (OutI w2 W0.heap.size w1.heap.size (.slice Aq (BL ++ JL.take j).length cq) (BL ++ JL.take j) wr)) (fun _ i _ => JL.length - (intOf i).toNat)
  case atStart => exact ⟨0, A1, c1, by omega, rfl, by rw [List.take_zero, List.append_nil], by rw [List.take_zero, List.append_nil]; exact hstart⟩
  case round =>
    clear hstart
    obtain ⟨j, Aq, cq, hj, rfl, rfl, hF⟩ := hrel
    have hF0 := hF.out
    have hkw := hF0.keep W0 hkw2.out (Nat.le_refl _)
    have hLTl : (BL ++ JL.take j).length ≤ 200000 := by rw [List.length_append, List.length_take]; omega
    by_cases hlt : j < JL.length
    · have hlt2 : (j : Int) < JL.length := by omega
      obtain ⟨b, o, rfl, hb1, hb2, hC⟩ := hR2.out.2.2.2 (by omega)
      obtain ⟨Ak, nk, ck, e0, hPk, hnk, hfk⟩ := hC j hlt
      have hsz := hF0.size
      have hcell : ∀ p : Addr, w1.heap.size ≤ p.block → p.block < w2.heap.size → wr.cell? p = w2.cell? p := fun p h1 h2 => by unfold World.cell?; rw [hF0.still _ h1 h2]
      have c0 := (hcell ⟨b, o + j, none⟩ hb1 hb2).trans e0
      have hT := Lib.hid (show BL ++ JL.take (j + 1) = (BL ++ JL.take j) ++ [JL.getD j []] by rw [takeLL_succ JL j hlt, List.append_assoc])
      have hPr := hPk.step hsz hcell hfk
      have hni : (nk : Int) ≤ 4611686018427387904 := by omega
      obtain ⟨VS, hv1, hv2⟩ := hF0.rows
      have hbk : ∀ a, Ak = some a → a.block < w2.heap.size := by
        obtain ⟨VS2, q1, q2⟩ := hJ2.out
        intro a ha
        obtain ⟨Ak', nk', ck', f1, f2, f3, f4⟩ := q2 j hlt
        have hcc := SlA.of_own q1
        obtain ⟨A9, c9, e9, _, _, _, h9⟩ := hcc
        obtain ⟨rfl, rfl⟩ : some ⟨b, o, none⟩ = A9 ∧ c2 = c9 := by simpa using e9
        obtain ⟨b', o', eb, _, hx⟩ := h9 (by omega)
        obtain ⟨rfl, rfl⟩ : b = b' ∧ o = o' := by simpa using eb
        have := (hx j (by omega)).trans f1
        rw [e0] at this
        obtain ⟨rfl, rfl, rfl⟩ : Ak = Ak' ∧ nk = nk' ∧ ck = ck' := by simpa using this
        exact (f4 a ha).2.1
      have hA := Lib.hid (show ∀ a, Ak = some a → W0.heap.size ≤ a.block ∧ a.block < wr.heap.size ∧ some a.block ≠ (Value.slice Aq (BL ++ JL.take j).length cq).ownBlock from fun a ha => ⟨by have := hfk a ha; omega, by have := hbk a ha; omega, fun e => by
        have h1 := hfk a ha
        have h2 := hbk a ha
        rcases hF0.own _ e.symm with h3 | h3 <;> omega⟩)
      have hv1 := Lib.hid hv1
      have hv2 := Lib.hid hv2
      have hPr := Lib.hid hPr
      have hBs : W0.heap.size ≤ wr.heap.size + 1 := by have := hkw.size; omega
      generalize JL.getD j [] = X at *
      generalize BL ++ JL.take j = LT at *
      clear hC hPk e0 hcell hfk hbk hF0
      obtain ⟨y0, y1, y2, y3, y4, y5, y6, y7, y8, y9, y10, y11, y12, y13, y14, y15⟩ := HS.out _ hkw
      obtain ⟨ji, jz0, jz1, jz2⟩ := HJ0.out
      go_wp2_with (at_builtin; refine wpList_append_lies _ rfl _ _ 30 rfl W0.heap.size 22 j0 (.slice none 0 0) 1 24 Tryz.underlying30 ji jz0 jz1 jz2 rfl (by decide) _ _ VS rfl (hv1.out.alloc _) ⟨wr.heap.size, 0, none⟩ 1 1 [.slice Ak nk ck] rfl rfl (one_new _ _ _) (by intro u hu; simp at hu; subst hu; rfl) (by omega) (by unfold maxLen; omega) (by omega) (by simp; omega) (wr.heap.size + 1) (by simp) ?_; intro g cap w9 hown1 hgrow hlie hglt; have hSN := Lib.hid (OutI.snoc hF.out hv1.out hv2.out hPr.out hnk hA.out hown1 hgrow hlie); clear hgrow hown1 hlie hglt)
      go_roundw
      case rel => exact ⟨j + 1, _, _, by omega, by go_num, by rw [hT.out, List.length_append]; rfl, Lib.hid (by rw [hT.out, List.length_append]; exact hSN.out)⟩
      case measure => simp [intOf]; omega
    · obtain rfl : j = JL.length := by omega
      have hlt2 : ¬ (JL.length : Int) < JL.length := by omega
      rw [List.take_of_length_le (Nat.le_refl _), ← hO.out] at hF hLTl ⊢
      have hF := Lib.hid hF.out.rows
      clear hR2 hJ2 hF0
      generalize outl cl L wd jn cp ml ph D = LT at *
      rcases (show n = 0 ∨ n = 1 ∨ 1 < n by omega) with hn0 | hn1 | hn2
      · have q1 : ((n : Int) == 1) = false := by rw [beq_eq_false_iff_ne]; omega
        have q2 : ¬ (1 : Int) < n := by omega
        obtain ⟨y0, y1, y2, y3, y4, y5, y6, y7, y8, y9, y10, y11, y12, y13, y14, y15⟩ := HS.out _ hkw
        go_wp2_with fail
        go_ret
        rw [hRL.out, hz0.out (by omega)]
        exact ⟨_, rfl, hF.out.base HB.out.size, HB.out.trans hkw⟩
      · subst hn1
        have hokx := Lib.hid (dotR_ok (L.getD 0 pt0) wd cp)
        have hlx := dotR_len (L.getD 0 pt0) wd cp
        obtain ⟨b, o, rfl, hbw, hC0⟩ := (HP.out _ (Keeps.refl _)).2.2.2.2 (by omega)
        have gp := fun w' (hk : Keeps w w') => (hC0 0 (by omega)).keep hbw hk
        simp only [Nat.zero_mul, Nat.add_zero] at gp
        clear hC0 hbw
        have KD := Lib.hid (fun w => rdot24_any (L.getD 0 pt0) wd jn cp ml ph Ad nd cd w)
        generalize L.getD 0 pt0 = p at *
        generalize dotR p wd cp = X at *
        obtain ⟨y0, y1, y2, y3, y4, y5, y6, y7, y8, y9, y10, y11, y12, y13, y14, y15⟩ := HS.out _ hkw
        go_wp2_with fail
        clear y0 y1 y2 y3 y4 y5 y6 y7 y8 y9 y10 y11 y12 y13 y14 y15
        have z0 : ∀ k : KW wr, k.w.cell? ⟨w.heap.size, 0, none⟩ = some (.slice (some ⟨b, o, none⟩) 1 c) := fun k => (HS.out _ (hkw.trans k.keeps)).1
        have z2 : ∀ k : KW wr, k.w.cell? ⟨w.heap.size + 1, 0, none⟩ = some (.int .i64 wd) := fun k => (HS.out _ (hkw.trans k.keeps)).2.2.2.2.1
        have z3 : ∀ k : KW wr, k.w.cell? ⟨w.heap.size + 1, 1, none⟩ = some (.int .i64 jn) := fun k => (HS.out _ (hkw.trans k.keeps)).2.2.2.2.2.2.1
        have z4 : ∀ k : KW wr, k.w.cell? ⟨w.heap.size + 1, 2, none⟩ = some (.int .i64 cp) := fun k => (HS.out _ (hkw.trans k.keeps)).2.2.2.2.2.2.2.2.1
        have z5 : ∀ k : KW wr, k.w.cell? ⟨w.heap.size + 1, 3, none⟩ = some (.int .i64 ml) := fun k => (HS.out _ (hkw.trans k.keeps)).2.2.2.2.2.2.2.2.2.2.1
        have z6 : ∀ k : KW wr, k.w.cell? ⟨w.heap.size + 1, 4, none⟩ = some (.slice Ad nd cd) := fun k => (HS.out _ (hkw.trans k.keeps)).2.2.2.2.2.2.2.2.2.2.2.2.1
        have z7 : ∀ k : KW wr, k.w.cell? ⟨w.heap.size + 1, 5, none⟩ = some (.int .i64 ph) := fun k => (HS.out _ (hkw.trans k.keeps)).2.2.2.2.2.2.2.2.2.2.2.2.2.2.1
        have z20 : ∀ k : KW wr, k.w.cell? ⟨b, o, none⟩ = some (.int .i64 p.1) := fun k => (gp _ (HB.out.trans (hkw.trans k.keeps))).1
        have z21 : ∀ k : KW wr, k.w.cell? ⟨b, o + 1, none⟩ = some (.int .i64 p.2) := fun k => (gp _ (HB.out.trans (hkw.trans k.keeps))).2
        refine wp_region_kept_tail1 (v := ?_) 6 (wr) (by kernel_rfl) (by kernel_rfl) (Keeps.refl _) (Or.inl ⟨by rfl, ?_⟩) (fun _ _ _ h => h) ?_; rotate_left; · (intro w; go_simp; try with_reducible rfl)
        simp only [Act.put, List.setIfInBounds_toArray, List.set_cons_zero, List.set_cons_succ, List.take_succ_cons, List.take_zero, List.drop_succ_cons, List.drop_zero, Nat.reduceSub]
        repeat (first | go_big_quiet_skip | (go_big_quiet_want; go_big_quiet_op; first | go_big_quiet_on | go_big_quiet_call (fail)))
        refine wpQuiet_nil ?_
        rintro w' ⟨k9, rfl⟩
        have hk := k9.keeps
        generalize k9.w = w9 at hk ⊢
        clear k9
        clear z0 z2 z3 z4 z5 z6 z7 z20 z21 gp
        go_wp2_with (first | (go_at_call 44; (with_reducible refine (KD.out _).mono ?_); rintro e w10 ⟨v, rfl, ho, hk10⟩; obtain ⟨Ax, cx, rfl, hPx⟩ := Pts.of_own ho rfl hokx.out; have hfx := Lib.hid (show ∀ a, Ax = some a → W0.heap.size ≤ a.block ∧ some a.block ≠ Value.ownBlock (.slice Aq LT.length cq) from fun a ha => ⟨Nat.le_trans (Nat.le_trans hkw.size hk.size) (own_blocks ho a ha).1, fun e => by have h1 := (own_blocks ho a ha).1; have h2 := hk.size; have h3 := (hF.out.lt _ e.symm).2; omega⟩); have hPx := Lib.hid hPx; have hkk := Lib.hid (hk.trans hk10); clear ho) | (go_at_call 43; (with_reducible refine (rapp_any W0.heap.size _ _ Ax _ cx _ _ (hF.out.keep hkk.out) (Nat.le_trans hkw.size hkk.out.size) hPx.out (by omega) hfx.out (by omega)).mono ?_); rintro e w12 ⟨v12, rfl, hB12, hk12⟩; have hkw12 := hk12 W0 (hkw.trans hkk.out) (Nat.le_refl _); have hB12 := Lib.hid hB12; obtain ⟨A12, c12, rfl⟩ := hB12.out.row; obtain ⟨y0, y1, y2, y3, y4, y5, y6, y7, y8, y9, y10, y11, y12, y13, y14, y15⟩ := HS.out _ hkw12))
        go_ret
        rw [hRL.out, hz1.out (by omega)]
        refine ⟨_, rfl, ?_, HB.out.trans hkw12⟩
        have hz := hB12.out.base HB.out.size
        first | exact hz | (rw [List.length_append] at hz; exact hz)
      · have q1 : ((n : Int) == 1) = false := by rw [beq_eq_false_iff_ne]; omega
        have q2 : (1 : Int) < n := by omega
        cases cl with
        | true =>
          obtain ⟨y0, y1, y2, y3, y4, y5, y6, y7, y8, y9, y10, y11, y12, y13, y14, y15⟩ := HS.out _ hkw
          go_wp2_with fail
          go_ret
          rw [hRL.out, hz2.out (by omega), show endsR true L wd cp = [] from rfl, List.append_nil]
          exact ⟨_, rfl, hF.out.base HB.out.size, HB.out.trans hkw⟩
        | false =>
          obtain ⟨b, o, rfl, hbw, hC0⟩ := (HP.out _ (Keeps.refl _)).2.2.2.2 (by omega)
          have hPt := Lib.hid (fun q (hq : q < n) w' (hk : Keeps w w') => (hC0 q hq).keep hbw hk)
          clear hC0 hbw
          obtain ⟨m1, hm1⟩ : ∃ m1 : Nat, n = m1 + 1 := ⟨n - 1, by omega⟩
          obtain ⟨m2, hm2⟩ : ∃ m2 : Nat, n = m2 + 2 := ⟨n - 2, by omega⟩
          have e1 : (n : Int) - 1 = m1 := by omega
          have e2 : (n : Int) - 2 = m2 := by omega
          have ew1 : IntKind.i64.wrap (m1 : Int) = m1 := IntWalk.i64_in _ (by omega)
          have ew2 : IntKind.i64.wrap (m2 : Int) = m2 := IntWalk.i64_in _ (by omega)
          have el1 : (m1 : Int) < n := by omega
          have el2 : (m2 : Int) < n := by omega
          have el0 : (0 : Int) < n := by omega
          have el0n : 0 < n := by omega
          have el1n : 1 < n := by omega
          have hE := Lib.hid (show endsR false L wd cp = wrapL (endL (L.getD 1 pt0) (L.getD 0 pt0) wd cp) ++ wrapL (endL (L.getD m2 pt0) (L.getD m1 pt0) wd cp) by unfold endsR; rw [if_neg (by decide), hl, show n - 2 = m2 by omega, show n - 1 = m1 by omega])
          have hfin := Lib.hid (show RL = (LT ++ wrapL (endL (L.getD 1 pt0) (L.getD 0 pt0) wd cp)) ++ wrapL (endL (L.getD m2 pt0) (L.getD m1 pt0) wd cp) by rw [hRL.out, hz2.out (by omega), hE.out, ← List.append_assoc])
          have g1 := hPt.out 1 (by omega)
          have g0 := hPt.out 0 (by omega)
          have gx := hPt.out m1 (by omega)
          have gy := hPt.out m2 (by omega)
          simp only [Nat.zero_mul, Nat.add_zero] at g0
          simp only [Nat.one_mul] at g1
          clear hm1 hm2 hE
          have KC1 := Lib.hid (fun w => rlcap_any (L.getD 1 pt0) (L.getD 0 pt0) wd jn cp ml ph Ad nd cd w)
          have KC2 := Lib.hid (fun w => rlcap_any (L.getD m2 pt0) (L.getD m1 pt0) wd jn cp ml ph Ad nd cd w)
          have ok1 := Lib.hid (endL_ok (L.getD 1 pt0) (L.getD 0 pt0) wd cp)
          have ok2 := Lib.hid (endL_ok (L.getD m2 pt0) (L.getD m1 pt0) wd cp)
          have ln1 := endL_len (L.getD 1 pt0) (L.getD 0 pt0) wd cp
          have ln2 := endL_len (L.getD m2 pt0) (L.getD m1 pt0) wd cp
          generalize L.getD 1 pt0 = p1 at *
          generalize L.getD 0 pt0 = p0 at *
          generalize L.getD m1 pt0 = px at *
          generalize L.getD m2 pt0 = py at *
          generalize endL p1 p0 wd cp = X at *
          generalize endL py px wd cp = X2 at *
          obtain ⟨y0, y1, y2, y3, y4, y5, y6, y7, y8, y9, y10, y11, y12, y13, y14, y15⟩ := HS.out _ hkw
          go_wp2_with fail
          clear y0 y1 y2 y3 y4 y5 y6 y7 y8 y9 y10 y11 y12 y13 y14 y15
          have z0 : ∀ k : KW wr, k.w.cell? ⟨w.heap.size, 0, none⟩ = some (.slice (some ⟨b, o, none⟩) n c) := fun k => (HS.out _ (hkw.trans k.keeps)).1
          have z2 : ∀ k : KW wr, k.w.cell? ⟨w.heap.size + 1, 0, none⟩ = some (.int .i64 wd) := fun k => (HS.out _ (hkw.trans k.keeps)).2.2.2.2.1
          have z3 : ∀ k : KW wr, k.w.cell? ⟨w.heap.size + 1, 1, none⟩ = some (.int .i64 jn) := fun k => (HS.out _ (hkw.trans k.keeps)).2.2.2.2.2.2.1
          have z4 : ∀ k : KW wr, k.w.cell? ⟨w.heap.size + 1, 2, none⟩ = some (.int .i64 cp) := fun k => (HS.out _ (hkw.trans k.keeps)).2.2.2.2.2.2.2.2.1
          have z5 : ∀ k : KW wr, k.w.cell? ⟨w.heap.size + 1, 3, none⟩ = some (.int .i64 ml) := fun k => (HS.out _ (hkw.trans k.keeps)).2.2.2.2.2.2.2.2.2.2.1
          have z6 : ∀ k : KW wr, k.w.cell? ⟨w.heap.size + 1, 4, none⟩ = some (.slice Ad nd cd) := fun k => (HS.out _ (hkw.trans k.keeps)).2.2.2.2.2.2.2.2.2.2.2.2.1
          have z7 : ∀ k : KW wr, k.w.cell? ⟨w.heap.size + 1, 5, none⟩ = some (.int .i64 ph) := fun k => (HS.out _ (hkw.trans k.keeps)).2.2.2.2.2.2.2.2.2.2.2.2.2.2.1
          have z20 : ∀ k : KW wr, k.w.cell? ⟨b, o, none⟩ = some (.int .i64 p0.1) := fun k => (g0 _ (HB.out.trans (hkw.trans k.keeps))).1
          have z21 : ∀ k : KW wr, k.w.cell? ⟨b, o + 1, none⟩ = some (.int .i64 p0.2) := fun k => (g0 _ (HB.out.trans (hkw.trans k.keeps))).2
          have z22 : ∀ k : KW wr, k.w.cell? ⟨b, o + 2, none⟩ = some (.int .i64 p1.1) := fun k => (g1 _ (HB.out.trans (hkw.trans k.keeps))).1
          have z23 : ∀ k : KW wr, k.w.cell? ⟨b, o + 2 + 1, none⟩ = some (.int .i64 p1.2) := fun k => (g1 _ (HB.out.trans (hkw.trans k.keeps))).2
          refine wp_region_kept_tail1 (v := ?_) 10 (wr) (by kernel_rfl) (by kernel_rfl) (Keeps.refl _) (Or.inl ⟨by rfl, ?_⟩) (fun _ _ _ h => h) ?_; rotate_left; · (intro w; go_simp; try with_reducible rfl)
          simp only [Act.put, List.setIfInBounds_toArray, List.set_cons_zero, List.set_cons_succ, List.take_succ_cons, List.take_zero, List.drop_succ_cons, List.drop_zero, Nat.reduceSub]
          repeat (first | go_big_quiet_skip | (go_big_quiet_want; go_big_quiet_op; first | go_big_quiet_on | go_big_quiet_call (fail)))
          refine wpQuiet_nil ?_
          rintro w' ⟨k9, rfl⟩
          have hk := k9.keeps
          generalize k9.w = w9 at hk ⊢
          clear k9
          clear z0 z2 z3 z4 z5 z6 z7 z20 z21 z22 z23
          go_upto_region 12 with (first | (go_at_call 45; (with_reducible refine (KC1.out _).mono ?_); rintro e w10 ⟨v, rfl, ho, hk10⟩; obtain ⟨Ax, cx, rfl, hPx⟩ := Pts.of_own ho rfl ok1.out; have hfx := Lib.hid (show ∀ a, Ax = some a → W0.heap.size ≤ a.block ∧ some a.block ≠ Value.ownBlock (.slice Aq LT.length cq) from fun a ha => ⟨Nat.le_trans (Nat.le_trans hkw.size hk.size) (own_blocks ho a ha).1, fun e => by have h1 := (own_blocks ho a ha).1; have h2 := hk.size; have h3 := (hF.out.lt _ e.symm).2; omega⟩); have hPx := Lib.hid hPx; have hkk := Lib.hid (hk.trans hk10); clear ho) | (go_at_call 43; (with_reducible refine (rapp_any W0.heap.size _ _ Ax _ cx _ _ (hF.out.keep hkk.out) (Nat.le_trans hkw.size hkk.out.size) hPx.out (by omega) hfx.out (by omega)).mono ?_); rintro e w12 ⟨v12, rfl, hB12, hk12⟩; have hkw12 := hk12 W0 (hkw.trans hkk.out) (Nat.le_refl _); have hB12 := Lib.hid hB12; obtain ⟨A12, c12, rfl⟩ := hB12.out.row) | fail "ARM")
          have hkk0 := Keeps.refl w12
          have hXl : (LT ++ wrapL X).length ≤ 200001 := by rw [List.length_append]; have := wrapL_len X; omega
          have hB12 := Lib.hid (show GRws w12 W0.heap.size (.slice A12 (LT.length + (wrapL X).length) c12) (LT ++ wrapL X) by have h := hB12.out; rw [List.length_append] at h; exact h)
          generalize LT.length + (wrapL X).length = mm at *
          generalize LT ++ wrapL X = LT2 at *
          clear hkk hk hfx hPx hF
          have z0 : ∀ k : KW w12, k.w.cell? ⟨w.heap.size, 0, none⟩ = some (.slice (some ⟨b, o, none⟩) n c) := fun k => (HS.out _ (hkw12.trans k.keeps)).1
          have z2 : ∀ k : KW w12, k.w.cell? ⟨w.heap.size + 1, 0, none⟩ = some (.int .i64 wd) := fun k => (HS.out _ (hkw12.trans k.keeps)).2.2.2.2.1
          have z3 : ∀ k : KW w12, k.w.cell? ⟨w.heap.size + 1, 1, none⟩ = some (.int .i64 jn) := fun k => (HS.out _ (hkw12.trans k.keeps)).2.2.2.2.2.2.1
          have z4 : ∀ k : KW w12, k.w.cell? ⟨w.heap.size + 1, 2, none⟩ = some (.int .i64 cp) := fun k => (HS.out _ (hkw12.trans k.keeps)).2.2.2.2.2.2.2.2.1
          have z5 : ∀ k : KW w12, k.w.cell? ⟨w.heap.size + 1, 3, none⟩ = some (.int .i64 ml) := fun k => (HS.out _ (hkw12.trans k.keeps)).2.2.2.2.2.2.2.2.2.2.1
          have z6 : ∀ k : KW w12, k.w.cell? ⟨w.heap.size + 1, 4, none⟩ = some (.slice Ad nd cd) := fun k => (HS.out _ (hkw12.trans k.keeps)).2.2.2.2.2.2.2.2.2.2.2.2.1
          have z7 : ∀ k : KW w12, k.w.cell? ⟨w.heap.size + 1, 5, none⟩ = some (.int .i64 ph) := fun k => (HS.out _ (hkw12.trans k.keeps)).2.2.2.2.2.2.2.2.2.2.2.2.2.2.1
          have z20 : ∀ k : KW w12, k.w.cell? ⟨b, o + m1 * 2, none⟩ = some (.int .i64 px.1) := fun k => (gx _ (HB.out.trans (hkw12.trans k.keeps))).1
          have z21 : ∀ k : KW w12, k.w.cell? ⟨b, o + m1 * 2 + 1, none⟩ = some (.int .i64 px.2) := fun k => (gx _ (HB.out.trans (hkw12.trans k.keeps))).2
          have z22 : ∀ k : KW w12, k.w.cell? ⟨b, o + m2 * 2, none⟩ = some (.int .i64 py.1) := fun k => (gy _ (HB.out.trans (hkw12.trans k.keeps))).1
          have z23 : ∀ k : KW w12, k.w.cell? ⟨b, o + m2 * 2 + 1, none⟩ = some (.int .i64 py.2) := fun k => (gy _ (HB.out.trans (hkw12.trans k.keeps))).2
          refine wp_region_kept_tail1 (v := ?_) 14 (w12) (by kernel_rfl) (by kernel_rfl) (Keeps.refl _) (Or.inl ⟨by rfl, ?_⟩) (fun _ _ _ h => h) ?_; rotate_left; · (intro w; go_simp; try with_reducible rfl)
          simp only [Act.put, List.setIfInBounds_toArray, List.set_cons_zero, List.set_cons_succ, List.take_succ_cons, List.take_zero, List.drop_succ_cons, List.drop_zero, Nat.reduceSub]
          repeat (first | go_big_quiet_skip | (go_big_quiet_want; go_big_quiet_op; first | go_big_quiet_on | go_big_quiet_call (fail)))
          refine wpQuiet_nil ?_
          rintro w' ⟨k9, rfl⟩
          have hk := k9.keeps
          generalize k9.w = w9 at hk ⊢
          clear k9
          clear z0 z2 z3 z4 z5 z6 z7 z20 z21 z22 z23
          go_wp2_with (first | (go_at_call 45; (with_reducible refine (KC2.out _).mono ?_); rintro e w20 ⟨v, rfl, ho, hk20⟩; obtain ⟨Ay, cy, rfl, hPy⟩ := Pts.of_own ho rfl ok2.out; have hfy := Lib.hid (show ∀ a, Ay = some a → W0.heap.size ≤ a.block ∧ some a.block ≠ Value.ownBlock (.slice A12 mm c12) from fun a ha => ⟨Nat.le_trans (Nat.le_trans hkw12.size hk.size) (own_blocks ho a ha).1, fun e => by have h1 := (own_blocks ho a ha).1; have h2 := hk.size; have h3 := (hB12.out.lt _ e.symm).2; omega⟩); have hPy := Lib.hid hPy; have hkl := Lib.hid (hk.trans hk20); clear ho) | (go_at_call 43; (with_reducible refine (rapp_any W0.heap.size _ _ Ay _ cy _ _ (hB12.out.keep hkl.out) (Nat.le_trans hkw12.size hkl.out.size) hPy.out (by omega) hfy.out (by omega)).mono ?_); rintro e w22 ⟨v22, rfl, hB22, hk22⟩; have hkw1222 := hk22 W0 (hkw12.trans hkl.out) (Nat.le_refl _); have hB22 := Lib.hid hB22; obtain ⟨A22, c22, rfl⟩ := hB22.out.row) | fail "ARM")
          go_ret
          rw [hfin.out]
          refine ⟨_, rfl, ?_, HB.out.trans hkw1222⟩
          have hz := hB22.out.base HB.out.size
          first | exact hz | (rw [List.length_append] at hz; exact hz)
end
end

section
section
open Go.RowKit
attribute [local go_sem ↓] Go.wp_at_zero Go.wp_at_succ
set_option linter.unusedVariables false
set_option linter.unusedSimpArgs false
set_option maxRecDepth 100000 in
set_option maxHeartbeats 1000000 in
theorem rallv_any (A : Option Addr) (n c : Nat) (L : List Pt) (w : World) (h : Pts w A n c L) :
    Calls Tryz.prog 20 #[.slice A n c] w fun e w' => e = .returned (.bool (L.all vP)) ∧ Keeps w w' := by
  have hl := h.1
  have hmx : (n : Int) ≤ 9223372036854775807 := by have h1 := h.2.1; have h2 := h.2.2.1; unfold maxLen at h2; omega
  have HS := Lib.hid h
  obtain ⟨bx, hb⟩ : ∃ bx, Hid (bx = L.all vP) := ⟨_, Lib.hid rfl⟩
  rw [← hb.out]
  clear h
  go_enter Tryz.func20, Tryz.ntmps20
  go_wp2_with fail
  go_loopw [3] (fun i wr => ∃ (j : Nat), j ≤ n ∧ i = .int .i64 j ∧ Keeps w wr ∧ Hid (L.all vP = (L.drop j).all vP)) (fun i _ => n - (intOf i).toNat)
  case atStart => exact ⟨0, by omega, rfl, Keeps.refl _, Lib.hid rfl⟩
  case round =>
    obtain ⟨j, hj, rfl, hkw, hR⟩ := hrel
    by_cases hlt : j < n
    · obtain ⟨b, o, rfl, hb0, hc⟩ := HS.out.2.2.2.2 (by omega)
      obtain ⟨c0, c1⟩ := (hc j hlt).keep hb0 hkw
      have hD := Lib.hid (drop_getDQ L j pt0 (by omega))
      have K := Lib.hid (fun w => rvalid_any (L.getD j pt0).1 (L.getD j pt0).2 w)
      generalize L.getD j pt0 = s at *
      have hlt2 : (j : Int) < n := by omega
      clear hc
      rw [show validB s.1 s.2 = vP s from rfl] at K
      cases hv : vP s with
      | false =>
        rw [hv] at K
        have hf := Lib.hid (show false = bx by rw [hb.out, hR.out, hD.out, List.all_cons, hv]; rfl)
        clear hv
        go_wp2_with (go_at_call 40; (with_reducible refine (K.out _).mono ?_); rintro e w1 ⟨rfl, hk⟩)
        go_ret
        exact ⟨ret_bool hf.out, hkw.trans hk⟩
      | true =>
        rw [hv] at K
        have hR2 := Lib.hid (show L.all vP = (L.drop (j + 1)).all vP by rw [hR.out, hD.out, List.all_cons, hv]; rfl)
        clear hv
        go_wp2_with (go_at_call 40; (with_reducible refine (K.out _).mono ?_); rintro e w1 ⟨rfl, hk⟩)
        go_roundw
        case rel => exact ⟨j + 1, by omega, by go_num, hkw.trans hk, hR2⟩
        case measure => simp [intOf]; omega
    · obtain rfl : j = n := by omega
      have hlt2 : ¬ (j : Int) < j := by omega
      have hf := Lib.hid (show true = bx by rw [hb.out, hR.out, List.drop_of_length_le (by omega)]; rfl)
      go_wp2_with fail
      go_ret
      exact ⟨ret_bool hf.out, hkw⟩
def RetQ (w0 : World) (LL : List (List Pt)) (er : Int) (e : Ending) (w' : World) : Prop := ∃ A c, e = .returned (.tuple #[.slice A LL.length c, .int .i64 er]) ∧ RwsB w0.heap.size w' A LL.length c LL ∧ Keeps w0 w'
set_option maxRecDepth 100000 in
set_option maxHeartbeats 8000000 in
theorem rpoly_any (cl : Bool) (A : Option Addr) (n c : Nat) (L : List Pt) (wd jn cp ml ph : Int) (Ad : Option Addr) (nd cd : Nat) (D : List Int) (w : World) (h : Pts w A n c L) (hI : Ins w Ad nd cd D) (hn : n ≤ 100000) :
    Calls Tryz.prog 9 #[.agg #[.slice A n c, .bool cl], .agg #[.int .i64 wd, .int .i64 jn, .int .i64 cp, .int .i64 ml, .slice Ad nd cd, .int .i64 ph]] w (RetQ w (polyL cl L wd jn cp ml ph D) (polyE cl L wd jn cp ml ph D)) := by
  have hl := h.1
  have hni : (n : Int) ≤ 100000 := by omega
  have HS := Lib.hid (show ∀ w', Keeps ((w.alloc (.cells #[.slice A n c, .bool cl] 24)).alloc (.cells #[.int .i64 wd, .int .i64 jn, .int .i64 cp, .int .i64 ml, .slice Ad nd cd, .int .i64 ph] 27)) w' → w'.cell? ⟨w.heap.size, 0, none⟩ = some (.slice A n c) ∧ w'.frozen? ⟨w.heap.size, 0, none⟩ = false ∧ w'.cell? ⟨w.heap.size, 1, none⟩ = some (.bool cl) ∧ w'.frozen? ⟨w.heap.size, 1, none⟩ = false ∧ w'.cell? ⟨w.heap.size + 1, 0, none⟩ = some (.int .i64 wd) ∧ w'.frozen? ⟨w.heap.size + 1, 0, none⟩ = false ∧ w'.cell? ⟨w.heap.size + 1, 1, none⟩ = some (.int .i64 jn) ∧ w'.frozen? ⟨w.heap.size + 1, 1, none⟩ = false ∧ w'.cell? ⟨w.heap.size + 1, 2, none⟩ = some (.int .i64 cp) ∧ w'.frozen? ⟨w.heap.size + 1, 2, none⟩ = false ∧ w'.cell? ⟨w.heap.size + 1, 3, none⟩ = some (.int .i64 ml) ∧ w'.frozen? ⟨w.heap.size + 1, 3, none⟩ = false ∧ w'.cell? ⟨w.heap.size + 1, 4, none⟩ = some (.slice Ad nd cd) ∧ w'.frozen? ⟨w.heap.size + 1, 4, none⟩ = false ∧ w'.cell? ⟨w.heap.size + 1, 5, none⟩ = some (.int .i64 ph) ∧ w'.frozen? ⟨w.heap.size + 1, 5, none⟩ = false from fun w' hk => ⟨(hk.cell (p := ⟨w.heap.size, 0, none⟩) (by first | (simp; done) | (simp; omega))).trans (by simp [go_sem]), (hk.frozen (p := ⟨w.heap.size, 0, none⟩) (by first | (simp; done) | (simp; omega))).trans (by simp [go_sem]), (hk.cell (p := ⟨w.heap.size, 1, none⟩) (by first | (simp; done) | (simp; omega))).trans (by simp [go_sem]), (hk.frozen (p := ⟨w.heap.size, 1, none⟩) (by first | (simp; done) | (simp; omega))).trans (by simp [go_sem]), (hk.cell (p := ⟨w.heap.size + 1, 0, none⟩) (by first | (simp; done) | (simp; omega))).trans (by simp [go_sem]), (hk.frozen (p := ⟨w.heap.size + 1, 0, none⟩) (by first | (simp; done) | (simp; omega))).trans (by simp [go_sem]), (hk.cell (p := ⟨w.heap.size + 1, 1, none⟩) (by first | (simp; done) | (simp; omega))).trans (by simp [go_sem]), (hk.frozen (p := ⟨w.heap.size + 1, 1, none⟩) (by first | (simp; done) | (simp; omega))).trans (by simp [go_sem]), (hk.cell (p := ⟨w.heap.size + 1, 2, none⟩) (by first | (simp; done) | (simp; omega))).trans (by simp [go_sem]), (hk.frozen (p := ⟨w.heap.size + 1, 2, none⟩) (by first | (simp; done) | (simp; omega))).trans (by simp [go_sem]), (hk.cell (p := ⟨w.heap.size + 1, 3, none⟩) (by first | (simp; done) | (simp; omega))).trans (by simp [go_sem]), (hk.frozen (p := ⟨w.heap.size + 1, 3, none⟩) (by first | (simp; done) | (simp; omega))).trans (by simp [go_sem]), (hk.cell (p := ⟨w.heap.size + 1, 4, none⟩) (by first | (simp; done) | (simp; omega))).trans (by simp [go_sem]), (hk.frozen (p := ⟨w.heap.size + 1, 4, none⟩) (by first | (simp; done) | (simp; omega))).trans (by simp [go_sem]), (hk.cell (p := ⟨w.heap.size + 1, 5, none⟩) (by first | (simp; done) | (simp; omega))).trans (by simp [go_sem]), (hk.frozen (p := ⟨w.heap.size + 1, 5, none⟩) (by first | (simp; done) | (simp; omega))).trans (by simp [go_sem])⟩)
  have HB := Lib.hid (show Keeps w ((w.alloc (.cells #[.slice A n c, .bool cl] 24)).alloc (.cells #[.int .i64 wd, .int .i64 jn, .int .i64 cp, .int .i64 ml, .slice Ad nd cd, .int .i64 ph] 27)) from (by (repeat (first | (with_reducible exact Keeps.refl _) | (with_reducible assumption) | (with_reducible refine Keeps.drewN ?_ _) | (with_reducible refine Keeps.drew ?_) | (with_reducible refine Keeps.alloc ?_ _) | (with_reducible refine Keeps.setNew ?_ ?_ _))) <;> (dsimp only; omega)))
  have hk0 := Keeps.refl ((w.alloc (.cells #[.slice A n c, .bool cl] 24)).alloc (.cells #[.int .i64 wd, .int .i64 jn, .int .i64 cp, .int .i64 ml, .slice Ad nd cd, .int .i64 ph] 27))
  have hk := hk0
  have KS := Lib.hid (fun w' (hk : Keeps w w') => rstyle_any wd jn cp ml ph Ad nd cd D w' (hI.keep hk))
  have KV := Lib.hid (fun w' (hk : Keeps w w') => rallv_any A n c L w' (h.keep hk))
  obtain ⟨er, RR, hE, hR⟩ : ∃ (er : Int) (RR : List (List Pt)), Hid (er = polyE cl L wd jn cp ml ph D) ∧ Hid (RR = polyL cl L wd jn cp ml ph D) := ⟨_, _, Lib.hid rfl, Lib.hid rfl⟩
  rw [← hE.out, ← hR.out]
  have hno := Lib.hid (show ∀ x, er = x → x ≠ 0 → RR = [] from fun x h1 h2 => by rw [hR.out]; unfold polyL; rw [if_neg (by rw [← hE.out, h1]; exact h2)])
  have hyes := Lib.hid (show er = 0 → RR = ringsL cl (dedC cl L) wd jn cp ml ph D from fun h1 => by rw [hR.out]; unfold polyL; rw [if_pos (by rw [← hE.out, h1])])
  have hE' := hE.out
  unfold polyE at hE'
  cases hst : stB wd jn cp ml ph D with
  | false =>
    rw [hst, if_pos rfl] at hE'
    have hf := Lib.hid (And.intro hE' (hno.out _ hE' (by decide)))
    rw [hst] at KS
    clear hst hE' h hI
    go_enter Tryz.func9, Tryz.ntmps9
    go_wp2_with (first | (go_at_call 19; (with_reducible refine (keepk (KS.out _ (HB.out.trans hk)) hk).mono ?_); rintro e w1 ⟨rfl, hk⟩; obtain ⟨y0, y1, y2, y3, y4, y5, y6, y7, y8, y9, y10, y11, y12, y13, y14, y15⟩ := HS.out _ hk) | (go_at_call 20; (with_reducible refine (keepk (KV.out _ (HB.out.trans hk)) hk).mono ?_); rintro e w2 ⟨rfl, hk⟩; obtain ⟨y0, y1, y2, y3, y4, y5, y6, y7, y8, y9, y10, y11, y12, y13, y14, y15⟩ := HS.out _ hk) | fail "ARM")
    go_ret2
    obtain ⟨f1, f2⟩ := hf.out
    rw [f1, f2]
    exact ⟨none, 0, rfl, RwsB.nil _ _, HB.out.trans hk⟩
  | true =>
    rw [hst, if_neg (by decide)] at hE'
    rw [hst] at KS
    clear hst
    cases hv : L.all vP with
    | false =>
      rw [hv, if_pos rfl] at hE'
      have hf := Lib.hid (And.intro hE' (hno.out _ hE' (by decide)))
      rw [hv] at KV
      clear hv hE' h hI
      go_enter Tryz.func9, Tryz.ntmps9
      go_wp2_with (first | (go_at_call 19; (with_reducible refine (keepk (KS.out _ (HB.out.trans hk)) hk).mono ?_); rintro e w1 ⟨rfl, hk⟩; obtain ⟨y0, y1, y2, y3, y4, y5, y6, y7, y8, y9, y10, y11, y12, y13, y14, y15⟩ := HS.out _ hk) | (go_at_call 20; (with_reducible refine (keepk (KV.out _ (HB.out.trans hk)) hk).mono ?_); rintro e w2 ⟨rfl, hk⟩; obtain ⟨y0, y1, y2, y3, y4, y5, y6, y7, y8, y9, y10, y11, y12, y13, y14, y15⟩ := HS.out _ hk) | fail "ARM")
      go_ret2
      obtain ⟨f1, f2⟩ := hf.out
      rw [f1, f2]
      exact ⟨none, 0, rfl, RwsB.nil _ _, HB.out.trans hk⟩
    | true =>
      rw [hv, if_neg (by decide), hl] at hE'
      rw [hv] at KV
      clear hv
      by_cases hbig : 4096 < n
      · rw [if_pos hbig] at hE'
        have hf := Lib.hid (And.intro hE' (hno.out _ hE' (by decide)))
        have hbi : (4096 : Int) < n := by omega
        clear hE' h hI
        go_enter Tryz.func9, Tryz.ntmps9
        go_wp2_with (first | (go_at_call 19; (with_reducible refine (keepk (KS.out _ (HB.out.trans hk)) hk).mono ?_); rintro e w1 ⟨rfl, hk⟩; obtain ⟨y0, y1, y2, y3, y4, y5, y6, y7, y8, y9, y10, y11, y12, y13, y14, y15⟩ := HS.out _ hk) | (go_at_call 20; (with_reducible refine (keepk (KV.out _ (HB.out.trans hk)) hk).mono ?_); rintro e w2 ⟨rfl, hk⟩; obtain ⟨y0, y1, y2, y3, y4, y5, y6, y7, y8, y9, y10, y11, y12, y13, y14, y15⟩ := HS.out _ hk) | fail "ARM")
        go_ret2
        obtain ⟨f1, f2⟩ := hf.out
        rw [f1, f2]
        exact ⟨none, 0, rfl, RwsB.nil _ _, HB.out.trans hk⟩
      · rw [if_neg hbig] at hE'
        have hbi : ¬ (4096 : Int) < n := by omega
        have hML := dedC_len cl L
        have KD := Lib.hid (fun w' (hk : Keeps w w') => rdedup_any cl A n c L w' (h.keep hk) (by omega))
        have hRl := ringsL_len cl (dedC cl L) wd jn cp ml ph D
        have hRs := Lib.hid (ringsL_short cl (dedC cl L) wd jn cp ml ph D)
        have KR := Lib.hid (fun A2 c2 w' (hk : Keeps w w') (hP : Pts w' A2 (dedC cl L).length c2 (dedC cl L)) => outline_any cl A2 (dedC cl L).length c2 (dedC cl L) wd jn cp ml ph Ad nd cd D w' hP (hI.keep hk) (by omega))
        have HT := Lib.hid (show ∀ w', Keeps ((w.alloc (.cells #[.slice A n c, .bool cl] 24)).alloc (.cells #[.int .i64 wd, .int .i64 jn, .int .i64 cp, .int .i64 ml, .slice Ad nd cd, .int .i64 ph] 27)) w' → (w'.cell? ⟨w.heap.size, 0, none⟩ = some (.slice A n c) ∧ w'.cell? ⟨w.heap.size, 1, none⟩ = some (.bool cl) ∧ w'.cell? ⟨w.heap.size + 1, 0, none⟩ = some (.int .i64 wd) ∧ w'.cell? ⟨w.heap.size + 1, 1, none⟩ = some (.int .i64 jn) ∧ w'.cell? ⟨w.heap.size + 1, 2, none⟩ = some (.int .i64 cp) ∧ w'.cell? ⟨w.heap.size + 1, 3, none⟩ = some (.int .i64 ml) ∧ w'.cell? ⟨w.heap.size + 1, 4, none⟩ = some (.slice Ad nd cd) ∧ w'.cell? ⟨w.heap.size + 1, 5, none⟩ = some (.int .i64 ph)) from fun w' hk => by
          obtain ⟨y0, y1, y2, y3, y4, y5, y6, y7, y8, y9, y10, y11, y12, y13, y14, y15⟩ := HS.out _ hk
          exact ⟨y0, y2, y4, y6, y8, y10, y12, y14⟩)
        generalize dedC cl L = M at *
        generalize ringsL cl M wd jn cp ml ph D = R at *
        have hE9 := Lib.hid hE'
        have hRi : (R.length : Int) ≤ 1000000 := by omega
        have KQ := Lib.hid (fun A c w' (hX : Rws w' A R.length c R) => count_any A R.length c R w' hX (by omega) (fun r hr => by have := hRs.out r hr; omega))
        clear h hI hE'
        go_enter Tryz.func9, Tryz.ntmps9
        go_wp2_with (first | (go_at_call 19; (with_reducible refine (keepk (KS.out _ (HB.out.trans hk)) hk).mono ?_); rintro e w1 ⟨rfl, hk⟩; obtain ⟨y0, y1, y2, y3, y4, y5, y6, y7, y8, y9, y10, y11, y12, y13, y14, y15⟩ := HS.out _ hk) | (go_at_call 20; (with_reducible refine (keepk (KV.out _ (HB.out.trans hk)) hk).mono ?_); rintro e w2 ⟨rfl, hk⟩; obtain ⟨y0, y1, y2, y3, y4, y5, y6, y7, y8, y9, y10, y11, y12, y13, y14, y15⟩ := HS.out _ hk) | fail "ARM")
        generalize ((w.alloc (.cells #[.slice A n c, .bool cl] 24)).alloc (.cells #[.int .i64 wd, .int .i64 jn, .int .i64 cp, .int .i64 ml, .slice Ad nd cd, .int .i64 ph] 27)) = W0 at *
        clear y0 y1 y2 y3 y4 y5 y6 y7 y8 y9 y10 y11 y12 y13 y14 y15
        go_region_held3 (fun w' => (w'.cell? ⟨w.heap.size, 0, none⟩ = some (.slice A n c) ∧ w'.cell? ⟨w.heap.size, 1, none⟩ = some (.bool cl) ∧ w'.cell? ⟨w.heap.size + 1, 0, none⟩ = some (.int .i64 wd) ∧ w'.cell? ⟨w.heap.size + 1, 1, none⟩ = some (.int .i64 jn) ∧ w'.cell? ⟨w.heap.size + 1, 2, none⟩ = some (.int .i64 cp) ∧ w'.cell? ⟨w.heap.size + 1, 3, none⟩ = some (.int .i64 ml) ∧ w'.cell? ⟨w.heap.size + 1, 4, none⟩ = some (.slice Ad nd cd) ∧ w'.cell? ⟨w.heap.size + 1, 5, none⟩ = some (.int .i64 ph))) (first | exact HT.out _ (by first | assumption | exact Keeps.drew (by assumption) | exact Keeps.drewN (by assumption) _) | go_keep) (first | (go_at_call 22; (with_reducible refine (KD.out _ (HB.out.trans (by first | assumption | exact Keeps.drew (by assumption) | exact Keeps.drewN (by assumption) _))).mono ?_); rintro e w3 ⟨A3, c3, rfl, hP3, hk3⟩; have hP3 := Lib.hid hP3; replace hk : Keeps W0 w3 := Keeps.trans (by first | assumption | exact Keeps.drew (by assumption) | exact Keeps.drewN (by assumption) _) hk3; clear hk3) | (go_at_call 21; (with_reducible refine (KR.out _ _ _ (HB.out.trans (by first | assumption | exact Keeps.drew (by assumption) | exact Keeps.drewN (by assumption) _)) (hP3.out.keep (by first | exact Keeps.refl _ | exact (Keeps.refl _).drew | exact (Keeps.refl _).drewN _))).mono ?_); rintro e w4 ⟨v4, rfl, hG4, hk4⟩; obtain ⟨A4, c4, e4, hR4⟩ := hG4.rws; subst e4; have hR4 := Lib.hid (hR4.low (Keeps.size (w0 := w) (HB.out.trans (by first | assumption | exact Keeps.drew (by assumption) | exact Keeps.drewN (by assumption) _)))); replace hk : Keeps W0 w4 := Keeps.trans (by first | assumption | exact Keeps.drew (by assumption) | exact Keeps.drewN (by assumption) _) hk4; clear hk4 hG4) | fail "ARM")
        go_wp2_with fail
        go_loopw [7] (fun i wr => ∃ (j : Nat), j ≤ R.length ∧ i = .int .i64 j ∧ Keeps w4 wr ∧ Hid (allV (R.take j) = true)) (fun i _ => R.length - (intOf i).toNat)
        case atStart => exact ⟨0, by omega, rfl, Keeps.refl _, Lib.hid rfl⟩
        case round =>
          obtain ⟨j, hj, rfl, hkr, hA⟩ := hrel
          by_cases hlt : j < R.length
          · obtain ⟨b, o, rfl, hb1, hb2, hC⟩ := hR4.out.2.2.2 (by omega)
            obtain ⟨Ak, nk, ck, e0, hPk, hnk, hfk⟩ := hC j hlt
            have c0 := (hkr.cell hb2).trans e0
            have hlt2 : (j : Int) < R.length := by omega
            have KA := Lib.hid (rallv_any Ak nk ck (R.getD j []) _ (hPk.keep hkr))
            have hT := Lib.hid (allV_take R j hlt)
            have hFl := Lib.hid (allV_part R j hlt)
            clear hC e0 hPk
            generalize R.getD j [] = X at *
            cases hx : X.all vP with
            | false =>
              have hfa := hFl.out hx
              have hE8 := hE9.out
              rw [hfa, if_pos rfl] at hE8
              have hf := Lib.hid (And.intro hE8 (hno.out _ hE8 (by decide)))
              rw [hx] at KA
              clear hx hfa hE8
              go_wp2_with (go_at_call 20; (with_reducible refine (keepk KA.out hkr).mono ?_); rintro e w6 ⟨rfl, hkr⟩)
              have hk := hk.trans hkr
              go_ret2
              obtain ⟨f1, f2⟩ := hf.out
              rw [f1, f2]
              exact ⟨none, 0, rfl, RwsB.nil _ _, HB.out.trans hk⟩
            | true =>
              have hA2 := Lib.hid (show allV (R.take (j + 1)) = true by rw [hT.out, hA.out, hx]; rfl)
              rw [hx] at KA
              clear hx
              go_wp2_with (go_at_call 20; (with_reducible refine (keepk KA.out hkr).mono ?_); rintro e w6 ⟨rfl, hkr⟩)
              go_roundw
              case rel => exact ⟨j + 1, by omega, by go_num, hkr, hA2⟩
              case measure => simp [intOf]; omega
          · obtain rfl : j = R.length := by omega
            have hlt2 : ¬ (R.length : Int) < R.length := by omega
            have hav := hA.out
            rw [List.take_of_length_le (Nat.le_refl _)] at hav
            have hE8 := hE9.out
            rw [hav, if_neg (by decide)] at hE8
            clear hav hA
            have hk := hk.trans hkr
            have hR5 := Lib.hid (hR4.out.keep hkr)
            by_cases hc : 4096 < cnt R
            · rw [if_pos hc] at hE8
              have hf := Lib.hid (And.intro hE8 (hno.out _ hE8 (by decide)))
              have hci : (4096 : Int) < cnt R := by omega
              clear hE8 hc
              go_wp2_with (go_at_call 23; (with_reducible refine (keepk2 (KQ.out _ _ _ hR5.out.rws) hk).mono ?_); rintro e w5 ⟨rfl, hk5, hk⟩)
              go_ret2
              obtain ⟨f1, f2⟩ := hf.out
              rw [f1, f2]
              exact ⟨none, 0, rfl, RwsB.nil _ _, HB.out.trans hk⟩
            · rw [if_neg hc] at hE8
              have hf := Lib.hid (And.intro hE8 (hyes.out hE8))
              have hci : ¬ (4096 : Int) < cnt R := by omega
              clear hE8 hc
              go_wp2_with (go_at_call 23; (with_reducible refine (keepk2 (KQ.out _ _ _ hR5.out.rws) hk).mono ?_); rintro e w5 ⟨rfl, hk5, hk⟩; have hk5 := Lib.hid hk5)
              go_ret2
              obtain ⟨f1, f2⟩ := hf.out
              rw [f1, f2]
              exact ⟨_, _, rfl, hR5.out.keep hk5.out, HB.out.trans hk⟩
end
end

section
section
open Go.RowKit
attribute [local go_sem ↓] Go.wp_at_zero Go.wp_at_succ
set_option linter.unusedVariables false
set_option linter.unusedSimpArgs false
set_option maxRecDepth 100000 in
set_option maxHeartbeats 8000000 in
theorem rpolys_any (A : Option Addr) (n c : Nat) (PL : List (Bool × List Pt)) (wd jn cp ml ph : Int) (Ad : Option Addr) (nd cd : Nat) (D : List Int) (w : World) (h : Pls w A n c PL) (hI : Ins w Ad nd cd D) (hn : n ≤ 200) (hL : ∀ p ∈ PL, p.2.length ≤ 400) :
    Calls Tryz.prog 14 #[.slice A n c, .agg #[.int .i64 wd, .int .i64 jn, .int .i64 cp, .int .i64 ml, .slice Ad nd cd, .int .i64 ph]] w (RetQ w (polysL PL wd jn cp ml ph D) (polysE PL wd jn cp ml ph D)) := by
  obtain ⟨j0, ji, jz0, jz1, jz2⟩ := info_parts rows_info
  have HJ0 := Lib.hid (And.intro ji (And.intro jz0 (And.intro jz1 jz2)))
  clear ji jz0 jz1 jz2
  have hl := h.1
  have hni : (n : Int) ≤ 200 := by omega
  have HS := Lib.hid (show ∀ w', Keeps (w.alloc (.cells #[.int .i64 wd, .int .i64 jn, .int .i64 cp, .int .i64 ml, .slice Ad nd cd, .int .i64 ph] 27)) w' → w'.cell? ⟨w.heap.size, 0, none⟩ = some (.int .i64 wd) ∧ w'.frozen? ⟨w.heap.size, 0, none⟩ = false ∧ w'.cell? ⟨w.heap.size, 1, none⟩ = some (.int .i64 jn) ∧ w'.frozen? ⟨w.heap.size, 1, none⟩ = false ∧ w'.cell? ⟨w.heap.size, 2, none⟩ = some (.int .i64 cp) ∧ w'.frozen? ⟨w.heap.size, 2, none⟩ = false ∧ w'.cell? ⟨w.heap.size, 3, none⟩ = some (.int .i64 ml) ∧ w'.frozen? ⟨w.heap.size, 3, none⟩ = false ∧ w'.cell? ⟨w.heap.size, 4, none⟩ = some (.slice Ad nd cd) ∧ w'.frozen? ⟨w.heap.size, 4, none⟩ = false ∧ w'.cell? ⟨w.heap.size, 5, none⟩ = some (.int .i64 ph) ∧ w'.frozen? ⟨w.heap.size, 5, none⟩ = false from fun w' hk => ⟨(hk.cell (p := ⟨w.heap.size, 0, none⟩) (by first | (simp; done) | (simp; omega))).trans (by simp [go_sem]), (hk.frozen (p := ⟨w.heap.size, 0, none⟩) (by first | (simp; done) | (simp; omega))).trans (by simp [go_sem]), (hk.cell (p := ⟨w.heap.size, 1, none⟩) (by first | (simp; done) | (simp; omega))).trans (by simp [go_sem]), (hk.frozen (p := ⟨w.heap.size, 1, none⟩) (by first | (simp; done) | (simp; omega))).trans (by simp [go_sem]), (hk.cell (p := ⟨w.heap.size, 2, none⟩) (by first | (simp; done) | (simp; omega))).trans (by simp [go_sem]), (hk.frozen (p := ⟨w.heap.size, 2, none⟩) (by first | (simp; done) | (simp; omega))).trans (by simp [go_sem]), (hk.cell (p := ⟨w.heap.size, 3, none⟩) (by first | (simp; done) | (simp; omega))).trans (by simp [go_sem]), (hk.frozen (p := ⟨w.heap.size, 3, none⟩) (by first | (simp; done) | (simp; omega))).trans (by simp [go_sem]), (hk.cell (p := ⟨w.heap.size, 4, none⟩) (by first | (simp; done) | (simp; omega))).trans (by simp [go_sem]), (hk.frozen (p := ⟨w.heap.size, 4, none⟩) (by first | (simp; done) | (simp; omega))).trans (by simp [go_sem]), (hk.cell (p := ⟨w.heap.size, 5, none⟩) (by first | (simp; done) | (simp; omega))).trans (by simp [go_sem]), (hk.frozen (p := ⟨w.heap.size, 5, none⟩) (by first | (simp; done) | (simp; omega))).trans (by simp [go_sem])⟩)
  have HB := Lib.hid (show Keeps w (w.alloc (.cells #[.int .i64 wd, .int .i64 jn, .int .i64 cp, .int .i64 ml, .slice Ad nd cd, .int .i64 ph] 27)) from (by (repeat (first | (with_reducible exact Keeps.refl _) | (with_reducible assumption) | (with_reducible refine Keeps.drewN ?_ _) | (with_reducible refine Keeps.drew ?_) | (with_reducible refine Keeps.alloc ?_ _) | (with_reducible refine Keeps.setNew ?_ ?_ _))) <;> (dsimp only; omega)))
  have hk0 := Keeps.refl (w.alloc (.cells #[.int .i64 wd, .int .i64 jn, .int .i64 cp, .int .i64 ml, .slice Ad nd cd, .int .i64 ph] 27))
  have hk := hk0
  have KS := Lib.hid (fun w' (hk : Keeps w w') => rstyle_any wd jn cp ml ph Ad nd cd D w' (hI.keep hk))
  obtain ⟨er, RR, hE, hR⟩ : ∃ (er : Int) (RR : List (List Pt)), Hid (er = polysE PL wd jn cp ml ph D) ∧ Hid (RR = polysL PL wd jn cp ml ph D) := ⟨_, _, Lib.hid rfl, Lib.hid rfl⟩
  rw [← hE.out, ← hR.out]
  have hno := Lib.hid (show ∀ x, er = x → x ≠ 0 → RR = [] from fun x h1 h2 => by rw [hR.out]; unfold polysL; rw [if_neg (by rw [← hE.out, h1]; exact h2)])
  have hyes := Lib.hid (show er = 0 → RR = catL wd jn cp ml ph D PL from fun h1 => by rw [hR.out]; unfold polysL; rw [if_pos (by rw [← hE.out, h1])])
  have hE' := hE.out
  unfold polysE at hE'
  cases hst : stB wd jn cp ml ph D with
  | false =>
    rw [hst, if_pos rfl] at hE'
    have hf := Lib.hid (And.intro hE' (hno.out _ hE' (by decide)))
    rw [hst] at KS
    clear hst hE' h hI
    go_enter Tryz.func14, Tryz.ntmps14
    go_wp2_with (go_at_call 19; (with_reducible refine (keepk (KS.out _ (HB.out.trans hk)) hk).mono ?_); rintro e w1 ⟨rfl, hk⟩)
    go_ret2
    obtain ⟨f1, f2⟩ := hf.out
    rw [f1, f2]
    exact ⟨none, 0, rfl, RwsB.nil _ _, HB.out.trans hk⟩
  | true =>
    rw [hst, if_neg (by decide)] at hE'
    rw [hst] at KS
    have hE2 := Lib.hid hE'
    have HPl := Lib.hid (fun w' (hk : Keeps w w') => h.keep hk)
    have HI := Lib.hid (fun w' (hk : Keeps w w') => hI.keep hk)
    have hcl := Lib.hid (fun k => catL_len (wd := wd) (jn := jn) (cp := cp) (ml := ml) (ph := ph) (D := D) (PL.take k) (fun p hp => hL p (List.mem_of_mem_take hp)))
    have hL := Lib.hid hL
    clear hst hE' h hI
    go_enter Tryz.func14, Tryz.ntmps14
    go_wp2_with (go_at_call 19; (with_reducible refine (keepk (KS.out _ (HB.out.trans hk)) hk).mono ?_); rintro e w1 ⟨rfl, hk⟩)
    have hW0s : ((w.alloc (.cells #[.int .i64 wd, .int .i64 jn, .int .i64 cp, .int .i64 ml, .slice Ad nd cd, .int .i64 ph] 27))).heap.size = w.heap.size + 1 := by simp
    generalize (w.alloc (.cells #[.int .i64 wd, .int .i64 jn, .int .i64 cp, .int .i64 ml, .slice Ad nd cd, .int .i64 ph] 27)) = W0 at *
    have hB0 := Lib.hid (GRws.nil w1 W0.heap.size w1.heap.size 0 rfl hk.size)
    go_loopw [6, 7] (fun q i wr => ∃ (j : Nat) (Aq : Option Addr) (cq : Nat), j ≤ n ∧ i = .int .i64 j ∧ q = .slice Aq (catL wd jn cp ml ph D (PL.take j)).length cq ∧ Keeps W0 wr ∧ Hid (GRws wr W0.heap.size (.slice Aq (catL wd jn cp ml ph D (PL.take j)).length cq) (catL wd jn cp ml ph D (PL.take j))) ∧ Hid (firstE wd jn cp ml ph D PL = firstE wd jn cp ml ph D (PL.drop j))) (fun _ i _ => n - (intOf i).toNat)
    case atStart => exact ⟨0, some ⟨w1.heap.size, 0, none⟩, 0, by omega, rfl, rfl, hk.alloc _, hB0, Lib.hid rfl⟩
    case round =>
      clear hk hk0 hB0
      obtain ⟨j, Aq, cq, hj, rfl, rfl, hkw, hF, hD⟩ := hrel
      by_cases hlt : j < n
      · have hlt2 : (j : Int) < n := by omega
        have hlt0 : w.heap.size < wr.heap.size := by have := hkw.size; omega
        obtain ⟨b, o, rfl, hb, hC⟩ := (HPl.out w (Keeps.refl _)).2.2.2 (by omega)
        obtain ⟨Ak, nk, ck, e0, e1, hPk⟩ := hC j hlt
        have hmem : PL.getD j pl0 ∈ PL := by rw [List.getD_eq_getElem?_getD, List.getElem?_eq_getElem (by omega)]; exact List.getElem_mem _
        have hpl := hL.out _ hmem
        have hnk := hPk.1
        have hDr := Lib.hid (drop_pl PL j (by omega))
        have hTk := Lib.hid (catL_take (wd := wd) (jn := jn) (cp := cp) (ml := ml) (ph := ph) (D := D) PL j (by omega))
        have hRp := Lib.hid (fun r (h : r ∈ polyL (PL.getD j pl0).1 (PL.getD j pl0).2 wd jn cp ml ph D) => (polyL_ring h).1)
        have hRl := polyL_len (PL.getD j pl0).1 (PL.getD j pl0).2 wd jn cp ml ph D
        have hcj := hcl.out j
        rw [List.length_take] at hcj
        have hcj2 : (catL wd jn cp ml ph D (PL.take j)).length ≤ 160400 := Nat.le_trans hcj (Nat.le_trans (Nat.mul_le_mul_right 802 (show min j PL.length ≤ 200 by omega)) (by omega))
        have KP := Lib.hid (fun w' (hk : Keeps w w') => rpoly_any (PL.getD j pl0).1 Ak nk ck (PL.getD j pl0).2 wd jn cp ml ph Ad nd cd D w' (hPk.keep hk) (HI.out _ hk) (by omega))
        have e0 := Lib.hid e0
        have e1 := Lib.hid e1
        clear hC hPk hmem hcj
        generalize PL.getD j pl0 = p at *
        obtain ⟨cl, Lk⟩ := p
        dsimp only at *
        have HT := Lib.hid (show ∀ w', Keeps wr w' → (w'.cell? ⟨b, o + j * 2, none⟩ = some (.slice Ak nk ck) ∧ w'.cell? ⟨b, o + j * 2 + 1, none⟩ = some (.bool cl) ∧ w'.cell? ⟨w.heap.size, 0, none⟩ = some (.int .i64 wd) ∧ w'.cell? ⟨w.heap.size, 1, none⟩ = some (.int .i64 jn) ∧ w'.cell? ⟨w.heap.size, 2, none⟩ = some (.int .i64 cp) ∧ w'.cell? ⟨w.heap.size, 3, none⟩ = some (.int .i64 ml) ∧ w'.cell? ⟨w.heap.size, 4, none⟩ = some (.slice Ad nd cd) ∧ w'.cell? ⟨w.heap.size, 5, none⟩ = some (.int .i64 ph)) from fun w' hq => by
          have h1 := hkw.trans hq
          obtain ⟨y0, y1, y2, y3, y4, y5, y6, y7, y8, y9, y10, y11⟩ := HS.out _ h1
          exact ⟨((HB.out.trans h1).cell hb).trans e0.out, ((HB.out.trans h1).cell hb).trans e1.out, y0, y2, y4, y6, y8, y10⟩)
        generalize catL wd jn cp ml ph D (PL.take j) = LT at *
        have hk := Keeps.refl wr
        go_wp2_with fail
        by_cases hee : polyE cl Lk wd jn cp ml ph D = 0
        · have hD2 := Lib.hid (show firstE wd jn cp ml ph D PL = firstE wd jn cp ml ph D (PL.drop (j + 1)) by rw [hD.out, hDr.out, firstE, if_pos hee])
          rw [hee] at KP
          generalize polyL cl Lk wd jn cp ml ph D = R at *
          clear hDr hD hee
          go_region_held3 (fun w' => (w'.cell? ⟨b, o + j * 2, none⟩ = some (.slice Ak nk ck) ∧ w'.cell? ⟨b, o + j * 2 + 1, none⟩ = some (.bool cl) ∧ w'.cell? ⟨w.heap.size, 0, none⟩ = some (.int .i64 wd) ∧ w'.cell? ⟨w.heap.size, 1, none⟩ = some (.int .i64 jn) ∧ w'.cell? ⟨w.heap.size, 2, none⟩ = some (.int .i64 cp) ∧ w'.cell? ⟨w.heap.size, 3, none⟩ = some (.int .i64 ml) ∧ w'.cell? ⟨w.heap.size, 4, none⟩ = some (.slice Ad nd cd) ∧ w'.cell? ⟨w.heap.size, 5, none⟩ = some (.int .i64 ph))) (first | exact HT.out _ (by first | assumption | exact Keeps.drew (by assumption) | exact Keeps.drewN (by assumption) _) | go_keep) (first | (go_at_call 9; (with_reducible refine (KP.out _ (HB.out.trans (hkw.trans (by first | assumption | exact Keeps.drew (by assumption) | exact Keeps.drewN (by assumption) _)))).mono ?_); rintro e w3 ⟨A3, c3, rfl, hR3, hk3⟩; have hk3w : Keeps wr w3 := Keeps.trans (by first | assumption | exact Keeps.drew (by assumption) | exact Keeps.drewN (by assumption) _) hk3) | fail "ARM")
          have hk3w := Lib.hid hk3w
          obtain ⟨B6, hB6⟩ : ∃ B6, Hid (wr.heap.size = B6) := ⟨_, Lib.hid rfl⟩
          have hs3 : B6 ≤ w3.heap.size := by rw [← hB6.out]; exact hk3w.out.size
          have hstart := Lib.hid (show OutI w3 W0.heap.size B6 (.slice Aq LT.length cq) LT w3 from ⟨hF.out.keep hk3w.out, fun g hg => .inl (by rw [← hB6.out]; exact (hF.out.lt g hg).2), fun _ _ _ => rfl, fun _ h _ => h, Nat.le_refl _⟩)
          have hR2 := Lib.hid (show RwsB B6 w3 A3 R.length c3 R by rw [← hB6.out]; exact hR3)
          have hkk3 := Lib.hid (hkw.trans hk3w.out)
          have hjli : (R.length : Int) ≤ 802 := by omega
          have hRl2 : R.length ≤ 802 := by omega
          have hws : W0.heap.size ≤ B6 := by rw [← hB6.out]; exact hkw.size
          clear hR3 hk hk3 hF HT KP
          go_wp2_with fail
          go_loopw [6, 10] (fun q i wi => ∃ (k : Nat) (Aq : Option Addr) (cq : Nat), k ≤ R.length ∧ i = .int .i64 k ∧ q = .slice Aq (LT ++ R.take k).length cq ∧ Hid (OutI w3 W0.heap.size B6 (.slice Aq (LT ++ R.take k).length cq) (LT ++ R.take k) wi)) (fun _ i _ => R.length - (intOf i).toNat)
          case atStart => exact ⟨0, Aq, cq, by omega, rfl, by rw [List.take_zero, List.append_nil], by rw [List.take_zero, List.append_nil]; exact hstart⟩
          case round =>
            clear hstart
            obtain ⟨k, Aq, cq, hkR, rfl, rfl, hF⟩ := hrel
            have hF0 := hF.out
            have hkw9 := hF0.keep W0 hkk3.out (Nat.le_refl _)
            have hLTl : (LT ++ R.take k).length ≤ 200000 := by rw [List.length_append, List.length_take]; omega
            by_cases hltk : k < R.length
            · have hltk2 : (k : Int) < R.length := by omega
              obtain ⟨bq, oq, rfl, hb1, hb2, hC⟩ := hR2.out.2.2.2 (by omega)
              obtain ⟨Aj, nj, cj, e3, hPj, hnj, hfj⟩ := hC k hltk
              have hmemR : R.getD k [] ∈ R := by rw [List.getD_eq_getElem?_getD, List.getElem?_eq_getElem hltk]; exact List.getElem_mem _
              have hpos := hRp.out _ hmemR
              have hbk := Pts.block hPj (by have := hPj.1; omega)
              have hsz := hF0.size
              have hcell : ∀ p : Addr, B6 ≤ p.block → p.block < w3.heap.size → wr.cell? p = w3.cell? p := fun p h1 h2 => by unfold World.cell?; rw [hF0.still _ h1 h2]
              have c0 := (hcell ⟨bq, oq + k, none⟩ hb1 hb2).trans e3
              have hT := Lib.hid (show LT ++ R.take (k + 1) = (LT ++ R.take k) ++ [R.getD k []] by rw [takeLL_succ R k hltk, List.append_assoc])
              have hPr := hPj.step hsz hcell hfj
              have hnji : (nj : Int) ≤ 4611686018427387904 := by omega
              obtain ⟨VS, hv1, hv2⟩ := hF0.rows
              have hA := Lib.hid (show ∀ a, Aj = some a → W0.heap.size ≤ a.block ∧ a.block < wr.heap.size ∧ some a.block ≠ (Value.slice Aq (LT ++ R.take k).length cq).ownBlock from fun a ha => ⟨by have := hfj a ha; omega, Nat.lt_of_lt_of_le (hbk a ha) hsz, fun e => by
                have h1 := hfj a ha
                have h2 := hbk a ha
                rcases hF0.own _ e.symm with h3 | h3 <;> omega⟩)
              have hv1 := Lib.hid hv1
              have hv2 := Lib.hid hv2
              have hPr := Lib.hid hPr
              have hBs : W0.heap.size ≤ wr.heap.size + 1 := Nat.le_succ_of_le hkw9.size
              generalize R.getD k [] = X at *
              generalize LT ++ R.take k = LS at *
              clear hC hPj e3 hcell hfj hbk hF0 hmemR hpos
              obtain ⟨ji, jz0, jz1, jz2⟩ := HJ0.out
              go_wp2_with (at_builtin; refine wpList_append_lies _ rfl _ _ 30 rfl W0.heap.size 22 j0 (.slice none 0 0) 1 24 Tryz.underlying30 ji jz0 jz1 jz2 rfl (by decide) _ _ VS rfl (hv1.out.alloc _) ⟨wr.heap.size, 0, none⟩ 1 1 [.slice Aj nj cj] rfl rfl (one_new _ _ _) (by intro u hu; simp at hu; subst hu; rfl) (by omega) (by unfold maxLen; omega) (by omega) (by simp; omega) (wr.heap.size + 1) (by simp) ?_; intro g cap w9 hown1 hgrow hlie hglt; have hSN := Lib.hid (OutI.snoc hF.out hv1.out hv2.out hPr.out hnj hA.out hown1 hgrow hlie); clear hgrow hown1 hlie hglt)
              go_roundw
              case rel => exact ⟨k + 1, _, _, by omega, by go_num, by rw [hT.out, List.length_append]; rfl, Lib.hid (by rw [hT.out, List.length_append]; exact hSN.out)⟩
              case measure => simp [intOf]; omega
            · obtain rfl : k = R.length := by omega
              have hltk2 : ¬ (R.length : Int) < R.length := by omega
              rw [List.take_of_length_le (Nat.le_refl _)] at hF ⊢
              clear hF0
              go_wp2_with fail
              go_roundw
              case rel => exact ⟨j + 1, Aq, cq, by omega, by go_num, by rw [hTk.out], hkw9, Lib.hid (by rw [hTk.out]; exact hF.out.rows), hD2⟩
              case measure => simp [intOf]; omega
        · have hq : (polyE cl Lk wd jn cp ml ph D == 0) = false := by rw [beq_eq_false_iff_ne]; exact hee
          have hq2 : (polyE cl Lk wd jn cp ml ph D != 0) = true := by simp [hee]
          have hfe := Lib.hid (show firstE wd jn cp ml ph D PL = polyE cl Lk wd jn cp ml ph D by rw [hD.out, hDr.out, firstE, if_neg hee])
          have hf := Lib.hid (show er = polyE cl Lk wd jn cp ml ph D ∧ RR = [] by
            have h1 := hE2.out
            rw [hfe.out, if_pos hee] at h1
            exact ⟨h1, hno.out _ h1 hee⟩)
          generalize polyE cl Lk wd jn cp ml ph D = er2 at *
          generalize polyL cl Lk wd jn cp ml ph D = R at *
          clear hD hDr hfe hee hF
          go_region_held3 (fun w' => (w'.cell? ⟨b, o + j * 2, none⟩ = some (.slice Ak nk ck) ∧ w'.cell? ⟨b, o + j * 2 + 1, none⟩ = some (.bool cl) ∧ w'.cell? ⟨w.heap.size, 0, none⟩ = some (.int .i64 wd) ∧ w'.cell? ⟨w.heap.size, 1, none⟩ = some (.int .i64 jn) ∧ w'.cell? ⟨w.heap.size, 2, none⟩ = some (.int .i64 cp) ∧ w'.cell? ⟨w.heap.size, 3, none⟩ = some (.int .i64 ml) ∧ w'.cell? ⟨w.heap.size, 4, none⟩ = some (.slice Ad nd cd) ∧ w'.cell? ⟨w.heap.size, 5, none⟩ = some (.int .i64 ph))) (first | exact HT.out _ (by first | assumption | exact Keeps.drew (by assumption) | exact Keeps.drewN (by assumption) _) | go_keep) (first | (go_at_call 9; (with_reducible refine (KP.out _ (HB.out.trans (hkw.trans (by first | assumption | exact Keeps.drew (by assumption) | exact Keeps.drewN (by assumption) _)))).mono ?_); rintro e w3 ⟨A3, c3, rfl, hR3, hk3⟩; have hk3w : Keeps wr w3 := Keeps.trans (by first | assumption | exact Keeps.drew (by assumption) | exact Keeps.drewN (by assumption) _) hk3) | fail "ARM")
          go_wp2_with fail
          go_ret2
          obtain ⟨f1, f2⟩ := hf.out
          rw [f1, f2]
          exact ⟨none, 0, rfl, RwsB.nil _ _, HB.out.trans (hkw.trans hk3w)⟩
      · obtain rfl : j = n := by omega
        have hlt2 : ¬ (j : Int) < j := by omega
        have hcj := hcl.out j
        rw [List.take_of_length_le (by omega)] at hcj hF ⊢
        rw [List.drop_of_length_le (by omega)] at hD
        have hfe : firstE wd jn cp ml ph D PL = 0 := hD.out
        have hcj2 : (catL wd jn cp ml ph D PL).length ≤ 160400 := Nat.le_trans hcj (Nat.le_trans (Nat.mul_le_mul_right 802 (show PL.length ≤ 200 by omega)) (by omega))
        have hE3 := hE2.out
        rw [hfe, if_neg (by decide)] at hE3
        have hsh : ∀ r ∈ catL wd jn cp ml ph D PL, r.length ≤ 1000000 := fun r hr => by
          obtain ⟨p, _, h⟩ := catL_mem hr
          have := polyL_short _ _ _ _ _ _ _ _ r h
          omega
        have hyes2 := hyes
        obtain ⟨A2, c2, e2, hRq⟩ := hF.out.rws
        obtain ⟨rfl, rfl⟩ : Aq = A2 ∧ cq = c2 := by simpa using e2
        have KQ := Lib.hid (count_any Aq (catL wd jn cp ml ph D PL).length cq (catL wd jn cp ml ph D PL) wr hRq.rws (by omega) hsh)
        have hRq := Lib.hid hRq
        generalize catL wd jn cp ml ph D PL = R at *
        clear e2 hF hcl hfe hsh hcj hcj2
        by_cases hc : 4096 < cnt R
        · rw [if_pos hc] at hE3
          have hf := Lib.hid (And.intro hE3 (hno.out _ hE3 (by decide)))
          have hci : (4096 : Int) < cnt R := by omega
          clear hE3 hc
          go_wp2_with (go_at_call 23; (with_reducible refine (keepk2 KQ.out hkw).mono ?_); rintro e w5 ⟨rfl, hk5, hkw⟩)
          go_ret2
          obtain ⟨f1, f2⟩ := hf.out
          rw [f1, f2]
          exact ⟨none, 0, rfl, RwsB.nil _ _, HB.out.trans hkw⟩
        · rw [if_neg hc] at hE3
          have hf := Lib.hid (And.intro hE3 (hyes2.out hE3))
          have hci : ¬ (4096 : Int) < cnt R := by omega
          clear hE3 hc
          go_wp2_with (go_at_call 23; (with_reducible refine (keepk2 KQ.out hkw).mono ?_); rintro e w5 ⟨rfl, hk5, hkw⟩; have hk5 := Lib.hid hk5)
          go_ret2
          obtain ⟨f1, f2⟩ := hf.out
          rw [f1, f2]
          exact ⟨_, _, rfl, (hRq.out.keep hk5.out).low HB.out.size, HB.out.trans hkw⟩
end
end

section
section
open Go.RowKit
attribute [local go_sem ↓] Go.wp_at_zero Go.wp_at_succ
set_option linter.unusedVariables false
set_option linter.unusedSimpArgs false
def sumS (PL : List (Bool × List Pt)) : Nat := (PL.map fun p => min p.2.length 1000).sum
def smB (PL : List (Bool × List Pt)) : Bool := decide (PL.length ≤ 200) && decide (sumS PL ≤ 400)
theorem sum_take (PL : List (Bool × List Pt)) (k : Nat) (h : k < PL.length) : sumS (PL.take (k + 1)) = sumS (PL.take k) + min (PL.getD k pl0).2.length 1000 := by
  have e : PL.take (k + 1) = PL.take k ++ [PL.getD k pl0] := by
    rw [List.take_succ_eq_append_getElem h, List.getD_eq_getElem?_getD, List.getElem?_eq_getElem h]; rfl
  rw [e]; unfold sumS; simp
theorem sum_le : ∀ (PL : List (Bool × List Pt)), sumS PL ≤ PL.length * 1000
  | [] => Nat.le_refl _
  | p :: r => by
    have := sum_le r
    unfold sumS at this ⊢
    rw [List.map_cons, List.sum_cons, List.length_cons]; omega
theorem sum_mem : ∀ {PL : List (Bool × List Pt)} {p : Bool × List Pt}, p ∈ PL → min p.2.length 1000 ≤ sumS PL
  | q :: r, p, h => by
    unfold sumS
    rw [List.map_cons, List.sum_cons]
    rcases List.mem_cons.1 h with rfl | h
    · omega
    · have := sum_mem h; unfold sumS at this; omega
theorem smB_yes {PL : List (Bool × List Pt)} (h : smB PL = true) : PL.length ≤ 200 ∧ ∀ p ∈ PL, p.2.length ≤ 400 := by
  unfold smB at h
  simp at h
  refine ⟨h.1, fun p hp => ?_⟩
  have := sum_mem hp
  omega
set_option maxRecDepth 100000 in
set_option maxHeartbeats 2000000 in
theorem smallAll_any (A : Option Addr) (n c : Nat) (PL : List (Bool × List Pt)) (w : World) (h : Pls w A n c PL) :
    Calls Tryz.prog 12 #[.slice A n c] w fun e w' => e = .returned (.bool (smB PL)) ∧ Keeps w w' := by
  have hl := h.1
  have hmx : (n : Int) ≤ 9223372036854775807 := by have h1 := h.2.1; have h2 := h.2.2.1; unfold maxLen at h2; omega
  have HP := Lib.hid h
  clear h
  by_cases hn : n ≤ 200
  · have hni : (n : Int) ≤ 200 := by omega
    have hsb := Lib.hid (fun k => sum_le (PL.take k))
    obtain ⟨bx, hb⟩ : ∃ bx, Hid (bx = smB PL) := ⟨_, Lib.hid rfl⟩
    rw [← hb.out]
    go_enter Tryz.func12, Tryz.ntmps12
    go_wp2_with fail
    go_loopw [3, 7] (fun a i wr => ∃ (j x : Nat), j ≤ n ∧ i = .int .i64 j ∧ a = .int .i64 x ∧ Keeps w wr ∧ Hid (x = sumS (PL.take j))) (fun _ i _ => n - (intOf i).toNat)
    case atStart => exact ⟨0, 0, by omega, rfl, rfl, Keeps.refl _, Lib.hid rfl⟩
    case round =>
      obtain ⟨j, x, hj, rfl, rfl, hkw, hR⟩ := hrel
      have hxb : x ≤ 200000 := by
        have h1 := hsb.out j
        rw [List.length_take, ← hR.out] at h1
        exact Nat.le_trans h1 (Nat.le_trans (Nat.mul_le_mul_right 1000 (show min j PL.length ≤ 200 by omega)) (by omega))
      have hxi : (x : Int) ≤ 200000 := by omega
      by_cases hlt : j < n
      · have hlt2 : (j : Int) < n := by omega
        obtain ⟨b, o, rfl, hb0, hC⟩ := HP.out.2.2.2 (by omega)
        obtain ⟨Ak, nk, ck, e0, e1, hPk⟩ := hC j hlt
        have c0 := (hkw.cell hb0).trans e0
        have hnk := hPk.1
        have hT := Lib.hid (show x + min nk 1000 = sumS (PL.take (j + 1)) by rw [sum_take PL j (by omega), ← hR.out, hnk])
        have hnm : (nk : Int) ≤ 9223372036854775807 := by have h1 := hPk.2.1; have h2 := hPk.2.2.1; unfold maxLen at h2; omega
        have hmi : (min (nk : Int) 1000) = ((min nk 1000 : Nat) : Int) := by omega
        have hmb : ((min nk 1000 : Nat) : Int) ≤ 1000 := by omega
        clear hC e0 e1 hPk hnk
        generalize min nk 1000 = m at *
        go_wp2_with fail
        go_roundw
        case rel => exact ⟨j + 1, x + m, by omega, by go_num, by go_num, hkw, hT⟩
        case measure => simp [intOf]; omega
      · obtain rfl : j = n := by omega
        rw [List.take_of_length_le (by omega)] at hR
        by_cases h4 : x ≤ 400
        · have h4i : (x : Int) ≤ 400 := by omega
          go_wp2_with fail
          go_ret
          refine ⟨ret_bool ?_, hkw⟩
          rw [hb.out]; unfold smB; rw [← hR.out]; simp; omega
        · have h4i : ¬ (x : Int) ≤ 400 := by omega
          go_wp2_with fail
          go_ret
          refine ⟨ret_bool ?_, hkw⟩
          rw [hb.out]; unfold smB; rw [← hR.out]; simp; omega
  · have hni : ¬ (n : Int) ≤ 200 := by omega
    have hb : smB PL = false := by unfold smB; rw [hl, decide_eq_false hn]; rfl
    rw [hb]
    clear hb
    go_enter Tryz.func12, Tryz.ntmps12
    go_wp2_with fail
    go_loopw [3, 7] (fun a i wr => ∃ (j : Nat) (x : Int), j ≤ n ∧ i = .int .i64 j ∧ a = .int .i64 x ∧ Keeps w wr) (fun _ i _ => n - (intOf i).toNat)
    case atStart => exact ⟨0, 0, by omega, rfl, rfl, Keeps.refl _⟩
    case round =>
      obtain ⟨j, x, hj, rfl, rfl, hkw⟩ := hrel
      by_cases hlt : j < n
      · have hlt2 : (j : Int) < n := by omega
        obtain ⟨b, o, rfl, hb0, hC⟩ := HP.out.2.2.2 (by omega)
        obtain ⟨Ak, nk, ck, e0, e1, hPk⟩ := hC j hlt
        have c0 := (hkw.cell hb0).trans e0
        clear hC e0 e1 hPk
        go_wp2_with fail
        go_roundw
        case rel => exact ⟨j + 1, _, by omega, by go_num, rfl, hkw⟩
        case measure => simp [intOf]; omega
      · obtain rfl : j = n := by omega
        go_wp2_with fail
        go_ret
        exact ⟨rfl, hkw⟩
end
end
end Go.Proofs.YtdodgnpjlicnoaaGreat
