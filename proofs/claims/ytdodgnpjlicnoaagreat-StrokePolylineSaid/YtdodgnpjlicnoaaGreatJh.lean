/- Contract of linejoin.Join. -/
import Derived.Test.YtdodgnpjlicnoaaGreatJg
import Derived.Test.YtdodgnpjlicnoaaGreatKu
import Derived.Test.YtdodgnpjlicnoaaGreatJc
namespace Go.Proofs.YtdodgnpjlicnoaaGreat
open Go.RowKit
attribute [local go_sem ↓] Go.wp_at_zero Go.wp_at_succ
set_option linter.unusedVariables false
set_option linter.unusedSimpArgs false
theorem outN_bd (u v b : Pt) (wd : Int) : ((-1152921504606846976 ≤ (outN u v b wd).1 ∧ (outN u v b wd).1 ≤ 1152921504606846976) ∧ (-1152921504606846976 ≤ (outN u v b wd).2 ∧ (outN u v b wd).2 ≤ 1152921504606846976)) ∧ ((-1152921504606846976 ≤ (outM u v b wd).1 ∧ (outM u v b wd).1 ≤ 1152921504606846976) ∧ (-1152921504606846976 ≤ (outM u v b wd).2 ∧ (outM u v b wd).2 ≤ 1152921504606846976)) := by
  have h1 := ofs_bd' (subP v u) wd
  have h2 := ofs_bd' (subP b v) wd
  unfold outN outM negP
  cases outB u v b wd with
  | false => simp only [if_neg (show ¬ (false = true) by decide)]; exact ⟨⟨⟨by decide, by decide⟩, ⟨by decide, by decide⟩⟩, ⟨⟨by decide, by decide⟩, ⟨by decide, by decide⟩⟩⟩
  | true =>
    simp only [if_true]
    split <;> ((try dsimp only); omega)
/-- what each corner's point holds -/
theorem corn_ok (v n m : Pt) (wd jn ml : Int) (hv : -1048576 ≤ v.1 ∧ v.1 ≤ 1048576 ∧ -1048576 ≤ v.2 ∧ v.2 ≤ 1048576) (hn : (-1152921504606846976 ≤ n.1 ∧ n.1 ≤ 1152921504606846976) ∧ (-1152921504606846976 ≤ n.2 ∧ n.2 ≤ 1152921504606846976)) (hm : (-1152921504606846976 ≤ m.1 ∧ m.1 ≤ 1152921504606846976) ∧ (-1152921504606846976 ≤ m.2 ∧ m.2 ≤ 1152921504606846976)) : ∀ p ∈ cornL v n m wd jn ml, okP p := by
  have ht := tipP_bd n m wd ml
  intro p hp
  unfold cornL at hp
  unfold okP i64b
  rw [List.mem_append, List.mem_append] at hp
  rcases hp with (hp | hp) | hp
  · simp at hp
    rcases hp with rfl | rfl <;> (try simp only [addP]) <;> omega
  · split at hp
    · simp at hp; subst hp; simp only [addP]; omega
    · cases hp
  · simp at hp; subst hp; simp only [addP]; omega
theorem corn_len (v n m : Pt) (wd jn ml : Int) : (cornL v n m wd jn ml).length ≤ 4 := by
  unfold cornL; split <;> simp
set_option maxRecDepth 100000 in
set_option maxHeartbeats 8000000 in
theorem ljoinF_any (u v b : Pt) (wd jn cp ml ph : Int) (A : Option Addr) (n c : Nat) (D : List Int) (w : World) (h : Ins w A n c D) :
    Calls Tryz.prog 33 #[.agg #[.int .i64 u.1, .int .i64 u.2], .agg #[.int .i64 v.1, .int .i64 v.2], .agg #[.int .i64 b.1, .int .i64 b.2], .agg #[.int .i64 wd, .int .i64 jn, .int .i64 cp, .int .i64 ml, .slice A n c, .int .i64 ph]] w (RetU w (joinL u v b wd jn cp ml ph D)) := by
  have g1 := ptGuard
  have g2 := ptEql
  have KS := Lib.hid (fun w' (hk : Keeps w w') => style_any wd jn cp ml ph A n c D w' (h.keep hk))
  have KU := Lib.hid (fun w => valid_any u.1 u.2 w)
  have KV := Lib.hid (fun w => valid_any v.1 v.2 w)
  have KB := Lib.hid (fun w => valid_any b.1 b.2 w)
  rw [show validB u.1 u.2 = vP u from rfl] at KU
  rw [show validB v.1 v.2 = vP v from rfl] at KV
  rw [show validB b.1 b.2 = vP b from rfl] at KB
  have HS := Lib.hid (show ∀ w', Keeps ((((w.alloc (.cells #[.int .i64 u.1, .int .i64 u.2] 37)).alloc (.cells #[.int .i64 v.1, .int .i64 v.2] 37)).alloc (.cells #[.int .i64 b.1, .int .i64 b.2] 37)).alloc (.cells #[.int .i64 wd, .int .i64 jn, .int .i64 cp, .int .i64 ml, .slice A n c, .int .i64 ph] 27)) w' → w'.cell? ⟨w.heap.size, 0, none⟩ = some (.int .i64 u.1) ∧ w'.frozen? ⟨w.heap.size, 0, none⟩ = false ∧ w'.cell? ⟨w.heap.size, 1, none⟩ = some (.int .i64 u.2) ∧ w'.frozen? ⟨w.heap.size, 1, none⟩ = false ∧ w'.cell? ⟨w.heap.size + 1, 0, none⟩ = some (.int .i64 v.1) ∧ w'.frozen? ⟨w.heap.size + 1, 0, none⟩ = false ∧ w'.cell? ⟨w.heap.size + 1, 1, none⟩ = some (.int .i64 v.2) ∧ w'.frozen? ⟨w.heap.size + 1, 1, none⟩ = false ∧ w'.cell? ⟨w.heap.size + 1 + 1, 0, none⟩ = some (.int .i64 b.1) ∧ w'.frozen? ⟨w.heap.size + 1 + 1, 0, none⟩ = false ∧ w'.cell? ⟨w.heap.size + 1 + 1, 1, none⟩ = some (.int .i64 b.2) ∧ w'.frozen? ⟨w.heap.size + 1 + 1, 1, none⟩ = false ∧ w'.cell? ⟨w.heap.size + 1 + 1 + 1, 0, none⟩ = some (.int .i64 wd) ∧ w'.frozen? ⟨w.heap.size + 1 + 1 + 1, 0, none⟩ = false ∧ w'.cell? ⟨w.heap.size + 1 + 1 + 1, 1, none⟩ = some (.int .i64 jn) ∧ w'.frozen? ⟨w.heap.size + 1 + 1 + 1, 1, none⟩ = false ∧ w'.cell? ⟨w.heap.size + 1 + 1 + 1, 2, none⟩ = some (.int .i64 cp) ∧ w'.frozen? ⟨w.heap.size + 1 + 1 + 1, 2, none⟩ = false ∧ w'.cell? ⟨w.heap.size + 1 + 1 + 1, 3, none⟩ = some (.int .i64 ml) ∧ w'.frozen? ⟨w.heap.size + 1 + 1 + 1, 3, none⟩ = false ∧ w'.cell? ⟨w.heap.size + 1 + 1 + 1, 4, none⟩ = some (.slice A n c) ∧ w'.frozen? ⟨w.heap.size + 1 + 1 + 1, 4, none⟩ = false ∧ w'.cell? ⟨w.heap.size + 1 + 1 + 1, 5, none⟩ = some (.int .i64 ph) ∧ w'.frozen? ⟨w.heap.size + 1 + 1 + 1, 5, none⟩ = false from fun w' hk => ⟨(hk.cell (p := ⟨w.heap.size, 0, none⟩) (by first | (simp; done) | (simp; omega))).trans (by simp [go_sem]), (hk.frozen (p := ⟨w.heap.size, 0, none⟩) (by first | (simp; done) | (simp; omega))).trans (by simp [go_sem]), (hk.cell (p := ⟨w.heap.size, 1, none⟩) (by first | (simp; done) | (simp; omega))).trans (by simp [go_sem]), (hk.frozen (p := ⟨w.heap.size, 1, none⟩) (by first | (simp; done) | (simp; omega))).trans (by simp [go_sem]), (hk.cell (p := ⟨w.heap.size + 1, 0, none⟩) (by first | (simp; done) | (simp; omega))).trans (by simp [go_sem]), (hk.frozen (p := ⟨w.heap.size + 1, 0, none⟩) (by first | (simp; done) | (simp; omega))).trans (by simp [go_sem]), (hk.cell (p := ⟨w.heap.size + 1, 1, none⟩) (by first | (simp; done) | (simp; omega))).trans (by simp [go_sem]), (hk.frozen (p := ⟨w.heap.size + 1, 1, none⟩) (by first | (simp; done) | (simp; omega))).trans (by simp [go_sem]), (hk.cell (p := ⟨w.heap.size + 1 + 1, 0, none⟩) (by first | (simp; done) | (simp; omega))).trans (by simp [go_sem]), (hk.frozen (p := ⟨w.heap.size + 1 + 1, 0, none⟩) (by first | (simp; done) | (simp; omega))).trans (by simp [go_sem]), (hk.cell (p := ⟨w.heap.size + 1 + 1, 1, none⟩) (by first | (simp; done) | (simp; omega))).trans (by simp [go_sem]), (hk.frozen (p := ⟨w.heap.size + 1 + 1, 1, none⟩) (by first | (simp; done) | (simp; omega))).trans (by simp [go_sem]), (hk.cell (p := ⟨w.heap.size + 1 + 1 + 1, 0, none⟩) (by first | (simp; done) | (simp; omega))).trans (by simp [go_sem]), (hk.frozen (p := ⟨w.heap.size + 1 + 1 + 1, 0, none⟩) (by first | (simp; done) | (simp; omega))).trans (by simp [go_sem]), (hk.cell (p := ⟨w.heap.size + 1 + 1 + 1, 1, none⟩) (by first | (simp; done) | (simp; omega))).trans (by simp [go_sem]), (hk.frozen (p := ⟨w.heap.size + 1 + 1 + 1, 1, none⟩) (by first | (simp; done) | (simp; omega))).trans (by simp [go_sem]), (hk.cell (p := ⟨w.heap.size + 1 + 1 + 1, 2, none⟩) (by first | (simp; done) | (simp; omega))).trans (by simp [go_sem]), (hk.frozen (p := ⟨w.heap.size + 1 + 1 + 1, 2, none⟩) (by first | (simp; done) | (simp; omega))).trans (by simp [go_sem]), (hk.cell (p := ⟨w.heap.size + 1 + 1 + 1, 3, none⟩) (by first | (simp; done) | (simp; omega))).trans (by simp [go_sem]), (hk.frozen (p := ⟨w.heap.size + 1 + 1 + 1, 3, none⟩) (by first | (simp; done) | (simp; omega))).trans (by simp [go_sem]), (hk.cell (p := ⟨w.heap.size + 1 + 1 + 1, 4, none⟩) (by first | (simp; done) | (simp; omega))).trans (by simp [go_sem]), (hk.frozen (p := ⟨w.heap.size + 1 + 1 + 1, 4, none⟩) (by first | (simp; done) | (simp; omega))).trans (by simp [go_sem]), (hk.cell (p := ⟨w.heap.size + 1 + 1 + 1, 5, none⟩) (by first | (simp; done) | (simp; omega))).trans (by simp [go_sem]), (hk.frozen (p := ⟨w.heap.size + 1 + 1 + 1, 5, none⟩) (by first | (simp; done) | (simp; omega))).trans (by simp [go_sem])⟩)
  have HB := Lib.hid (show Keeps w ((((w.alloc (.cells #[.int .i64 u.1, .int .i64 u.2] 37)).alloc (.cells #[.int .i64 v.1, .int .i64 v.2] 37)).alloc (.cells #[.int .i64 b.1, .int .i64 b.2] 37)).alloc (.cells #[.int .i64 wd, .int .i64 jn, .int .i64 cp, .int .i64 ml, .slice A n c, .int .i64 ph] 27)) from (by (repeat (first | (with_reducible exact Keeps.refl _) | (with_reducible assumption) | (with_reducible refine Keeps.drewN ?_ _) | (with_reducible refine Keeps.drew ?_) | (with_reducible refine Keeps.alloc ?_ _) | (with_reducible refine Keeps.setNew ?_ ?_ _))) <;> (dsimp only; omega)))
  have hk0 := Keeps.refl ((((w.alloc (.cells #[.int .i64 u.1, .int .i64 u.2] 37)).alloc (.cells #[.int .i64 v.1, .int .i64 v.2] 37)).alloc (.cells #[.int .i64 b.1, .int .i64 b.2] 37)).alloc (.cells #[.int .i64 wd, .int .i64 jn, .int .i64 cp, .int .i64 ml, .slice A n c, .int .i64 ph] 27))
  have hk := hk0
  clear hk0 h
  unfold joinL joinR
  cases hb : badJ u v b wd jn cp ml ph D with
  | true =>
    rw [if_pos rfl, show wrapL [] = [] from rfl]
    rcases bad_yes hb with h1 | ⟨h1, h2⟩ | ⟨h1, h2, h3⟩ | ⟨h1, h2, h3, h4⟩ | ⟨h1, h2, h3, h4, h5⟩ | ⟨h1, h2, h3, h4, h5, h6⟩
    · rw [h1] at KS
      clear hb h1
      go_enter Tryz.func33, Tryz.ntmps33
      go_wp2_with (first | (go_at_call 15; (with_reducible refine (keepk (KS.out _ (HB.out.trans hk)) hk).mono ?_); rintro e w1 ⟨rfl, hk⟩; obtain ⟨y0, y1, y2, y3, y4, y5, y6, y7, y8, y9, y10, y11, y12, y13, y14, y15, y16, y17, y18, y19, y20, y21, y22, y23⟩ := HS.out _ hk) | (go_at_call 28; (first | (with_reducible refine (keepk (KU.out _) hk).mono ?_) | (with_reducible refine (keepk (KV.out _) hk).mono ?_) | (with_reducible refine (keepk (KB.out _) hk).mono ?_) | fail "V"); rintro e w1 ⟨rfl, hk⟩; obtain ⟨y0, y1, y2, y3, y4, y5, y6, y7, y8, y9, y10, y11, y12, y13, y14, y15, y16, y17, y18, y19, y20, y21, y22, y23⟩ := HS.out _ hk) | (go_at_call 49; (with_reducible refine (KD.out _).mono ?_); rintro e wd1 ⟨vd, rfl, hod, hkd⟩; obtain ⟨Ad, cd, rfl, hPd⟩ := Pts.of_own hod rfl hLok.out; have hfd := Lib.hid (own_nw (HB.out.trans hk).size hod); have hPd := Lib.hid hPd; have hsz := (((HB.out.trans hk).trans hkd).size); have hsz := Lib.hid hsz; have hkd := Lib.hid hkd; clear hod) | (go_at_call 54; (with_reducible refine (someF_any _ _ _ _ _ _ hPd.out hlen hfd.out hsz.out).mono ?_); rintro e wz ⟨Az, cz, rfl, hR, hkz⟩; have hR := Lib.hid hR; have hkz := Lib.hid hkz) | (go_at_call 55; (with_reducible refine (keepk (KO.out _) hk).mono ?_); rintro e w2 ⟨rfl, hk⟩; obtain ⟨y0, y1, y2, y3, y4, y5, y6, y7, y8, y9, y10, y11, y12, y13, y14, y15, y16, y17, y18, y19, y20, y21, y22, y23⟩ := HS.out _ hk; have hs2 : w.heap.size + 4 ≤ w2.heap.size := (by have h := hk.size; simp at h; omega)) | fail "ARM")
      go_ret
      exact RetU.nil (HB.out.trans hk)
    · rw [h1] at KS
      rw [h2] at KU
      clear hb h1 h2
      go_enter Tryz.func33, Tryz.ntmps33
      go_wp2_with (first | (go_at_call 15; (with_reducible refine (keepk (KS.out _ (HB.out.trans hk)) hk).mono ?_); rintro e w1 ⟨rfl, hk⟩; obtain ⟨y0, y1, y2, y3, y4, y5, y6, y7, y8, y9, y10, y11, y12, y13, y14, y15, y16, y17, y18, y19, y20, y21, y22, y23⟩ := HS.out _ hk) | (go_at_call 28; (first | (with_reducible refine (keepk (KU.out _) hk).mono ?_) | (with_reducible refine (keepk (KV.out _) hk).mono ?_) | (with_reducible refine (keepk (KB.out _) hk).mono ?_) | fail "V"); rintro e w1 ⟨rfl, hk⟩; obtain ⟨y0, y1, y2, y3, y4, y5, y6, y7, y8, y9, y10, y11, y12, y13, y14, y15, y16, y17, y18, y19, y20, y21, y22, y23⟩ := HS.out _ hk) | (go_at_call 49; (with_reducible refine (KD.out _).mono ?_); rintro e wd1 ⟨vd, rfl, hod, hkd⟩; obtain ⟨Ad, cd, rfl, hPd⟩ := Pts.of_own hod rfl hLok.out; have hfd := Lib.hid (own_nw (HB.out.trans hk).size hod); have hPd := Lib.hid hPd; have hsz := (((HB.out.trans hk).trans hkd).size); have hsz := Lib.hid hsz; have hkd := Lib.hid hkd; clear hod) | (go_at_call 54; (with_reducible refine (someF_any _ _ _ _ _ _ hPd.out hlen hfd.out hsz.out).mono ?_); rintro e wz ⟨Az, cz, rfl, hR, hkz⟩; have hR := Lib.hid hR; have hkz := Lib.hid hkz) | (go_at_call 55; (with_reducible refine (keepk (KO.out _) hk).mono ?_); rintro e w2 ⟨rfl, hk⟩; obtain ⟨y0, y1, y2, y3, y4, y5, y6, y7, y8, y9, y10, y11, y12, y13, y14, y15, y16, y17, y18, y19, y20, y21, y22, y23⟩ := HS.out _ hk; have hs2 : w.heap.size + 4 ≤ w2.heap.size := (by have h := hk.size; simp at h; omega)) | fail "ARM")
      go_ret
      exact RetU.nil (HB.out.trans hk)
    · rw [h1] at KS
      rw [h2] at KU
      rw [h3] at KV
      clear hb h1 h2 h3
      go_enter Tryz.func33, Tryz.ntmps33
      go_wp2_with (first | (go_at_call 15; (with_reducible refine (keepk (KS.out _ (HB.out.trans hk)) hk).mono ?_); rintro e w1 ⟨rfl, hk⟩; obtain ⟨y0, y1, y2, y3, y4, y5, y6, y7, y8, y9, y10, y11, y12, y13, y14, y15, y16, y17, y18, y19, y20, y21, y22, y23⟩ := HS.out _ hk) | (go_at_call 28; (first | (with_reducible refine (keepk (KU.out _) hk).mono ?_) | (with_reducible refine (keepk (KV.out _) hk).mono ?_) | (with_reducible refine (keepk (KB.out _) hk).mono ?_) | fail "V"); rintro e w1 ⟨rfl, hk⟩; obtain ⟨y0, y1, y2, y3, y4, y5, y6, y7, y8, y9, y10, y11, y12, y13, y14, y15, y16, y17, y18, y19, y20, y21, y22, y23⟩ := HS.out _ hk) | (go_at_call 49; (with_reducible refine (KD.out _).mono ?_); rintro e wd1 ⟨vd, rfl, hod, hkd⟩; obtain ⟨Ad, cd, rfl, hPd⟩ := Pts.of_own hod rfl hLok.out; have hfd := Lib.hid (own_nw (HB.out.trans hk).size hod); have hPd := Lib.hid hPd; have hsz := (((HB.out.trans hk).trans hkd).size); have hsz := Lib.hid hsz; have hkd := Lib.hid hkd; clear hod) | (go_at_call 54; (with_reducible refine (someF_any _ _ _ _ _ _ hPd.out hlen hfd.out hsz.out).mono ?_); rintro e wz ⟨Az, cz, rfl, hR, hkz⟩; have hR := Lib.hid hR; have hkz := Lib.hid hkz) | (go_at_call 55; (with_reducible refine (keepk (KO.out _) hk).mono ?_); rintro e w2 ⟨rfl, hk⟩; obtain ⟨y0, y1, y2, y3, y4, y5, y6, y7, y8, y9, y10, y11, y12, y13, y14, y15, y16, y17, y18, y19, y20, y21, y22, y23⟩ := HS.out _ hk; have hs2 : w.heap.size + 4 ≤ w2.heap.size := (by have h := hk.size; simp at h; omega)) | fail "ARM")
      go_ret
      exact RetU.nil (HB.out.trans hk)
    · rw [h1] at KS
      rw [h2] at KU
      rw [h3] at KV
      rw [h4] at KB
      clear hb h1 h2 h3 h4
      go_enter Tryz.func33, Tryz.ntmps33
      go_wp2_with (first | (go_at_call 15; (with_reducible refine (keepk (KS.out _ (HB.out.trans hk)) hk).mono ?_); rintro e w1 ⟨rfl, hk⟩; obtain ⟨y0, y1, y2, y3, y4, y5, y6, y7, y8, y9, y10, y11, y12, y13, y14, y15, y16, y17, y18, y19, y20, y21, y22, y23⟩ := HS.out _ hk) | (go_at_call 28; (first | (with_reducible refine (keepk (KU.out _) hk).mono ?_) | (with_reducible refine (keepk (KV.out _) hk).mono ?_) | (with_reducible refine (keepk (KB.out _) hk).mono ?_) | fail "V"); rintro e w1 ⟨rfl, hk⟩; obtain ⟨y0, y1, y2, y3, y4, y5, y6, y7, y8, y9, y10, y11, y12, y13, y14, y15, y16, y17, y18, y19, y20, y21, y22, y23⟩ := HS.out _ hk) | (go_at_call 49; (with_reducible refine (KD.out _).mono ?_); rintro e wd1 ⟨vd, rfl, hod, hkd⟩; obtain ⟨Ad, cd, rfl, hPd⟩ := Pts.of_own hod rfl hLok.out; have hfd := Lib.hid (own_nw (HB.out.trans hk).size hod); have hPd := Lib.hid hPd; have hsz := (((HB.out.trans hk).trans hkd).size); have hsz := Lib.hid hsz; have hkd := Lib.hid hkd; clear hod) | (go_at_call 54; (with_reducible refine (someF_any _ _ _ _ _ _ hPd.out hlen hfd.out hsz.out).mono ?_); rintro e wz ⟨Az, cz, rfl, hR, hkz⟩; have hR := Lib.hid hR; have hkz := Lib.hid hkz) | (go_at_call 55; (with_reducible refine (keepk (KO.out _) hk).mono ?_); rintro e w2 ⟨rfl, hk⟩; obtain ⟨y0, y1, y2, y3, y4, y5, y6, y7, y8, y9, y10, y11, y12, y13, y14, y15, y16, y17, y18, y19, y20, y21, y22, y23⟩ := HS.out _ hk; have hs2 : w.heap.size + 4 ≤ w2.heap.size := (by have h := hk.size; simp at h; omega)) | fail "ARM")
      go_ret
      exact RetU.nil (HB.out.trans hk)
    · rw [h1] at KS
      rw [h2] at KU
      rw [h3] at KV
      rw [h4] at KB
      clear hb h1 h2 h3 h4
      go_enter Tryz.func33, Tryz.ntmps33
      go_wp2_with (first | (go_at_call 15; (with_reducible refine (keepk (KS.out _ (HB.out.trans hk)) hk).mono ?_); rintro e w1 ⟨rfl, hk⟩; obtain ⟨y0, y1, y2, y3, y4, y5, y6, y7, y8, y9, y10, y11, y12, y13, y14, y15, y16, y17, y18, y19, y20, y21, y22, y23⟩ := HS.out _ hk) | (go_at_call 28; (first | (with_reducible refine (keepk (KU.out _) hk).mono ?_) | (with_reducible refine (keepk (KV.out _) hk).mono ?_) | (with_reducible refine (keepk (KB.out _) hk).mono ?_) | fail "V"); rintro e w1 ⟨rfl, hk⟩; obtain ⟨y0, y1, y2, y3, y4, y5, y6, y7, y8, y9, y10, y11, y12, y13, y14, y15, y16, y17, y18, y19, y20, y21, y22, y23⟩ := HS.out _ hk) | (go_at_call 49; (with_reducible refine (KD.out _).mono ?_); rintro e wd1 ⟨vd, rfl, hod, hkd⟩; obtain ⟨Ad, cd, rfl, hPd⟩ := Pts.of_own hod rfl hLok.out; have hfd := Lib.hid (own_nw (HB.out.trans hk).size hod); have hPd := Lib.hid hPd; have hsz := (((HB.out.trans hk).trans hkd).size); have hsz := Lib.hid hsz; have hkd := Lib.hid hkd; clear hod) | (go_at_call 54; (with_reducible refine (someF_any _ _ _ _ _ _ hPd.out hlen hfd.out hsz.out).mono ?_); rintro e wz ⟨Az, cz, rfl, hR, hkz⟩; have hR := Lib.hid hR; have hkz := Lib.hid hkz) | (go_at_call 55; (with_reducible refine (keepk (KO.out _) hk).mono ?_); rintro e w2 ⟨rfl, hk⟩; obtain ⟨y0, y1, y2, y3, y4, y5, y6, y7, y8, y9, y10, y11, y12, y13, y14, y15, y16, y17, y18, y19, y20, y21, y22, y23⟩ := HS.out _ hk; have hs2 : w.heap.size + 4 ≤ w2.heap.size := (by have h := hk.size; simp at h; omega)) | fail "ARM")
      go_ret
      exact RetU.nil (HB.out.trans hk)
    · rw [h1] at KS
      rw [h2] at KU
      rw [h3] at KV
      rw [h4] at KB
      clear hb h1 h2 h3 h4
      go_enter Tryz.func33, Tryz.ntmps33
      go_wp2_with (first | (go_at_call 15; (with_reducible refine (keepk (KS.out _ (HB.out.trans hk)) hk).mono ?_); rintro e w1 ⟨rfl, hk⟩; obtain ⟨y0, y1, y2, y3, y4, y5, y6, y7, y8, y9, y10, y11, y12, y13, y14, y15, y16, y17, y18, y19, y20, y21, y22, y23⟩ := HS.out _ hk) | (go_at_call 28; (first | (with_reducible refine (keepk (KU.out _) hk).mono ?_) | (with_reducible refine (keepk (KV.out _) hk).mono ?_) | (with_reducible refine (keepk (KB.out _) hk).mono ?_) | fail "V"); rintro e w1 ⟨rfl, hk⟩; obtain ⟨y0, y1, y2, y3, y4, y5, y6, y7, y8, y9, y10, y11, y12, y13, y14, y15, y16, y17, y18, y19, y20, y21, y22, y23⟩ := HS.out _ hk) | (go_at_call 49; (with_reducible refine (KD.out _).mono ?_); rintro e wd1 ⟨vd, rfl, hod, hkd⟩; obtain ⟨Ad, cd, rfl, hPd⟩ := Pts.of_own hod rfl hLok.out; have hfd := Lib.hid (own_nw (HB.out.trans hk).size hod); have hPd := Lib.hid hPd; have hsz := (((HB.out.trans hk).trans hkd).size); have hsz := Lib.hid hsz; have hkd := Lib.hid hkd; clear hod) | (go_at_call 54; (with_reducible refine (someF_any _ _ _ _ _ _ hPd.out hlen hfd.out hsz.out).mono ?_); rintro e wz ⟨Az, cz, rfl, hR, hkz⟩; have hR := Lib.hid hR; have hkz := Lib.hid hkz) | (go_at_call 55; (with_reducible refine (keepk (KO.out _) hk).mono ?_); rintro e w2 ⟨rfl, hk⟩; obtain ⟨y0, y1, y2, y3, y4, y5, y6, y7, y8, y9, y10, y11, y12, y13, y14, y15, y16, y17, y18, y19, y20, y21, y22, y23⟩ := HS.out _ hk; have hs2 : w.heap.size + 4 ≤ w2.heap.size := (by have h := hk.size; simp at h; omega)) | fail "ARM")
      go_ret
      exact RetU.nil (HB.out.trans hk)
  | false =>
    rw [if_neg (by decide)]
    obtain ⟨h1, h2, h3, h4, h5, h6⟩ := bad_no hb
    have hvb := (vP_bd h3).2.2
    rw [h1] at KS
    rw [h2] at KU
    rw [h3] at KV
    rw [h4] at KB
    clear hb h1 h2 h3 h4
    by_cases hj3 : jn = 3
    · rw [if_pos hj3]
      have q3 : (jn == 3) = true := by rw [beq_iff_eq]; exact hj3
      have KD := Lib.hid (fun w' => disc_any v wd w')
      have hLok := Lib.hid (discL_ok v wd)
      have hlen : (discL v wd).length ≤ 4611686018427387904 := by have := discL_len v wd; omega
      unfold OwnP at KD
      generalize discL v wd = L at *
      clear hj3 hvb
      go_enter Tryz.func33, Tryz.ntmps33
      go_wp2_with (first | (go_at_call 15; (with_reducible refine (keepk (KS.out _ (HB.out.trans hk)) hk).mono ?_); rintro e w1 ⟨rfl, hk⟩; obtain ⟨y0, y1, y2, y3, y4, y5, y6, y7, y8, y9, y10, y11, y12, y13, y14, y15, y16, y17, y18, y19, y20, y21, y22, y23⟩ := HS.out _ hk) | (go_at_call 28; (first | (with_reducible refine (keepk (KU.out _) hk).mono ?_) | (with_reducible refine (keepk (KV.out _) hk).mono ?_) | (with_reducible refine (keepk (KB.out _) hk).mono ?_) | fail "V"); rintro e w1 ⟨rfl, hk⟩; obtain ⟨y0, y1, y2, y3, y4, y5, y6, y7, y8, y9, y10, y11, y12, y13, y14, y15, y16, y17, y18, y19, y20, y21, y22, y23⟩ := HS.out _ hk) | (go_at_call 49; (with_reducible refine (KD.out _).mono ?_); rintro e wd1 ⟨vd, rfl, hod, hkd⟩; obtain ⟨Ad, cd, rfl, hPd⟩ := Pts.of_own hod rfl hLok.out; have hfd := Lib.hid (own_nw (HB.out.trans hk).size hod); have hPd := Lib.hid hPd; have hsz := (((HB.out.trans hk).trans hkd).size); have hsz := Lib.hid hsz; have hkd := Lib.hid hkd; clear hod) | (go_at_call 54; (with_reducible refine (someF_any _ _ _ _ _ _ hPd.out hlen hfd.out hsz.out).mono ?_); rintro e wz ⟨Az, cz, rfl, hR, hkz⟩; have hR := Lib.hid hR; have hkz := Lib.hid hkz) | (go_at_call 55; (with_reducible refine (keepk (KO.out _) hk).mono ?_); rintro e w2 ⟨rfl, hk⟩; obtain ⟨y0, y1, y2, y3, y4, y5, y6, y7, y8, y9, y10, y11, y12, y13, y14, y15, y16, y17, y18, y19, y20, y21, y22, y23⟩ := HS.out _ hk; have hs2 : w.heap.size + 4 ≤ w2.heap.size := (by have h := hk.size; simp at h; omega)) | fail "ARM")
      go_ret
      exact ⟨_, _, rfl, hR.out, (HB.out.trans hk).trans (hkd.out.trans hkz.out)⟩
    · rw [if_neg hj3]
      have q3 : (jn == 3) = false := by rw [beq_eq_false_iff_ne]; exact hj3
      have KO := Lib.hid (fun w => lout_any u v b wd w)
      obtain ⟨bN, bM⟩ := outN_bd u v b wd
      cases ho : outB u v b wd with
      | false =>
        rw [if_neg (by decide), show wrapL [] = [] from rfl]
        rw [ho] at KO
        generalize outN u v b wd = N at *
        generalize outM u v b wd = M at *
        clear ho hj3 hvb
        go_enter Tryz.func33, Tryz.ntmps33
        go_wp2_with (first | (go_at_call 15; (with_reducible refine (keepk (KS.out _ (HB.out.trans hk)) hk).mono ?_); rintro e w1 ⟨rfl, hk⟩; obtain ⟨y0, y1, y2, y3, y4, y5, y6, y7, y8, y9, y10, y11, y12, y13, y14, y15, y16, y17, y18, y19, y20, y21, y22, y23⟩ := HS.out _ hk) | (go_at_call 28; (first | (with_reducible refine (keepk (KU.out _) hk).mono ?_) | (with_reducible refine (keepk (KV.out _) hk).mono ?_) | (with_reducible refine (keepk (KB.out _) hk).mono ?_) | fail "V"); rintro e w1 ⟨rfl, hk⟩; obtain ⟨y0, y1, y2, y3, y4, y5, y6, y7, y8, y9, y10, y11, y12, y13, y14, y15, y16, y17, y18, y19, y20, y21, y22, y23⟩ := HS.out _ hk) | (go_at_call 49; (with_reducible refine (KD.out _).mono ?_); rintro e wd1 ⟨vd, rfl, hod, hkd⟩; obtain ⟨Ad, cd, rfl, hPd⟩ := Pts.of_own hod rfl hLok.out; have hfd := Lib.hid (own_nw (HB.out.trans hk).size hod); have hPd := Lib.hid hPd; have hsz := (((HB.out.trans hk).trans hkd).size); have hsz := Lib.hid hsz; have hkd := Lib.hid hkd; clear hod) | (go_at_call 54; (with_reducible refine (someF_any _ _ _ _ _ _ hPd.out hlen hfd.out hsz.out).mono ?_); rintro e wz ⟨Az, cz, rfl, hR, hkz⟩; have hR := Lib.hid hR; have hkz := Lib.hid hkz) | (go_at_call 55; (with_reducible refine (keepk (KO.out _) hk).mono ?_); rintro e w2 ⟨rfl, hk⟩; obtain ⟨y0, y1, y2, y3, y4, y5, y6, y7, y8, y9, y10, y11, y12, y13, y14, y15, y16, y17, y18, y19, y20, y21, y22, y23⟩ := HS.out _ hk; have hs2 : w.heap.size + 4 ≤ w2.heap.size := (by have h := hk.size; simp at h; omega)) | fail "ARM")
        go_ret
        exact RetU.nil ((HB.out.trans hk).trans (by (repeat (first | exact Keeps.refl _ | refine Keeps.alloc ?_ _))))
      | true =>
        rw [if_pos rfl]
        rw [ho] at KO
        generalize outN u v b wd = N at *
        generalize outM u v b wd = M at *
        have hok := corn_ok v N M wd jn ml hvb bN bM
        have bT := tipP_bd N M wd ml
        have KT := Lib.hid (fun w => ltip_any N M wd ml w)
        have Q1 := fun w => lplus_any v.1 v.2 N.1 N.2 w (by omega) (by omega) (by omega) (by omega) (by omega) (by omega) (by omega) (by omega)
        have Q2 := Lib.hid (fun w => lplus_any v.1 v.2 M.1 M.2 w (by omega) (by omega) (by omega) (by omega) (by omega) (by omega) (by omega) (by omega))
        have Q3 := Lib.hid (fun w => lplus_any v.1 v.2 (tipP N M wd ml).1 (tipP N M wd ml).2 w (by omega) (by omega) (by omega) (by omega) (by omega) (by omega) (by omega) (by omega))
        clear bT
        obtain ⟨i0, hi, hz0, hz1, hz2⟩ := info_parts pt_info
        have HI := Lib.hid (And.intro hi (And.intro hz0 (And.intro hz1 hz2)))
        clear hi hz0 hz1 hz2 ho hj3 hvb bN bM
        go_enter Tryz.func33, Tryz.ntmps33
        go_wp2_with (first | (go_at_call 15; (with_reducible refine (keepk (KS.out _ (HB.out.trans hk)) hk).mono ?_); rintro e w1 ⟨rfl, hk⟩; obtain ⟨y0, y1, y2, y3, y4, y5, y6, y7, y8, y9, y10, y11, y12, y13, y14, y15, y16, y17, y18, y19, y20, y21, y22, y23⟩ := HS.out _ hk) | (go_at_call 28; (first | (with_reducible refine (keepk (KU.out _) hk).mono ?_) | (with_reducible refine (keepk (KV.out _) hk).mono ?_) | (with_reducible refine (keepk (KB.out _) hk).mono ?_) | fail "V"); rintro e w1 ⟨rfl, hk⟩; obtain ⟨y0, y1, y2, y3, y4, y5, y6, y7, y8, y9, y10, y11, y12, y13, y14, y15, y16, y17, y18, y19, y20, y21, y22, y23⟩ := HS.out _ hk) | (go_at_call 49; (with_reducible refine (KD.out _).mono ?_); rintro e wd1 ⟨vd, rfl, hod, hkd⟩; obtain ⟨Ad, cd, rfl, hPd⟩ := Pts.of_own hod rfl hLok.out; have hfd := Lib.hid (own_nw (HB.out.trans hk).size hod); have hPd := Lib.hid hPd; have hsz := (((HB.out.trans hk).trans hkd).size); have hsz := Lib.hid hsz; have hkd := Lib.hid hkd; clear hod) | (go_at_call 54; (with_reducible refine (someF_any _ _ _ _ _ _ hPd.out hlen hfd.out hsz.out).mono ?_); rintro e wz ⟨Az, cz, rfl, hR, hkz⟩; have hR := Lib.hid hR; have hkz := Lib.hid hkz) | (go_at_call 55; (with_reducible refine (keepk (KO.out _) hk).mono ?_); rintro e w2 ⟨rfl, hk⟩; obtain ⟨y0, y1, y2, y3, y4, y5, y6, y7, y8, y9, y10, y11, y12, y13, y14, y15, y16, y17, y18, y19, y20, y21, y22, y23⟩ := HS.out _ hk; have hs2 : w.heap.size + 4 ≤ w2.heap.size := (by have h := hk.size; simp at h; omega)) | fail "ARM")
        have hlen : (orient (cornL v N M wd jn ml)).length ≤ 4611686018427387904 := by have h1 := orient_len (cornL v N M wd jn ml); have h2 := corn_len v N M wd jn ml; omega
        refine name_world (fun W hW => ?_)
        have hq2 : Keeps w2 W := by rw [hW]; exact ((Keeps.refl _).alloc _).alloc _
        have hF : W.cell? ⟨w.heap.size + 1, 0, none⟩ = some (.int .i64 v.1) ∧ W.cell? ⟨w.heap.size + 1, 1, none⟩ = some (.int .i64 v.2) ∧ W.cell? ⟨w.heap.size + 1 + 1 + 1, 0, none⟩ = some (.int .i64 wd) ∧ W.cell? ⟨w.heap.size + 1 + 1 + 1, 1, none⟩ = some (.int .i64 jn) ∧ W.cell? ⟨w.heap.size + 1 + 1 + 1, 3, none⟩ = some (.int .i64 ml) ∧ W.cell? ⟨w2.heap.size, 0, none⟩ = some (.int .i64 N.1) ∧ W.cell? ⟨w2.heap.size, 1, none⟩ = some (.int .i64 N.2) ∧ W.cell? ⟨w2.heap.size + 1, 0, none⟩ = some (.int .i64 M.1) ∧ W.cell? ⟨w2.heap.size + 1, 1, none⟩ = some (.int .i64 M.2) := by
          refine ⟨(hq2.cell (by dsimp only; omega)).trans (by assumption), (hq2.cell (by dsimp only; omega)).trans (by assumption), (hq2.cell (by dsimp only; omega)).trans (by assumption), (hq2.cell (by dsimp only; omega)).trans (by assumption), (hq2.cell (by dsimp only; omega)).trans (by assumption), ?_, ?_, ?_, ?_⟩ <;> (rw [hW]; go_simp)
        have hkw : Keeps w W := by rw [hW]; exact ((HB.out.trans hk).alloc _).alloc _
        have hsW : w2.heap.size + 1 < W.heap.size := by rw [hW]; simp
        clear hW hk hq2 y0 y1 y2 y3 y4 y5 y6 y7 y8 y9 y10 y11 y12 y13 y14 y15 y16 y17 y18 y19 y20 y21 y22 y23 HS HB KS KU KV KB KO
        have HC := Lib.hid (show ∀ w', Keeps W w' → w'.cell? ⟨w.heap.size + 1, 0, none⟩ = some (.int .i64 v.1) ∧ w'.cell? ⟨w.heap.size + 1, 1, none⟩ = some (.int .i64 v.2) ∧ w'.cell? ⟨w.heap.size + 1 + 1 + 1, 0, none⟩ = some (.int .i64 wd) ∧ w'.cell? ⟨w.heap.size + 1 + 1 + 1, 1, none⟩ = some (.int .i64 jn) ∧ w'.cell? ⟨w.heap.size + 1 + 1 + 1, 3, none⟩ = some (.int .i64 ml) ∧ w'.cell? ⟨w2.heap.size, 0, none⟩ = some (.int .i64 N.1) ∧ w'.cell? ⟨w2.heap.size, 1, none⟩ = some (.int .i64 N.2) ∧ w'.cell? ⟨w2.heap.size + 1, 0, none⟩ = some (.int .i64 M.1) ∧ w'.cell? ⟨w2.heap.size + 1, 1, none⟩ = some (.int .i64 M.2) from fun w' hq => by
          obtain ⟨c0, c1, c2, c3, c4, c5, c6, c7, c8⟩ := hF
          refine ⟨?_, ?_, ?_, ?_, ?_, ?_, ?_, ?_, ?_⟩ <;> (refine (hq.cell ?_).trans (by assumption); dsimp only; omega))
        have z0 : ∀ k : KW W, k.w.cell? ⟨w.heap.size + 1, 0, none⟩ = some (.int .i64 v.1) := fun k => (HC.out _ k.keeps).1
        have z1 : ∀ k : KW W, k.w.cell? ⟨w.heap.size + 1, 1, none⟩ = some (.int .i64 v.2) := fun k => (HC.out _ k.keeps).2.1
        have z2 : ∀ k : KW W, k.w.cell? ⟨w2.heap.size, 0, none⟩ = some (.int .i64 N.1) := fun k => (HC.out _ k.keeps).2.2.2.2.2.1
        have z3 : ∀ k : KW W, k.w.cell? ⟨w2.heap.size, 1, none⟩ = some (.int .i64 N.2) := fun k => (HC.out _ k.keeps).2.2.2.2.2.2.1
        have P1 := Lib.hid (fun k : KW W => keepq (Q1 k.w))
        clear hF Q1
        refine wp_region_kept_tail 4 (W) (by kernel_rfl) (by kernel_rfl) (Keeps.refl _) ?_
        simp only [List.take_succ_cons, List.take_zero, List.drop_succ_cons, List.drop_zero]
        repeat (first | go_big_quiet_skip | (go_big_quiet_want; go_big_quiet_op; first | go_big_quiet_on | go_big_quiet_call ((go_at_call 56; first | (with_reducible exact P1.out _)))))
        refine wpQuiet_nil ?_
        rintro w' ⟨k9, rfl⟩
        have hk := k9.keeps
        generalize k9.w = w9 at hk ⊢
        clear k9
        have hown := World.ownsRow_lit (base := W.heap.size) (e := 37) (size := 2) w9 #[.int .i64 v.1, .int .i64 v.2, .int .i64 (v.1 + N.1), .int .i64 (v.2 + N.2)] 2 hk.size (by unfold maxLen; omega) (by simp)
        have hown := Lib.hid (show (w9.alloc (.cells #[.int .i64 v.1, .int .i64 v.2, .int .i64 (v.1 + N.1), .int .i64 (v.2 + N.2)] 37)).ownsRow W.heap.size 37 2 (.slice (some ⟨w9.heap.size, 0, none⟩) 2 2) 2 (rowP [v, addP v N]) from hown)
        have hkW := hk.alloc (.cells #[.int .i64 v.1, .int .i64 v.2, .int .i64 (v.1 + N.1), .int .i64 (v.2 + N.2)] 37)
        clear hk z0 z1 z2 z3 P1
        obtain ⟨c0, c1, c2, c3, c4, c5, c6, c7, c8⟩ := HC.out _ hkW
        
        by_cases hj1 : jn = 1
        · have qj : (jn == 1) = true := by rw [beq_iff_eq]; exact hj1
          cases ht : tipB N M wd ml with
          | true =>
            have hcorn := Lib.hid (show cornL v N M wd jn ml = ([v, addP v N] ++ [addP v (tipP N M wd ml)]) ++ [addP v M] by unfold cornL; rw [if_pos ⟨hj1, ht⟩])
            rw [ht] at KT
            generalize tipP N M wd ml = T at *
            clear ht hj1
            go_upto_region 13 with (first | (go_at_call 57; (with_reducible refine (KT.out _).mono ?_); rintro e w10 ⟨rfl, hk10⟩; replace hkW := hkW.trans hk10; replace hown := Lib.hid (own_keep hown.out hk10); obtain ⟨c0, c1, c2, c3, c4, c5, c6, c7, c8⟩ := HC.out _ hkW) | fail "TIP")
            refine name_world (fun WB hWB => ?_)
            have hkB : Keeps w10 WB := by rw [hWB]; exact (Keeps.refl _).alloc _
            have hTc : WB.cell? ⟨w10.heap.size, 0, none⟩ = some (.int .i64 T.1) ∧ WB.cell? ⟨w10.heap.size, 1, none⟩ = some (.int .i64 T.2) := by rw [hWB]; refine ⟨?_, ?_⟩ <;> go_simp
            clear hWB
            replace hkW := hkW.trans hkB
            replace hown := Lib.hid (own_keep hown.out hkB)
            obtain ⟨c0, c1, c2, c3, c4, c5, c6, c7, c8⟩ := HC.out _ hkW
            obtain ⟨k0, k1⟩ := hTc
            go_upto_region 14 with (first | (go_at_call 56; (with_reducible refine (Q3.out _).mono ?_); rintro e wq ⟨rfl, hkq⟩; have hownq := own_keep hown.out hkq; have hkq2 := hkW.trans hkq; obtain ⟨hi, hz0, hz1, hz2⟩ := HI.out) | (at_builtin; refine wpList_append_own _ rfl _ _ 22 rfl W.heap.size 37 i0 (.agg #[.int .i64 0, .int .i64 0]) 2 16 Tryz.underlying22 hi hz0 hz1 hz2 rfl (by decide) _ _ _ rfl ((hownq).alloc _) ⟨wq.heap.size, 0, none⟩ 1 1 (ptV (addP v T)) rfl rfl (two_newA wq _ _ _ (by simp)) (oneCell_ptV _) (by unfold maxLen; omega) (by omega) (by have := (hkq2).size; simp at this ⊢; omega) ?_; intro v1 w1 hown1 hgrow1 hz9; clear hz9; have hk1 := below_own (hkq2) rfl (hownq) hgrow1; clear hgrow1; rw [← rowP_one, ← rowP_append] at hown1) | fail "APP")
            have hown := Lib.hid hown1
            have hkW : Keeps W w1 := hk1
            clear hown1 hownq hkq2 hk1 hi hz0 hz1 hz2 k0 k1
            obtain ⟨c0, c1, c2, c3, c4, c5, c6, c7, c8⟩ := HC.out _ hkW
            go_upto_region 15 with (first | (go_at_call 56; (with_reducible refine (Q2.out _).mono ?_); rintro e wp ⟨rfl, hkp⟩; have hownp := own_keep hown.out hkp; have hkp2 := hkW.trans hkp; obtain ⟨hi, hz0, hz1, hz2⟩ := HI.out) | (at_builtin; refine wpList_append_own _ rfl _ _ 22 rfl W.heap.size 37 i0 (.agg #[.int .i64 0, .int .i64 0]) 2 16 Tryz.underlying22 hi hz0 hz1 hz2 rfl (by decide) _ _ _ rfl ((hownp).alloc _) ⟨wp.heap.size, 0, none⟩ 1 1 (ptV (addP v M)) rfl rfl (two_newA wp _ _ _ (by simp)) (oneCell_ptV _) (by unfold maxLen; omega) (by omega) (by have := (hkp2).size; simp at this ⊢; omega) ?_; intro v1 w1 hown1 hgrow1 hz9; clear hz9; have hk1 := below_own (hkp2) rfl (hownp) hgrow1; clear hgrow1; rw [← rowP_one, ← rowP_append] at hown1) | fail "APP")
            obtain ⟨A1, c1, rfl, hP⟩ := Pts.of_own hown1 (by simp) (by rw [← hcorn.out]; exact hok)
            have hP := Lib.hid hP
            have hk1 := Lib.hid hk1
            clear hownp hkp2 hown hkW hi hz0 hz1 hz2
            rw [← hcorn.out] at hP
            go_wp2_with (first | (go_at_call 51; (with_reducible refine (orient_any _ 4 c1 _ _ hP.out (by omega)).mono ?_); rintro e wo ⟨vv, rfl, hownO, hkO⟩; obtain ⟨A2, c2, rfl, hP2⟩ := Pts.of_own hownO rfl (orient_ok _ hok); have hfr := Lib.hid (own_nw (hkw.trans hk1.out).size hownO); have hsz := Lib.hid (((hkw.trans hk1.out).trans hkO).size); have hP2 := Lib.hid hP2; have hkO := Lib.hid hkO; clear hownO) | (go_at_call 54; (with_reducible refine (someF_any _ _ _ _ _ _ hP2.out hlen hfr.out hsz.out).mono ?_); rintro e wz ⟨Az, cz, rfl, hR, hkz⟩; have hR := Lib.hid hR; have hkz := Lib.hid hkz) | fail "ARM")
            go_ret
            exact ⟨_, _, rfl, hR.out, (hkw.trans hk1.out).trans (hkO.out.trans hkz.out)⟩
          | false =>
            have hcorn := Lib.hid (show cornL v N M wd jn ml = [v, addP v N] ++ [addP v M] by unfold cornL; rw [if_neg (by rw [ht]; simp), List.append_nil])
            rw [ht] at KT
            generalize tipP N M wd ml = T at *
            clear ht hj1
            go_upto_region 14 with (first | (go_at_call 57; (with_reducible refine (KT.out _).mono ?_); rintro e w10 ⟨rfl, hk10⟩; replace hkW := hkW.trans hk10; replace hown := Lib.hid (own_keep hown.out hk10); obtain ⟨c0, c1, c2, c3, c4, c5, c6, c7, c8⟩ := HC.out _ hkW) | fail "TIP")
            refine name_world (fun WB hWB => ?_)
            have hkB : Keeps w10 WB := by rw [hWB]; exact (Keeps.refl _).alloc _
            clear hWB
            replace hkW := hkW.trans hkB
            replace hown := Lib.hid (own_keep hown.out hkB)
            obtain ⟨c0, c1, c2, c3, c4, c5, c6, c7, c8⟩ := HC.out _ hkW
            go_upto_region 15 with (first | (go_at_call 56; (with_reducible refine (Q2.out _).mono ?_); rintro e wp ⟨rfl, hkp⟩; have hownp := own_keep hown.out hkp; have hkp2 := hkW.trans hkp; obtain ⟨hi, hz0, hz1, hz2⟩ := HI.out) | (at_builtin; refine wpList_append_own _ rfl _ _ 22 rfl W.heap.size 37 i0 (.agg #[.int .i64 0, .int .i64 0]) 2 16 Tryz.underlying22 hi hz0 hz1 hz2 rfl (by decide) _ _ _ rfl ((hownp).alloc _) ⟨wp.heap.size, 0, none⟩ 1 1 (ptV (addP v M)) rfl rfl (two_newA wp _ _ _ (by simp)) (oneCell_ptV _) (by unfold maxLen; omega) (by omega) (by have := (hkp2).size; simp at this ⊢; omega) ?_; intro v1 w1 hown1 hgrow1 hz9; clear hz9; have hk1 := below_own (hkp2) rfl (hownp) hgrow1; clear hgrow1; rw [← rowP_one, ← rowP_append] at hown1) | fail "APP")
            obtain ⟨A1, c1, rfl, hP⟩ := Pts.of_own hown1 (by simp) (by rw [← hcorn.out]; exact hok)
            have hP := Lib.hid hP
            have hk1 := Lib.hid hk1
            clear hownp hkp2 hown hkW hi hz0 hz1 hz2
            rw [← hcorn.out] at hP
            go_wp2_with (first | (go_at_call 51; (with_reducible refine (orient_any _ 3 c1 _ _ hP.out (by omega)).mono ?_); rintro e wo ⟨vv, rfl, hownO, hkO⟩; obtain ⟨A2, c2, rfl, hP2⟩ := Pts.of_own hownO rfl (orient_ok _ hok); have hfr := Lib.hid (own_nw (hkw.trans hk1.out).size hownO); have hsz := Lib.hid (((hkw.trans hk1.out).trans hkO).size); have hP2 := Lib.hid hP2; have hkO := Lib.hid hkO; clear hownO) | (go_at_call 54; (with_reducible refine (someF_any _ _ _ _ _ _ hP2.out hlen hfr.out hsz.out).mono ?_); rintro e wz ⟨Az, cz, rfl, hR, hkz⟩; have hR := Lib.hid hR; have hkz := Lib.hid hkz) | fail "ARM")
            go_ret
            exact ⟨_, _, rfl, hR.out, (hkw.trans hk1.out).trans (hkO.out.trans hkz.out)⟩
        · have qj : (jn == 1) = false := by rw [beq_eq_false_iff_ne]; exact hj1
          have hcorn := Lib.hid (show cornL v N M wd jn ml = [v, addP v N] ++ [addP v M] by unfold cornL; rw [if_neg (fun h => hj1 h.1), List.append_nil])
          clear hj1
          go_upto_region 14 with fail
          go_upto_region 15 with (first | (go_at_call 56; (with_reducible refine (Q2.out _).mono ?_); rintro e wp ⟨rfl, hkp⟩; have hownp := own_keep hown.out hkp; have hkp2 := hkW.trans hkp; obtain ⟨hi, hz0, hz1, hz2⟩ := HI.out) | (at_builtin; refine wpList_append_own _ rfl _ _ 22 rfl W.heap.size 37 i0 (.agg #[.int .i64 0, .int .i64 0]) 2 16 Tryz.underlying22 hi hz0 hz1 hz2 rfl (by decide) _ _ _ rfl ((hownp).alloc _) ⟨wp.heap.size, 0, none⟩ 1 1 (ptV (addP v M)) rfl rfl (two_newA wp _ _ _ (by simp)) (oneCell_ptV _) (by unfold maxLen; omega) (by omega) (by have := (hkp2).size; simp at this ⊢; omega) ?_; intro v1 w1 hown1 hgrow1 hz9; clear hz9; have hk1 := below_own (hkp2) rfl (hownp) hgrow1; clear hgrow1; rw [← rowP_one, ← rowP_append] at hown1) | fail "APP")
          obtain ⟨A1, c1, rfl, hP⟩ := Pts.of_own hown1 (by simp) (by rw [← hcorn.out]; exact hok)
          have hP := Lib.hid hP
          have hk1 := Lib.hid hk1
          clear hownp hkp2 hown hkW hi hz0 hz1 hz2
          rw [← hcorn.out] at hP
          go_wp2_with (first | (go_at_call 51; (with_reducible refine (orient_any _ 3 c1 _ _ hP.out (by omega)).mono ?_); rintro e wo ⟨vv, rfl, hownO, hkO⟩; obtain ⟨A2, c2, rfl, hP2⟩ := Pts.of_own hownO rfl (orient_ok _ hok); have hfr := Lib.hid (own_nw (hkw.trans hk1.out).size hownO); have hsz := Lib.hid (((hkw.trans hk1.out).trans hkO).size); have hP2 := Lib.hid hP2; have hkO := Lib.hid hkO; clear hownO) | (go_at_call 54; (with_reducible refine (someF_any _ _ _ _ _ _ hP2.out hlen hfr.out hsz.out).mono ?_); rintro e wz ⟨Az, cz, rfl, hR, hkz⟩; have hR := Lib.hid hR; have hkz := Lib.hid hkz) | fail "ARM")
          go_ret
          exact ⟨_, _, rfl, hR.out, (hkw.trans hk1.out).trans (hkO.out.trans hkz.out)⟩
theorem ljoin_any (u v b : Pt) (wd jn cp ml ph : Int) (A : Option Addr) (n c : Nat) (D : List Int) (w : World) (h : Ins w A n c D) :
    Calls Tryz.prog 33 #[.agg #[.int .i64 u.1, .int .i64 u.2], .agg #[.int .i64 v.1, .int .i64 v.2], .agg #[.int .i64 b.1, .int .i64 b.2], .agg #[.int .i64 wd, .int .i64 jn, .int .i64 cp, .int .i64 ml, .slice A n c, .int .i64 ph]] w (RetJ w (joinL u v b wd jn cp ml ph D)) :=
  (ljoinF_any u v b wd jn cp ml ph A n c D w h).mono fun _ _ h => h.retJ
end Go.Proofs.YtdodgnpjlicnoaaGreat
