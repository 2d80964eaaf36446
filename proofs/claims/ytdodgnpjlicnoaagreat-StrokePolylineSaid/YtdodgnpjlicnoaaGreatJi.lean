/- Contract of reference 23's Join. -/
import Derived.Test.YtdodgnpjlicnoaaGreatJh
import Derived.Test.YtdodgnpjlicnoaaGreatJd
namespace Go.Proofs.YtdodgnpjlicnoaaGreat
open Go.RowKit
attribute [local go_sem ↓] Go.wp_at_zero Go.wp_at_succ
set_option linter.unusedVariables false
set_option linter.unusedSimpArgs false
theorem ofs_sm2 (x y v : Int) (hx : -2097152 ≤ x ∧ x ≤ 2097152) (hy : -2097152 ≤ y ∧ y ≤ 2097152) (h2 : 1 ≤ v) (h3 : v ≤ 16384) :
    (-16384 ≤ (ofs (x, y) v).1 ∧ (ofs (x, y) v).1 ≤ 16384) ∧ (-16384 ≤ (ofs (x, y) v).2 ∧ (ofs (x, y) v).2 ≤ 16384) := by
  by_cases hz : x = 0 ∧ y = 0
  · rw [hz.1, hz.2, ofs_00]; exact ⟨⟨by decide, by decide⟩, ⟨by decide, by decide⟩⟩
  have hok : ofsOk (x, y) v = true := by
    unfold ofsOk wideB
    simp only [Bool.and_eq_true, inB_iff]
    omega
  obtain ⟨a, b, u, u2, t, t2, m, s, ea, eb, a0, b0, a1, b1, eu, eu2, et, et2, u0, u1, t0, t1, em, es, s1, hO, _⟩ := ofs_ar x y v hok
  rw [hO.out]
  obtain ⟨p1, p2⟩ := isq_spec m (by omega)
  rw [es] at p1 p2
  have hab : 1 ≤ a + b := by
    have ha : x ≠ 0 → 1 ≤ a := fun h => by
      have : a ≠ 0 := fun e => by rw [e] at ea; have := Int.mul_eq_zero.1 ea; omega
      omega
    have hb : y ≠ 0 → 1 ≤ b := fun h => by
      have : b ≠ 0 := fun e => by rw [e] at eb; have := Int.mul_eq_zero.1 eb; omega
      omega
    by_cases h : x = 0
    · have := hb (fun e => hz ⟨h, e⟩); omega
    · have := ha h; omega
  have hs : 256 ≤ s := by
    rcases Nat.lt_or_ge s 256 with h | h
    · have := Nat.mul_le_mul (show s + 1 ≤ 256 by omega) (show s + 1 ≤ 256 by omega)
      omega
    · exact h
  obtain ⟨L, hL⟩ : ∃ L : Int, L = s := ⟨_, rfl⟩
  have hLh : 65536 * (a + b) ≤ L * L + 2 * L := by
    have q : ((m : Nat) : Int) < ((s : Int) + 1) * ((s : Int) + 1) := by exact_mod_cast p2
    have q2 : ((s : Int) + 1) * ((s : Int) + 1) = (s : Int) * s + 2 * s + 1 := by grind
    rw [hL, em]; omega
  have d1 := dvr_off2 u2 (s : Int) (by omega) (by omega)
  have d2 := dvr_off2 t2 (s : Int) (by omega) (by omega)
  rw [← hL] at d1 d2 ⊢
  generalize hnx : dvr u2 L = nx at *
  generalize hny : dvr t2 L = ny at *
  have f1 : L * nx + 128 * v * y = nx * L - u2 := by rw [← eu2, ← eu]; grind
  have f2 : L * ny - 128 * v * x = ny * L - t2 := by rw [← et2, ← et]; grind
  have s1' := half_sqv (nx * L - u2) L (by omega) (by omega) (by omega)
  have s2' := half_sqv (ny * L - t2) L (by omega) (by omega) (by omega)
  have hi := off_high x y v L nx ny (by omega) (by omega) (by rw [ea, eb]; exact hLh) (by rw [f1]; exact s1') (by rw [f2]; exact s2') (v + v / 255 + 3) (by omega)
  have bnd : ∀ z : Int, z * z ≤ 268435456 → -16384 ≤ z ∧ z ≤ 16384 := by
    intro z h
    apply Classical.byContradiction
    intro hc
    have := Nat.mul_le_mul (show 16385 ≤ z.natAbs by omega) (show 16385 ≤ z.natAbs by omega)
    rw [← Int.natAbs_mul] at this
    have := sqn z
    omega
  have hT : (v + v / 255 + 3) * (v + v / 255 + 3) ≤ 16451 * 16451 := Int.mul_le_mul (by omega) (by omega) (by omega) (by omega)
  have n1 := sqn nx
  have n2 := sqn ny
  exact ⟨bnd nx (by omega), bnd ny (by omega)⟩
theorem hc_sm (x : Int) (h : -16384 ≤ x ∧ x ≤ 16384) : hc x = x := by
  exact hc_id (by omega)
theorem outN_sm (u v b : Pt) (wd : Int) (hu : vP u = true) (hv : vP v = true) (hb : vP b = true) (hw : wideB wd = true) : ((-16384 ≤ (outN u v b wd).1 ∧ (outN u v b wd).1 ≤ 16384) ∧ (-16384 ≤ (outN u v b wd).2 ∧ (outN u v b wd).2 ≤ 16384)) ∧ ((-16384 ≤ (outM u v b wd).1 ∧ (outM u v b wd).1 ≤ 16384) ∧ (-16384 ≤ (outM u v b wd).2 ∧ (outM u v b wd).2 ≤ 16384)) := by
  have a1 := (vP_bd hu).2.2
  have a2 := (vP_bd hv).2.2
  have a3 := (vP_bd hb).2.2
  have a4 := (inB_iff _ _ _).1 hw
  have h1 := ofs_sm2 (v.1 - u.1) (v.2 - u.2) wd (by omega) (by omega) (by omega) (by omega)
  have h2 := ofs_sm2 (b.1 - v.1) (b.2 - v.2) wd (by omega) (by omega) (by omega) (by omega)
  unfold outN outM negP subP
  cases outB u v b wd with
  | false => simp only [if_neg (show ¬ (false = true) by decide)]; exact ⟨⟨⟨by decide, by decide⟩, ⟨by decide, by decide⟩⟩, ⟨⟨by decide, by decide⟩, ⟨by decide, by decide⟩⟩⟩
  | true =>
    simp only [if_true]
    split <;> ((try dsimp only); omega)
theorem st_wide {wd jn cp ml ph : Int} {D : List Int} (h : stB wd jn cp ml ph D = true) : wideB wd = true := by
  unfold stB at h
  simp only [Bool.and_eq_true] at h
  exact h.1.1.1.1.1.1.1
theorem RwsB.lone {B : Nat} {w : World} {A : Option Addr} {n c : Nat} {L : List Pt} (h : Pts w A n c L) (hn : n ≤ 4611686018427387904) (hf : ∀ a, A = some a → B ≤ a.block) (hB : B ≤ w.heap.size) (t : TypeId) : RwsB B (w.alloc (.cells #[.slice A n c] t)) (some ⟨w.heap.size, 0, none⟩) 1 1 [L] :=
  ⟨rfl, Nat.le_refl _, by unfold maxLen; omega, fun _ => ⟨_, _, rfl, hB, by simp, fun k hk => by
    obtain rfl : k = 0 := by omega
    exact ⟨A, n, c, by simp, h.keep ((Keeps.refl _).alloc _), hn, hf⟩⟩⟩
set_option maxRecDepth 100000 in
set_option maxHeartbeats 8000000 in
theorem rjoinF_any (u v b : Pt) (wd jn cp ml ph : Int) (A : Option Addr) (n c : Nat) (D : List Int) (w : World) (h : Ins w A n c D) :
    Calls Tryz.prog 60 #[.agg #[.int .i64 u.1, .int .i64 u.2], .agg #[.int .i64 v.1, .int .i64 v.2], .agg #[.int .i64 b.1, .int .i64 b.2], .agg #[.int .i64 wd, .int .i64 jn, .int .i64 cp, .int .i64 ml, .slice A n c, .int .i64 ph]] w (RetF w (joinL u v b wd jn cp ml ph D)) := by
  have g1 := ptGuard
  have g2 := ptEql
  have KS := Lib.hid (fun w' (hk : Keeps w w') => rstyle_any wd jn cp ml ph A n c D w' (h.keep hk))
  have KU := Lib.hid (fun w => rvalid_any u.1 u.2 w)
  have KV := Lib.hid (fun w => rvalid_any v.1 v.2 w)
  have KB := Lib.hid (fun w => rvalid_any b.1 b.2 w)
  rw [show validB u.1 u.2 = vP u from rfl] at KU
  rw [show validB v.1 v.2 = vP v from rfl] at KV
  rw [show validB b.1 b.2 = vP b from rfl] at KB
  have HS := Lib.hid (show ∀ w', Keeps ((((w.alloc (.cells #[.int .i64 u.1, .int .i64 u.2] 37)).alloc (.cells #[.int .i64 v.1, .int .i64 v.2] 37)).alloc (.cells #[.int .i64 b.1, .int .i64 b.2] 37)).alloc (.cells #[.int .i64 wd, .int .i64 jn, .int .i64 cp, .int .i64 ml, .slice A n c, .int .i64 ph] 27)) w' → w'.cell? ⟨w.heap.size, 0, none⟩ = some (.int .i64 u.1) ∧ w'.frozen? ⟨w.heap.size, 0, none⟩ = false ∧ w'.cell? ⟨w.heap.size, 1, none⟩ = some (.int .i64 u.2) ∧ w'.frozen? ⟨w.heap.size, 1, none⟩ = false ∧ w'.cell? ⟨w.heap.size + 1, 0, none⟩ = some (.int .i64 v.1) ∧ w'.frozen? ⟨w.heap.size + 1, 0, none⟩ = false ∧ w'.cell? ⟨w.heap.size + 1, 1, none⟩ = some (.int .i64 v.2) ∧ w'.frozen? ⟨w.heap.size + 1, 1, none⟩ = false ∧ w'.cell? ⟨w.heap.size + 1 + 1, 0, none⟩ = some (.int .i64 b.1) ∧ w'.frozen? ⟨w.heap.size + 1 + 1, 0, none⟩ = false ∧ w'.cell? ⟨w.heap.size + 1 + 1, 1, none⟩ = some (.int .i64 b.2) ∧ w'.frozen? ⟨w.heap.size + 1 + 1, 1, none⟩ = false ∧ w'.cell? ⟨w.heap.size + 1 + 1 + 1, 0, none⟩ = some (.int .i64 wd) ∧ w'.frozen? ⟨w.heap.size + 1 + 1 + 1, 0, none⟩ = false ∧ w'.cell? ⟨w.heap.size + 1 + 1 + 1, 1, none⟩ = some (.int .i64 jn) ∧ w'.frozen? ⟨w.heap.size + 1 + 1 + 1, 1, none⟩ = false ∧ w'.cell? ⟨w.heap.size + 1 + 1 + 1, 2, none⟩ = some (.int .i64 cp) ∧ w'.frozen? ⟨w.heap.size + 1 + 1 + 1, 2, none⟩ = false ∧ w'.cell? ⟨w.heap.size + 1 + 1 + 1, 3, none⟩ = some (.int .i64 ml) ∧ w'.frozen? ⟨w.heap.size + 1 + 1 + 1, 3, none⟩ = false ∧ w'.cell? ⟨w.heap.size + 1 + 1 + 1, 4, none⟩ = some (.slice A n c) ∧ w'.frozen? ⟨w.heap.size + 1 + 1 + 1, 4, none⟩ = false ∧ w'.cell? ⟨w.heap.size + 1 + 1 + 1, 5, none⟩ = some (.int .i64 ph) ∧ w'.frozen? ⟨w.heap.size + 1 + 1 + 1, 5, none⟩ = false from fun w' hk => ⟨(hk.cell (p := ⟨w.heap.size, 0, none⟩) (by first | (simp; done) | (simp; omega))).trans (by simp [go_sem]), (hk.frozen (p := ⟨w.heap.size, 0, none⟩) (by first | (simp; done) | (simp; omega))).trans (by simp [go_sem]), (hk.cell (p := ⟨w.heap.size, 1, none⟩) (by first | (simp; done) | (simp; omega))).trans (by simp [go_sem]), (hk.frozen (p := ⟨w.heap.size, 1, none⟩) (by first | (simp; done) | (simp; omega))).trans (by simp [go_sem]), (hk.cell (p := ⟨w.heap.size + 1, 0, none⟩) (by first | (simp; done) | (simp; omega))).trans (by simp [go_sem]), (hk.frozen (p := ⟨w.heap.size + 1, 0, none⟩) (by first | (simp; done) | (simp; omega))).trans (by simp [go_sem]), (hk.cell (p := ⟨w.heap.size + 1, 1, none⟩) (by first | (simp; done) | (simp; omega))).trans (by simp [go_sem]), (hk.frozen (p := ⟨w.heap.size + 1, 1, none⟩) (by first | (simp; done) | (simp; omega))).trans (by simp [go_sem]), (hk.cell (p := ⟨w.heap.size + 1 + 1, 0, none⟩) (by first | (simp; done) | (simp; omega))).trans (by simp [go_sem]), (hk.frozen (p := ⟨w.heap.size + 1 + 1, 0, none⟩) (by first | (simp; done) | (simp; omega))).trans (by simp [go_sem]), (hk.cell (p := ⟨w.heap.size + 1 + 1, 1, none⟩) (by first | (simp; done) | (simp; omega))).trans (by simp [go_sem]), (hk.frozen (p := ⟨w.heap.size + 1 + 1, 1, none⟩) (by first | (simp; done) | (simp; omega))).trans (by simp [go_sem]), (hk.cell (p := ⟨w.heap.size + 1 + 1 + 1, 0, none⟩) (by first | (simp; done) | (simp; omega))).trans (by simp [go_sem]), (hk.frozen (p := ⟨w.heap.size + 1 + 1 + 1, 0, none⟩) (by first | (simp; done) | (simp; omega))).trans (by simp [go_sem]), (hk.cell (p := ⟨w.heap.size + 1 + 1 + 1, 1, none⟩) (by first | (simp; done) | (simp; omega))).trans (by simp [go_sem]), (hk.frozen (p := ⟨w.heap.size + 1 + 1 + 1, 1, none⟩) (by first | (simp; done) | (simp; omega))).trans (by simp [go_sem]), (hk.cell (p := ⟨w.heap.size + 1 + 1 + 1, 2, none⟩) (by first | (simp; done) | (simp; omega))).trans (by simp [go_sem]), (hk.frozen (p := ⟨w.heap.size + 1 + 1 + 1, 2, none⟩) (by first | (simp; done) | (simp; omega))).trans (by simp [go_sem]), (hk.cell (p := ⟨w.heap.size + 1 + 1 + 1, 3, none⟩) (by first | (simp; done) | (simp; omega))).trans (by simp [go_sem]), (hk.frozen (p := ⟨w.heap.size + 1 + 1 + 1, 3, none⟩) (by first | (simp; done) | (simp; omega))).trans (by simp [go_sem]), (hk.cell (p := ⟨w.heap.size + 1 + 1 + 1, 4, none⟩) (by first | (simp; done) | (simp; omega))).trans (by simp [go_sem]), (hk.frozen (p := ⟨w.heap.size + 1 + 1 + 1, 4, none⟩) (by first | (simp; done) | (simp; omega))).trans (by simp [go_sem]), (hk.cell (p := ⟨w.heap.size + 1 + 1 + 1, 5, none⟩) (by first | (simp; done) | (simp; omega))).trans (by simp [go_sem]), (hk.frozen (p := ⟨w.heap.size + 1 + 1 + 1, 5, none⟩) (by first | (simp; done) | (simp; omega))).trans (by simp [go_sem])⟩)
  have HB := Lib.hid (show Keeps w ((((w.alloc (.cells #[.int .i64 u.1, .int .i64 u.2] 37)).alloc (.cells #[.int .i64 v.1, .int .i64 v.2] 37)).alloc (.cells #[.int .i64 b.1, .int .i64 b.2] 37)).alloc (.cells #[.int .i64 wd, .int .i64 jn, .int .i64 cp, .int .i64 ml, .slice A n c, .int .i64 ph] 27)) from (by (repeat (first | (with_reducible exact Keeps.refl _) | (with_reducible assumption) | (with_reducible refine Keeps.drewN ?_ _) | (with_reducible refine Keeps.drew ?_) | (with_reducible refine Keeps.alloc ?_ _) | (with_reducible refine Keeps.setNew ?_ ?_ _))) <;> (dsimp only; omega)))
  have hk0 := Keeps.refl ((((w.alloc (.cells #[.int .i64 u.1, .int .i64 u.2] 37)).alloc (.cells #[.int .i64 v.1, .int .i64 v.2] 37)).alloc (.cells #[.int .i64 b.1, .int .i64 b.2] 37)).alloc (.cells #[.int .i64 wd, .int .i64 jn, .int .i64 cp, .int .i64 ml, .slice A n c, .int .i64 ph] 27))
  have hk := hk0
  clear hk0 h
  unfold joinL joinR
  cases hb : badJ u v b wd jn cp ml ph D with
  | true =>
    rw [if_pos rfl, show wrapL [] = [] from rfl]
    rcases bad_yes hb with h1 | ⟨h1, h2⟩ | ⟨h1, h2, h3⟩ | ⟨h1, h2, h3, h4⟩ | ⟨h1, h2, h3, h4, h5⟩ | ⟨h1, h2, h3, h4, h5, h6⟩
    · rw [h1] at KS
      clear hb h1
      go_enter Tryz.func60, Tryz.ntmps60
      go_wp2_with (first | (go_at_call 19; (with_reducible refine (keepk (KS.out _ (HB.out.trans hk)) hk).mono ?_); rintro e w1 ⟨rfl, hk⟩; obtain ⟨y0, y1, y2, y3, y4, y5, y6, y7, y8, y9, y10, y11, y12, y13, y14, y15, y16, y17, y18, y19, y20, y21, y22, y23⟩ := HS.out _ hk) | (go_at_call 40; (first | (with_reducible refine (keepk (KU.out _) hk).mono ?_) | (with_reducible refine (keepk (KV.out _) hk).mono ?_) | (with_reducible refine (keepk (KB.out _) hk).mono ?_) | fail "V"); rintro e w1 ⟨rfl, hk⟩; obtain ⟨y0, y1, y2, y3, y4, y5, y6, y7, y8, y9, y10, y11, y12, y13, y14, y15, y16, y17, y18, y19, y20, y21, y22, y23⟩ := HS.out _ hk) | (go_at_call 62; (with_reducible refine (KD.out _).mono ?_); rintro e wd1 ⟨vd, rfl, hod, hkd⟩; obtain ⟨Ad, cd, rfl, hPd⟩ := Pts.of_own hod rfl hokd.out; have hfd := Lib.hid (fun a ha => Nat.le_trans (Keeps.size (HB.out.trans hk)) (own_blocks hod a ha).1); have hPd := Lib.hid hPd; have hkd := Lib.hid hkd; clear hod) | (go_at_call 79; (with_reducible refine (keepk (KO.out _) hk).mono ?_); rintro e w2 ⟨rfl, hk⟩; obtain ⟨y0, y1, y2, y3, y4, y5, y6, y7, y8, y9, y10, y11, y12, y13, y14, y15, y16, y17, y18, y19, y20, y21, y22, y23⟩ := HS.out _ hk; have hs2 : w.heap.size + 4 ≤ w2.heap.size := (by have h := hk.size; simp at h; omega); have hs3 : w.heap.size + 1 + 1 + 1 < w2.heap.size := (by omega); have hs4 : w.heap.size + 1 + 1 + 1 < w2.heap.size + 1 := (by omega)) | (go_at_call 80; (with_reducible refine (KT.out _).mono ?_); rintro e w10 ⟨rfl, hk10⟩) | fail "ARM")
      go_ret
      exact RetF.nil (HB.out.trans hk)
    · rw [h1] at KS
      rw [h2] at KU
      clear hb h1 h2
      go_enter Tryz.func60, Tryz.ntmps60
      go_wp2_with (first | (go_at_call 19; (with_reducible refine (keepk (KS.out _ (HB.out.trans hk)) hk).mono ?_); rintro e w1 ⟨rfl, hk⟩; obtain ⟨y0, y1, y2, y3, y4, y5, y6, y7, y8, y9, y10, y11, y12, y13, y14, y15, y16, y17, y18, y19, y20, y21, y22, y23⟩ := HS.out _ hk) | (go_at_call 40; (first | (with_reducible refine (keepk (KU.out _) hk).mono ?_) | (with_reducible refine (keepk (KV.out _) hk).mono ?_) | (with_reducible refine (keepk (KB.out _) hk).mono ?_) | fail "V"); rintro e w1 ⟨rfl, hk⟩; obtain ⟨y0, y1, y2, y3, y4, y5, y6, y7, y8, y9, y10, y11, y12, y13, y14, y15, y16, y17, y18, y19, y20, y21, y22, y23⟩ := HS.out _ hk) | (go_at_call 62; (with_reducible refine (KD.out _).mono ?_); rintro e wd1 ⟨vd, rfl, hod, hkd⟩; obtain ⟨Ad, cd, rfl, hPd⟩ := Pts.of_own hod rfl hokd.out; have hfd := Lib.hid (fun a ha => Nat.le_trans (Keeps.size (HB.out.trans hk)) (own_blocks hod a ha).1); have hPd := Lib.hid hPd; have hkd := Lib.hid hkd; clear hod) | (go_at_call 79; (with_reducible refine (keepk (KO.out _) hk).mono ?_); rintro e w2 ⟨rfl, hk⟩; obtain ⟨y0, y1, y2, y3, y4, y5, y6, y7, y8, y9, y10, y11, y12, y13, y14, y15, y16, y17, y18, y19, y20, y21, y22, y23⟩ := HS.out _ hk; have hs2 : w.heap.size + 4 ≤ w2.heap.size := (by have h := hk.size; simp at h; omega); have hs3 : w.heap.size + 1 + 1 + 1 < w2.heap.size := (by omega); have hs4 : w.heap.size + 1 + 1 + 1 < w2.heap.size + 1 := (by omega)) | (go_at_call 80; (with_reducible refine (KT.out _).mono ?_); rintro e w10 ⟨rfl, hk10⟩) | fail "ARM")
      go_ret
      exact RetF.nil (HB.out.trans hk)
    · rw [h1] at KS
      rw [h2] at KU
      rw [h3] at KV
      clear hb h1 h2 h3
      go_enter Tryz.func60, Tryz.ntmps60
      go_wp2_with (first | (go_at_call 19; (with_reducible refine (keepk (KS.out _ (HB.out.trans hk)) hk).mono ?_); rintro e w1 ⟨rfl, hk⟩; obtain ⟨y0, y1, y2, y3, y4, y5, y6, y7, y8, y9, y10, y11, y12, y13, y14, y15, y16, y17, y18, y19, y20, y21, y22, y23⟩ := HS.out _ hk) | (go_at_call 40; (first | (with_reducible refine (keepk (KU.out _) hk).mono ?_) | (with_reducible refine (keepk (KV.out _) hk).mono ?_) | (with_reducible refine (keepk (KB.out _) hk).mono ?_) | fail "V"); rintro e w1 ⟨rfl, hk⟩; obtain ⟨y0, y1, y2, y3, y4, y5, y6, y7, y8, y9, y10, y11, y12, y13, y14, y15, y16, y17, y18, y19, y20, y21, y22, y23⟩ := HS.out _ hk) | (go_at_call 62; (with_reducible refine (KD.out _).mono ?_); rintro e wd1 ⟨vd, rfl, hod, hkd⟩; obtain ⟨Ad, cd, rfl, hPd⟩ := Pts.of_own hod rfl hokd.out; have hfd := Lib.hid (fun a ha => Nat.le_trans (Keeps.size (HB.out.trans hk)) (own_blocks hod a ha).1); have hPd := Lib.hid hPd; have hkd := Lib.hid hkd; clear hod) | (go_at_call 79; (with_reducible refine (keepk (KO.out _) hk).mono ?_); rintro e w2 ⟨rfl, hk⟩; obtain ⟨y0, y1, y2, y3, y4, y5, y6, y7, y8, y9, y10, y11, y12, y13, y14, y15, y16, y17, y18, y19, y20, y21, y22, y23⟩ := HS.out _ hk; have hs2 : w.heap.size + 4 ≤ w2.heap.size := (by have h := hk.size; simp at h; omega); have hs3 : w.heap.size + 1 + 1 + 1 < w2.heap.size := (by omega); have hs4 : w.heap.size + 1 + 1 + 1 < w2.heap.size + 1 := (by omega)) | (go_at_call 80; (with_reducible refine (KT.out _).mono ?_); rintro e w10 ⟨rfl, hk10⟩) | fail "ARM")
      go_ret
      exact RetF.nil (HB.out.trans hk)
    · rw [h1] at KS
      rw [h2] at KU
      rw [h3] at KV
      rw [h4] at KB
      clear hb h1 h2 h3 h4
      go_enter Tryz.func60, Tryz.ntmps60
      go_wp2_with (first | (go_at_call 19; (with_reducible refine (keepk (KS.out _ (HB.out.trans hk)) hk).mono ?_); rintro e w1 ⟨rfl, hk⟩; obtain ⟨y0, y1, y2, y3, y4, y5, y6, y7, y8, y9, y10, y11, y12, y13, y14, y15, y16, y17, y18, y19, y20, y21, y22, y23⟩ := HS.out _ hk) | (go_at_call 40; (first | (with_reducible refine (keepk (KU.out _) hk).mono ?_) | (with_reducible refine (keepk (KV.out _) hk).mono ?_) | (with_reducible refine (keepk (KB.out _) hk).mono ?_) | fail "V"); rintro e w1 ⟨rfl, hk⟩; obtain ⟨y0, y1, y2, y3, y4, y5, y6, y7, y8, y9, y10, y11, y12, y13, y14, y15, y16, y17, y18, y19, y20, y21, y22, y23⟩ := HS.out _ hk) | (go_at_call 62; (with_reducible refine (KD.out _).mono ?_); rintro e wd1 ⟨vd, rfl, hod, hkd⟩; obtain ⟨Ad, cd, rfl, hPd⟩ := Pts.of_own hod rfl hokd.out; have hfd := Lib.hid (fun a ha => Nat.le_trans (Keeps.size (HB.out.trans hk)) (own_blocks hod a ha).1); have hPd := Lib.hid hPd; have hkd := Lib.hid hkd; clear hod) | (go_at_call 79; (with_reducible refine (keepk (KO.out _) hk).mono ?_); rintro e w2 ⟨rfl, hk⟩; obtain ⟨y0, y1, y2, y3, y4, y5, y6, y7, y8, y9, y10, y11, y12, y13, y14, y15, y16, y17, y18, y19, y20, y21, y22, y23⟩ := HS.out _ hk; have hs2 : w.heap.size + 4 ≤ w2.heap.size := (by have h := hk.size; simp at h; omega); have hs3 : w.heap.size + 1 + 1 + 1 < w2.heap.size := (by omega); have hs4 : w.heap.size + 1 + 1 + 1 < w2.heap.size + 1 := (by omega)) | (go_at_call 80; (with_reducible refine (KT.out _).mono ?_); rintro e w10 ⟨rfl, hk10⟩) | fail "ARM")
      go_ret
      exact RetF.nil (HB.out.trans hk)
    · rw [h1] at KS
      rw [h2] at KU
      rw [h3] at KV
      rw [h4] at KB
      clear hb h1 h2 h3 h4
      go_enter Tryz.func60, Tryz.ntmps60
      go_wp2_with (first | (go_at_call 19; (with_reducible refine (keepk (KS.out _ (HB.out.trans hk)) hk).mono ?_); rintro e w1 ⟨rfl, hk⟩; obtain ⟨y0, y1, y2, y3, y4, y5, y6, y7, y8, y9, y10, y11, y12, y13, y14, y15, y16, y17, y18, y19, y20, y21, y22, y23⟩ := HS.out _ hk) | (go_at_call 40; (first | (with_reducible refine (keepk (KU.out _) hk).mono ?_) | (with_reducible refine (keepk (KV.out _) hk).mono ?_) | (with_reducible refine (keepk (KB.out _) hk).mono ?_) | fail "V"); rintro e w1 ⟨rfl, hk⟩; obtain ⟨y0, y1, y2, y3, y4, y5, y6, y7, y8, y9, y10, y11, y12, y13, y14, y15, y16, y17, y18, y19, y20, y21, y22, y23⟩ := HS.out _ hk) | (go_at_call 62; (with_reducible refine (KD.out _).mono ?_); rintro e wd1 ⟨vd, rfl, hod, hkd⟩; obtain ⟨Ad, cd, rfl, hPd⟩ := Pts.of_own hod rfl hokd.out; have hfd := Lib.hid (fun a ha => Nat.le_trans (Keeps.size (HB.out.trans hk)) (own_blocks hod a ha).1); have hPd := Lib.hid hPd; have hkd := Lib.hid hkd; clear hod) | (go_at_call 79; (with_reducible refine (keepk (KO.out _) hk).mono ?_); rintro e w2 ⟨rfl, hk⟩; obtain ⟨y0, y1, y2, y3, y4, y5, y6, y7, y8, y9, y10, y11, y12, y13, y14, y15, y16, y17, y18, y19, y20, y21, y22, y23⟩ := HS.out _ hk; have hs2 : w.heap.size + 4 ≤ w2.heap.size := (by have h := hk.size; simp at h; omega); have hs3 : w.heap.size + 1 + 1 + 1 < w2.heap.size := (by omega); have hs4 : w.heap.size + 1 + 1 + 1 < w2.heap.size + 1 := (by omega)) | (go_at_call 80; (with_reducible refine (KT.out _).mono ?_); rintro e w10 ⟨rfl, hk10⟩) | fail "ARM")
      go_ret
      exact RetF.nil (HB.out.trans hk)
    · rw [h1] at KS
      rw [h2] at KU
      rw [h3] at KV
      rw [h4] at KB
      clear hb h1 h2 h3 h4
      go_enter Tryz.func60, Tryz.ntmps60
      go_wp2_with (first | (go_at_call 19; (with_reducible refine (keepk (KS.out _ (HB.out.trans hk)) hk).mono ?_); rintro e w1 ⟨rfl, hk⟩; obtain ⟨y0, y1, y2, y3, y4, y5, y6, y7, y8, y9, y10, y11, y12, y13, y14, y15, y16, y17, y18, y19, y20, y21, y22, y23⟩ := HS.out _ hk) | (go_at_call 40; (first | (with_reducible refine (keepk (KU.out _) hk).mono ?_) | (with_reducible refine (keepk (KV.out _) hk).mono ?_) | (with_reducible refine (keepk (KB.out _) hk).mono ?_) | fail "V"); rintro e w1 ⟨rfl, hk⟩; obtain ⟨y0, y1, y2, y3, y4, y5, y6, y7, y8, y9, y10, y11, y12, y13, y14, y15, y16, y17, y18, y19, y20, y21, y22, y23⟩ := HS.out _ hk) | (go_at_call 62; (with_reducible refine (KD.out _).mono ?_); rintro e wd1 ⟨vd, rfl, hod, hkd⟩; obtain ⟨Ad, cd, rfl, hPd⟩ := Pts.of_own hod rfl hokd.out; have hfd := Lib.hid (fun a ha => Nat.le_trans (Keeps.size (HB.out.trans hk)) (own_blocks hod a ha).1); have hPd := Lib.hid hPd; have hkd := Lib.hid hkd; clear hod) | (go_at_call 79; (with_reducible refine (keepk (KO.out _) hk).mono ?_); rintro e w2 ⟨rfl, hk⟩; obtain ⟨y0, y1, y2, y3, y4, y5, y6, y7, y8, y9, y10, y11, y12, y13, y14, y15, y16, y17, y18, y19, y20, y21, y22, y23⟩ := HS.out _ hk; have hs2 : w.heap.size + 4 ≤ w2.heap.size := (by have h := hk.size; simp at h; omega); have hs3 : w.heap.size + 1 + 1 + 1 < w2.heap.size := (by omega); have hs4 : w.heap.size + 1 + 1 + 1 < w2.heap.size + 1 := (by omega)) | (go_at_call 80; (with_reducible refine (KT.out _).mono ?_); rintro e w10 ⟨rfl, hk10⟩) | fail "ARM")
      go_ret
      exact RetF.nil (HB.out.trans hk)
  | false =>
    rw [if_neg (by decide)]
    obtain ⟨h1, h2, h3, h4, h5, h6⟩ := bad_no hb
    have hvb := (vP_bd h3).2.2
    have hcv1 := (vP_bd h3).1
    have hcv2 := (vP_bd h3).2.1
    obtain ⟨sN, sM⟩ := outN_sm u v b wd h2 h3 h4 (st_wide h1)
    rw [h1] at KS
    rw [h2] at KU
    rw [h3] at KV
    rw [h4] at KB
    clear hb h1 h2 h3 h4
    by_cases hj3 : jn = 3
    · rw [if_pos hj3]
      have q3 : (jn == 3) = true := by rw [beq_iff_eq]; exact hj3
      have KD := Lib.hid (fun w' => rdisc_any v wd w')
      have hokd := Lib.hid (discL_ok v wd)
      have hlen : (discL v wd).length ≤ 4611686018427387904 := by have := discL_len v wd; omega
      unfold OwnP at KD
      generalize discL v wd = L at *
      clear hj3 hvb hcv1 hcv2 sN sM
      go_enter Tryz.func60, Tryz.ntmps60
      go_upto_region 14 with (first | (go_at_call 19; (with_reducible refine (keepk (KS.out _ (HB.out.trans hk)) hk).mono ?_); rintro e w1 ⟨rfl, hk⟩; obtain ⟨y0, y1, y2, y3, y4, y5, y6, y7, y8, y9, y10, y11, y12, y13, y14, y15, y16, y17, y18, y19, y20, y21, y22, y23⟩ := HS.out _ hk) | (go_at_call 40; (first | (with_reducible refine (keepk (KU.out _) hk).mono ?_) | (with_reducible refine (keepk (KV.out _) hk).mono ?_) | (with_reducible refine (keepk (KB.out _) hk).mono ?_) | fail "V"); rintro e w1 ⟨rfl, hk⟩; obtain ⟨y0, y1, y2, y3, y4, y5, y6, y7, y8, y9, y10, y11, y12, y13, y14, y15, y16, y17, y18, y19, y20, y21, y22, y23⟩ := HS.out _ hk) | (go_at_call 62; (with_reducible refine (KD.out _).mono ?_); rintro e wd1 ⟨vd, rfl, hod, hkd⟩; obtain ⟨Ad, cd, rfl, hPd⟩ := Pts.of_own hod rfl hokd.out; have hfd := Lib.hid (fun a ha => Nat.le_trans (Keeps.size (HB.out.trans hk)) (own_blocks hod a ha).1); have hPd := Lib.hid hPd; have hkd := Lib.hid hkd; clear hod) | (go_at_call 79; (with_reducible refine (keepk (KO.out _) hk).mono ?_); rintro e w2 ⟨rfl, hk⟩; obtain ⟨y0, y1, y2, y3, y4, y5, y6, y7, y8, y9, y10, y11, y12, y13, y14, y15, y16, y17, y18, y19, y20, y21, y22, y23⟩ := HS.out _ hk; have hs2 : w.heap.size + 4 ≤ w2.heap.size := (by have h := hk.size; simp at h; omega); have hs3 : w.heap.size + 1 + 1 + 1 < w2.heap.size := (by omega); have hs4 : w.heap.size + 1 + 1 + 1 < w2.heap.size + 1 := (by omega)) | (go_at_call 80; (with_reducible refine (KT.out _).mono ?_); rintro e w10 ⟨rfl, hk10⟩) | fail "ARM")
      by_cases hz : L.length = 0
      · have q14 : ((L.length : Int) == 0) = true := by rw [beq_iff_eq]; omega
        go_wp2_with fail
        go_ret
        rw [show wrapL L = [] by unfold wrapL; rw [if_pos hz]]
        exact RetF.nil ((HB.out.trans hk).trans hkd.out)
      · have q14 : ((L.length : Int) == 0) = false := by rw [beq_eq_false_iff_ne]; omega
        have HR := Lib.hid (RwsB.lone hPd.out hlen hfd.out (Keeps.size ((HB.out.trans hk).trans hkd.out)) 22)
        go_wp2_with fail
        go_ret
        rw [show wrapL L = [L] by unfold wrapL; rw [if_neg hz]]
        exact ⟨_, _, rfl, HR.out, ((HB.out.trans hk).trans hkd.out).alloc _⟩
    · rw [if_neg hj3]
      have q3 : (jn == 3) = false := by rw [beq_eq_false_iff_ne]; exact hj3
      have KO := Lib.hid (fun w => rout_any u v b wd w)
      obtain ⟨bN, bM⟩ := outN_bd u v b wd
      cases ho : outB u v b wd with
      | false =>
        rw [if_neg (by decide), show wrapL [] = [] from rfl]
        rw [ho] at KO
        generalize outN u v b wd = N at *
        generalize outM u v b wd = M at *
        clear ho hj3 hvb
        go_enter Tryz.func60, Tryz.ntmps60
        go_wp2_with (first | (go_at_call 19; (with_reducible refine (keepk (KS.out _ (HB.out.trans hk)) hk).mono ?_); rintro e w1 ⟨rfl, hk⟩; obtain ⟨y0, y1, y2, y3, y4, y5, y6, y7, y8, y9, y10, y11, y12, y13, y14, y15, y16, y17, y18, y19, y20, y21, y22, y23⟩ := HS.out _ hk) | (go_at_call 40; (first | (with_reducible refine (keepk (KU.out _) hk).mono ?_) | (with_reducible refine (keepk (KV.out _) hk).mono ?_) | (with_reducible refine (keepk (KB.out _) hk).mono ?_) | fail "V"); rintro e w1 ⟨rfl, hk⟩; obtain ⟨y0, y1, y2, y3, y4, y5, y6, y7, y8, y9, y10, y11, y12, y13, y14, y15, y16, y17, y18, y19, y20, y21, y22, y23⟩ := HS.out _ hk) | (go_at_call 62; (with_reducible refine (KD.out _).mono ?_); rintro e wd1 ⟨vd, rfl, hod, hkd⟩; obtain ⟨Ad, cd, rfl, hPd⟩ := Pts.of_own hod rfl hokd.out; have hfd := Lib.hid (fun a ha => Nat.le_trans (Keeps.size (HB.out.trans hk)) (own_blocks hod a ha).1); have hPd := Lib.hid hPd; have hkd := Lib.hid hkd; clear hod) | (go_at_call 79; (with_reducible refine (keepk (KO.out _) hk).mono ?_); rintro e w2 ⟨rfl, hk⟩; obtain ⟨y0, y1, y2, y3, y4, y5, y6, y7, y8, y9, y10, y11, y12, y13, y14, y15, y16, y17, y18, y19, y20, y21, y22, y23⟩ := HS.out _ hk; have hs2 : w.heap.size + 4 ≤ w2.heap.size := (by have h := hk.size; simp at h; omega); have hs3 : w.heap.size + 1 + 1 + 1 < w2.heap.size := (by omega); have hs4 : w.heap.size + 1 + 1 + 1 < w2.heap.size + 1 := (by omega)) | (go_at_call 80; (with_reducible refine (KT.out _).mono ?_); rintro e w10 ⟨rfl, hk10⟩) | fail "ARM")
        go_ret
        exact RetF.nil ((HB.out.trans hk).trans (by (repeat (first | exact Keeps.refl _ | refine Keeps.alloc ?_ _))))
      | true =>
        rw [if_pos rfl]
        rw [ho] at KO
        generalize outN u v b wd = N at *
        generalize outM u v b wd = M at *
        have hok := corn_ok v N M wd jn ml hvb bN bM
        have bT := tipP_bd N M wd ml
        have KT := Lib.hid (fun w => rtip_any N M wd ml w)
        have Q1 := fun w => radd_any v.1 v.2 N.1 N.2 w
        have Q2 := fun w => radd_any v.1 v.2 M.1 M.2 w
        rw [hcv1, hcv2, hc_sm _ sN.1, hc_sm _ sN.2] at Q1
        rw [hcv1, hcv2, hc_sm _ sM.1, hc_sm _ sM.2] at Q2
        have Q2 := Lib.hid Q2
        have wt1 : IntKind.i64.wrap (v.1 + (tipP N M wd ml).1) = v.1 + (tipP N M wd ml).1 := i64_in _ (by omega)
        have wt2 : IntKind.i64.wrap (v.2 + (tipP N M wd ml).2) = v.2 + (tipP N M wd ml).2 := i64_in _ (by omega)
        clear bT sN sM hcv1 hcv2
        obtain ⟨i0, hi, hz0, hz1, hz2⟩ := info_parts pt_info
        have HI := Lib.hid (And.intro hi (And.intro hz0 (And.intro hz1 hz2)))
        clear hi hz0 hz1 hz2 ho hj3 hvb bN bM
        have hlen : (orient (cornL v N M wd jn ml)).length ≤ 4611686018427387904 := by have h1 := orient_len (cornL v N M wd jn ml); have h2 := corn_len v N M wd jn ml; omega
        by_cases hj1 : jn = 1
        · have qj : (jn == 1) = true := by rw [beq_iff_eq]; exact hj1
          cases ht : tipB N M wd ml with
          | true =>
            have hcorn := Lib.hid (show cornL v N M wd jn ml = ([v, addP v N] ++ [addP v (tipP N M wd ml)]) ++ [addP v M] by unfold cornL; rw [if_pos ⟨hj1, ht⟩])
            rw [ht] at KT
            generalize tipP N M wd ml = T at *
            clear ht hj1
            go_enter Tryz.func60, Tryz.ntmps60
            go_wp2_with (first | (go_at_call 19; (with_reducible refine (keepk (KS.out _ (HB.out.trans hk)) hk).mono ?_); rintro e w1 ⟨rfl, hk⟩; obtain ⟨y0, y1, y2, y3, y4, y5, y6, y7, y8, y9, y10, y11, y12, y13, y14, y15, y16, y17, y18, y19, y20, y21, y22, y23⟩ := HS.out _ hk) | (go_at_call 40; (first | (with_reducible refine (keepk (KU.out _) hk).mono ?_) | (with_reducible refine (keepk (KV.out _) hk).mono ?_) | (with_reducible refine (keepk (KB.out _) hk).mono ?_) | fail "V"); rintro e w1 ⟨rfl, hk⟩; obtain ⟨y0, y1, y2, y3, y4, y5, y6, y7, y8, y9, y10, y11, y12, y13, y14, y15, y16, y17, y18, y19, y20, y21, y22, y23⟩ := HS.out _ hk) | (go_at_call 62; (with_reducible refine (KD.out _).mono ?_); rintro e wd1 ⟨vd, rfl, hod, hkd⟩; obtain ⟨Ad, cd, rfl, hPd⟩ := Pts.of_own hod rfl hokd.out; have hfd := Lib.hid (fun a ha => Nat.le_trans (Keeps.size (HB.out.trans hk)) (own_blocks hod a ha).1); have hPd := Lib.hid hPd; have hkd := Lib.hid hkd; clear hod) | (go_at_call 79; (with_reducible refine (keepk (KO.out _) hk).mono ?_); rintro e w2 ⟨rfl, hk⟩; obtain ⟨y0, y1, y2, y3, y4, y5, y6, y7, y8, y9, y10, y11, y12, y13, y14, y15, y16, y17, y18, y19, y20, y21, y22, y23⟩ := HS.out _ hk; have hs2 : w.heap.size + 4 ≤ w2.heap.size := (by have h := hk.size; simp at h; omega); have hs3 : w.heap.size + 1 + 1 + 1 < w2.heap.size := (by omega); have hs4 : w.heap.size + 1 + 1 + 1 < w2.heap.size + 1 := (by omega)) | (go_at_call 80; (with_reducible refine (KT.out _).mono ?_); rintro e w10 ⟨rfl, hk10⟩) | fail "ARM")
            refine name_world (fun W hW => ?_)
            have hqa : Keeps w2 w10 := (((Keeps.refl _).alloc _).alloc _).trans hk10
            have hqW : Keeps w10 W := by rw [hW]; exact (Keeps.refl _).alloc _
            have hqs : w2.heap.size + 1 < w10.heap.size := by have h := hk10.size; simp at h; omega
            have hF : W.cell? ⟨w.heap.size + 1, 0, none⟩ = some (.int .i64 v.1) ∧ W.cell? ⟨w.heap.size + 1, 1, none⟩ = some (.int .i64 v.2) ∧ W.cell? ⟨w.heap.size + 1 + 1 + 1, 1, none⟩ = some (.int .i64 jn) ∧ W.cell? ⟨w2.heap.size, 0, none⟩ = some (.int .i64 N.1) ∧ W.cell? ⟨w2.heap.size, 1, none⟩ = some (.int .i64 N.2) ∧ W.cell? ⟨w2.heap.size + 1, 0, none⟩ = some (.int .i64 M.1) ∧ W.cell? ⟨w2.heap.size + 1, 1, none⟩ = some (.int .i64 M.2) ∧ W.cell? ⟨w10.heap.size, 0, none⟩ = some (.int .i64 T.1) ∧ W.cell? ⟨w10.heap.size, 1, none⟩ = some (.int .i64 T.2) := by
              refine ⟨((hqa.trans hqW).cell (by dsimp only; omega)).trans (by assumption), ((hqa.trans hqW).cell (by dsimp only; omega)).trans (by assumption), ((hqa.trans hqW).cell (by dsimp only; omega)).trans (by assumption), ((hk10.trans hqW).cell (by first | (simp; done) | (simp; omega))).trans ?_, ((hk10.trans hqW).cell (by first | (simp; done) | (simp; omega))).trans ?_, ((hk10.trans hqW).cell (by first | (simp; done) | (simp; omega))).trans ?_, ((hk10.trans hqW).cell (by first | (simp; done) | (simp; omega))).trans ?_, ?_, ?_⟩ <;> (try rw [hW]) <;> go_simp
            have hkw : Keeps w W := (((HB.out.trans hk).trans hqa).trans hqW)
            have hsW : w10.heap.size < W.heap.size := by rw [hW]; simp
            clear hW hk hk10 hqa hqW y0 y1 y2 y3 y4 y5 y6 y7 y8 y9 y10 y11 y12 y13 y14 y15 y16 y17 y18 y19 y20 y21 y22 y23 HS HB KS KU KV KB KO
            have HC := Lib.hid (show ∀ w', Keeps W w' → w'.cell? ⟨w.heap.size + 1, 0, none⟩ = some (.int .i64 v.1) ∧ w'.cell? ⟨w.heap.size + 1, 1, none⟩ = some (.int .i64 v.2) ∧ w'.cell? ⟨w.heap.size + 1 + 1 + 1, 1, none⟩ = some (.int .i64 jn) ∧ w'.cell? ⟨w2.heap.size, 0, none⟩ = some (.int .i64 N.1) ∧ w'.cell? ⟨w2.heap.size, 1, none⟩ = some (.int .i64 N.2) ∧ w'.cell? ⟨w2.heap.size + 1, 0, none⟩ = some (.int .i64 M.1) ∧ w'.cell? ⟨w2.heap.size + 1, 1, none⟩ = some (.int .i64 M.2) ∧ w'.cell? ⟨w10.heap.size, 0, none⟩ = some (.int .i64 T.1) ∧ w'.cell? ⟨w10.heap.size, 1, none⟩ = some (.int .i64 T.2) from fun w' hq => by
              obtain ⟨c0, c1, c2, c3, c4, c5, c6, c7, c8⟩ := hF
              refine ⟨?_, ?_, ?_, ?_, ?_, ?_, ?_, ?_, ?_⟩ <;> (refine (hq.cell ?_).trans (by assumption); dsimp only; omega))
            have z0 : ∀ k : KW W, k.w.cell? ⟨w.heap.size + 1, 0, none⟩ = some (.int .i64 v.1) := fun k => (HC.out _ k.keeps).1
            have z1 : ∀ k : KW W, k.w.cell? ⟨w.heap.size + 1, 1, none⟩ = some (.int .i64 v.2) := fun k => (HC.out _ k.keeps).2.1
            have z2 : ∀ k : KW W, k.w.cell? ⟨w2.heap.size, 0, none⟩ = some (.int .i64 N.1) := fun k => (HC.out _ k.keeps).2.2.2.1
            have z3 : ∀ k : KW W, k.w.cell? ⟨w2.heap.size, 1, none⟩ = some (.int .i64 N.2) := fun k => (HC.out _ k.keeps).2.2.2.2.1
            have P1 := Lib.hid (fun k : KW W => keepq (Q1 k.w))
            clear hF Q1
            refine wp_region_kept_tail 4 (W) (by kernel_rfl) (by kernel_rfl) (Keeps.refl _) ?_
            simp only [List.take_succ_cons, List.take_zero, List.drop_succ_cons, List.drop_zero]
            repeat (first | go_big_quiet_skip | (go_big_quiet_want; go_big_quiet_op; first | go_big_quiet_on | go_big_quiet_call ((go_at_call 81; first | (with_reducible exact P1.out _)))))
            refine wpQuiet_nil ?_
            rintro w' ⟨k9, rfl⟩
            have hk := k9.keeps
            generalize k9.w = w9 at hk ⊢
            clear k9
            go_upto_region 11 with fail
            refine name_world (fun WC hWC => ?_)
            have hown := World.ownsRow_lit (base := W.heap.size) (e := 37) (size := 2) w9 #[.int .i64 v.1, .int .i64 v.2, .int .i64 (v.1 + N.1), .int .i64 (v.2 + N.2)] 2 hk.size (by unfold maxLen; omega) (by simp)
            have hown := Lib.hid (show WC.ownsRow W.heap.size 37 2 (.slice (some ⟨w9.heap.size, 0, none⟩) 2 2) 2 (rowP [v, addP v N]) from by rw [hWC]; exact hown)
            have hkW : Keeps W WC := by rw [hWC]; exact hk.alloc _
            clear hk z0 z1 z2 z3 P1 hWC
            obtain ⟨c0, c1, c2, c3, c4, c5, c6, c7, c8⟩ := HC.out _ hkW
            obtain ⟨hi, hz0, hz1, hz2⟩ := HI.out
            go_upto_region 13 with (first | (at_builtin; refine wpList_append_own _ rfl _ _ 22 rfl W.heap.size 37 i0 (.agg #[.int .i64 0, .int .i64 0]) 2 16 Tryz.underlying22 hi hz0 hz1 hz2 rfl (by decide) _ _ _ rfl ((hown.out).alloc _) ⟨WC.heap.size, 0, none⟩ 1 1 (ptV (addP v T)) rfl rfl (two_newA WC _ _ _ (by simp)) (oneCell_ptV _) (by unfold maxLen; omega) (by omega) (by have := (hkW).size; simp at this ⊢; omega) ?_; intro v1 w1 hown1 hgrow1 hz9; clear hz9; have hk1 := below_own (hkW) rfl (hown.out) hgrow1; clear hgrow1; rw [← rowP_one, ← rowP_append] at hown1) | fail "APP")
            have hown := Lib.hid hown1
            have hkW : Keeps W w1 := hk1
            clear hown1 hk1 hi hz0 hz1 hz2
            obtain ⟨c0, c1, c2, c3, c4, c5, c6, c7, c8⟩ := HC.out _ hkW
            go_upto_region 14 with (first | (go_at_call 81; (with_reducible refine (Q2.out _).mono ?_); rintro e wp ⟨rfl, hkp⟩; have hownp := own_keep hown.out hkp; have hkp2 := hkW.trans hkp; obtain ⟨hi, hz0, hz1, hz2⟩ := HI.out) | ((at_builtin; refine wpList_append_own _ rfl _ _ 22 rfl W.heap.size 37 i0 (.agg #[.int .i64 0, .int .i64 0]) 2 16 Tryz.underlying22 hi hz0 hz1 hz2 rfl (by decide) _ _ _ rfl ((hownp).alloc _) ⟨wp.heap.size, 0, none⟩ 1 1 (ptV (addP v M)) rfl rfl (two_newA wp _ _ _ (by simp)) (oneCell_ptV _) (by unfold maxLen; omega) (by omega) (by have := (hkp2).size; simp at this ⊢; omega) ?_; intro v1 w1 hown1 hgrow1 hz9; clear hz9; have hk1 := below_own (hkp2) rfl (hownp) hgrow1; clear hgrow1; rw [← rowP_one, ← rowP_append] at hown1); obtain ⟨A1, c1, rfl, hP⟩ := Pts.of_own hown1 (by simp) (by rw [← hcorn.out]; exact hok); rw [← hcorn.out] at hP; have hP := Lib.hid hP) | (go_at_call 77; (with_reducible refine (rorient_any _ 4 c1 _ _ hP.out (by omega)).mono ?_); rintro e wo ⟨vv, rfl, hownO, hkO⟩; obtain ⟨A2, c2, rfl, hP2⟩ := Pts.of_own hownO rfl (orient_ok _ hok); have hfo := Lib.hid (fun a ha => Nat.le_trans (Keeps.size (hkw.trans hk1)) (own_blocks hownO a ha).1); have hP2 := Lib.hid hP2; have hkO := Lib.hid hkO; clear hownO) | fail "APP")
            have hkf : Keeps w wo := (hkw.trans hk1).trans hkO.out
            have hkf := Lib.hid hkf
            clear hownp hkp2 hown hkW hi hz0 hz1 hz2 hk1 hown1 hcorn hok
            generalize orient (cornL v N M wd jn ml) = L at *
            by_cases hz : L.length = 0
            · have q14 : ((L.length : Int) == 0) = true := by rw [beq_iff_eq]; omega
              go_wp2_with fail
              go_ret
              rw [show wrapL L = [] by unfold wrapL; rw [if_pos hz]]
              exact RetF.nil (hkf.out)
            · have q14 : ((L.length : Int) == 0) = false := by rw [beq_eq_false_iff_ne]; omega
              have HR := Lib.hid (RwsB.lone hP2.out hlen hfo.out (Keeps.size hkf.out) 22)
              go_wp2_with fail
              go_ret
              rw [show wrapL L = [L] by unfold wrapL; rw [if_neg hz]]
              exact ⟨_, _, rfl, HR.out, (hkf.out).alloc _⟩
          | false =>
            have hcorn := Lib.hid (show cornL v N M wd jn ml = [v, addP v N] ++ [addP v M] by unfold cornL; rw [if_neg (by rw [ht]; simp), List.append_nil])
            rw [ht] at KT
            generalize tipP N M wd ml = T at *
            clear ht hj1
            go_enter Tryz.func60, Tryz.ntmps60
            go_wp2_with (first | (go_at_call 19; (with_reducible refine (keepk (KS.out _ (HB.out.trans hk)) hk).mono ?_); rintro e w1 ⟨rfl, hk⟩; obtain ⟨y0, y1, y2, y3, y4, y5, y6, y7, y8, y9, y10, y11, y12, y13, y14, y15, y16, y17, y18, y19, y20, y21, y22, y23⟩ := HS.out _ hk) | (go_at_call 40; (first | (with_reducible refine (keepk (KU.out _) hk).mono ?_) | (with_reducible refine (keepk (KV.out _) hk).mono ?_) | (with_reducible refine (keepk (KB.out _) hk).mono ?_) | fail "V"); rintro e w1 ⟨rfl, hk⟩; obtain ⟨y0, y1, y2, y3, y4, y5, y6, y7, y8, y9, y10, y11, y12, y13, y14, y15, y16, y17, y18, y19, y20, y21, y22, y23⟩ := HS.out _ hk) | (go_at_call 62; (with_reducible refine (KD.out _).mono ?_); rintro e wd1 ⟨vd, rfl, hod, hkd⟩; obtain ⟨Ad, cd, rfl, hPd⟩ := Pts.of_own hod rfl hokd.out; have hfd := Lib.hid (fun a ha => Nat.le_trans (Keeps.size (HB.out.trans hk)) (own_blocks hod a ha).1); have hPd := Lib.hid hPd; have hkd := Lib.hid hkd; clear hod) | (go_at_call 79; (with_reducible refine (keepk (KO.out _) hk).mono ?_); rintro e w2 ⟨rfl, hk⟩; obtain ⟨y0, y1, y2, y3, y4, y5, y6, y7, y8, y9, y10, y11, y12, y13, y14, y15, y16, y17, y18, y19, y20, y21, y22, y23⟩ := HS.out _ hk; have hs2 : w.heap.size + 4 ≤ w2.heap.size := (by have h := hk.size; simp at h; omega); have hs3 : w.heap.size + 1 + 1 + 1 < w2.heap.size := (by omega); have hs4 : w.heap.size + 1 + 1 + 1 < w2.heap.size + 1 := (by omega)) | (go_at_call 80; (with_reducible refine (KT.out _).mono ?_); rintro e w10 ⟨rfl, hk10⟩) | fail "ARM")
            refine name_world (fun W hW => ?_)
            have hqa : Keeps w2 w10 := (((Keeps.refl _).alloc _).alloc _).trans hk10
            have hqW : Keeps w10 W := by rw [hW]; exact (Keeps.refl _).alloc _
            have hqs : w2.heap.size + 1 < w10.heap.size := by have h := hk10.size; simp at h; omega
            have hF : W.cell? ⟨w.heap.size + 1, 0, none⟩ = some (.int .i64 v.1) ∧ W.cell? ⟨w.heap.size + 1, 1, none⟩ = some (.int .i64 v.2) ∧ W.cell? ⟨w.heap.size + 1 + 1 + 1, 1, none⟩ = some (.int .i64 jn) ∧ W.cell? ⟨w2.heap.size, 0, none⟩ = some (.int .i64 N.1) ∧ W.cell? ⟨w2.heap.size, 1, none⟩ = some (.int .i64 N.2) ∧ W.cell? ⟨w2.heap.size + 1, 0, none⟩ = some (.int .i64 M.1) ∧ W.cell? ⟨w2.heap.size + 1, 1, none⟩ = some (.int .i64 M.2) ∧ W.cell? ⟨w10.heap.size, 0, none⟩ = some (.int .i64 T.1) ∧ W.cell? ⟨w10.heap.size, 1, none⟩ = some (.int .i64 T.2) := by
              refine ⟨((hqa.trans hqW).cell (by dsimp only; omega)).trans (by assumption), ((hqa.trans hqW).cell (by dsimp only; omega)).trans (by assumption), ((hqa.trans hqW).cell (by dsimp only; omega)).trans (by assumption), ((hk10.trans hqW).cell (by first | (simp; done) | (simp; omega))).trans ?_, ((hk10.trans hqW).cell (by first | (simp; done) | (simp; omega))).trans ?_, ((hk10.trans hqW).cell (by first | (simp; done) | (simp; omega))).trans ?_, ((hk10.trans hqW).cell (by first | (simp; done) | (simp; omega))).trans ?_, ?_, ?_⟩ <;> (try rw [hW]) <;> go_simp
            have hkw : Keeps w W := (((HB.out.trans hk).trans hqa).trans hqW)
            have hsW : w10.heap.size < W.heap.size := by rw [hW]; simp
            clear hW hk hk10 hqa hqW y0 y1 y2 y3 y4 y5 y6 y7 y8 y9 y10 y11 y12 y13 y14 y15 y16 y17 y18 y19 y20 y21 y22 y23 HS HB KS KU KV KB KO
            have HC := Lib.hid (show ∀ w', Keeps W w' → w'.cell? ⟨w.heap.size + 1, 0, none⟩ = some (.int .i64 v.1) ∧ w'.cell? ⟨w.heap.size + 1, 1, none⟩ = some (.int .i64 v.2) ∧ w'.cell? ⟨w.heap.size + 1 + 1 + 1, 1, none⟩ = some (.int .i64 jn) ∧ w'.cell? ⟨w2.heap.size, 0, none⟩ = some (.int .i64 N.1) ∧ w'.cell? ⟨w2.heap.size, 1, none⟩ = some (.int .i64 N.2) ∧ w'.cell? ⟨w2.heap.size + 1, 0, none⟩ = some (.int .i64 M.1) ∧ w'.cell? ⟨w2.heap.size + 1, 1, none⟩ = some (.int .i64 M.2) ∧ w'.cell? ⟨w10.heap.size, 0, none⟩ = some (.int .i64 T.1) ∧ w'.cell? ⟨w10.heap.size, 1, none⟩ = some (.int .i64 T.2) from fun w' hq => by
              obtain ⟨c0, c1, c2, c3, c4, c5, c6, c7, c8⟩ := hF
              refine ⟨?_, ?_, ?_, ?_, ?_, ?_, ?_, ?_, ?_⟩ <;> (refine (hq.cell ?_).trans (by assumption); dsimp only; omega))
            have z0 : ∀ k : KW W, k.w.cell? ⟨w.heap.size + 1, 0, none⟩ = some (.int .i64 v.1) := fun k => (HC.out _ k.keeps).1
            have z1 : ∀ k : KW W, k.w.cell? ⟨w.heap.size + 1, 1, none⟩ = some (.int .i64 v.2) := fun k => (HC.out _ k.keeps).2.1
            have z2 : ∀ k : KW W, k.w.cell? ⟨w2.heap.size, 0, none⟩ = some (.int .i64 N.1) := fun k => (HC.out _ k.keeps).2.2.2.1
            have z3 : ∀ k : KW W, k.w.cell? ⟨w2.heap.size, 1, none⟩ = some (.int .i64 N.2) := fun k => (HC.out _ k.keeps).2.2.2.2.1
            have P1 := Lib.hid (fun k : KW W => keepq (Q1 k.w))
            clear hF Q1
            refine wp_region_kept_tail 4 (W) (by kernel_rfl) (by kernel_rfl) (Keeps.refl _) ?_
            simp only [List.take_succ_cons, List.take_zero, List.drop_succ_cons, List.drop_zero]
            repeat (first | go_big_quiet_skip | (go_big_quiet_want; go_big_quiet_op; first | go_big_quiet_on | go_big_quiet_call ((go_at_call 81; first | (with_reducible exact P1.out _)))))
            refine wpQuiet_nil ?_
            rintro w' ⟨k9, rfl⟩
            have hk := k9.keeps
            generalize k9.w = w9 at hk ⊢
            clear k9
            go_upto_region 11 with fail
            refine name_world (fun WC hWC => ?_)
            have hown := World.ownsRow_lit (base := W.heap.size) (e := 37) (size := 2) w9 #[.int .i64 v.1, .int .i64 v.2, .int .i64 (v.1 + N.1), .int .i64 (v.2 + N.2)] 2 hk.size (by unfold maxLen; omega) (by simp)
            have hown := Lib.hid (show WC.ownsRow W.heap.size 37 2 (.slice (some ⟨w9.heap.size, 0, none⟩) 2 2) 2 (rowP [v, addP v N]) from by rw [hWC]; exact hown)
            have hkW : Keeps W WC := by rw [hWC]; exact hk.alloc _
            clear hk z0 z1 z2 z3 P1 hWC
            obtain ⟨c0, c1, c2, c3, c4, c5, c6, c7, c8⟩ := HC.out _ hkW
            go_upto_region 13 with fail
            go_upto_region 14 with (first | (go_at_call 81; (with_reducible refine (Q2.out _).mono ?_); rintro e wp ⟨rfl, hkp⟩; have hownp := own_keep hown.out hkp; have hkp2 := hkW.trans hkp; obtain ⟨hi, hz0, hz1, hz2⟩ := HI.out) | ((at_builtin; refine wpList_append_own _ rfl _ _ 22 rfl W.heap.size 37 i0 (.agg #[.int .i64 0, .int .i64 0]) 2 16 Tryz.underlying22 hi hz0 hz1 hz2 rfl (by decide) _ _ _ rfl ((hownp).alloc _) ⟨wp.heap.size, 0, none⟩ 1 1 (ptV (addP v M)) rfl rfl (two_newA wp _ _ _ (by simp)) (oneCell_ptV _) (by unfold maxLen; omega) (by omega) (by have := (hkp2).size; simp at this ⊢; omega) ?_; intro v1 w1 hown1 hgrow1 hz9; clear hz9; have hk1 := below_own (hkp2) rfl (hownp) hgrow1; clear hgrow1; rw [← rowP_one, ← rowP_append] at hown1); obtain ⟨A1, c1, rfl, hP⟩ := Pts.of_own hown1 (by simp) (by rw [← hcorn.out]; exact hok); rw [← hcorn.out] at hP; have hP := Lib.hid hP) | (go_at_call 77; (with_reducible refine (rorient_any _ 3 c1 _ _ hP.out (by omega)).mono ?_); rintro e wo ⟨vv, rfl, hownO, hkO⟩; obtain ⟨A2, c2, rfl, hP2⟩ := Pts.of_own hownO rfl (orient_ok _ hok); have hfo := Lib.hid (fun a ha => Nat.le_trans (Keeps.size (hkw.trans hk1)) (own_blocks hownO a ha).1); have hP2 := Lib.hid hP2; have hkO := Lib.hid hkO; clear hownO) | fail "APP")
            have hkf : Keeps w wo := (hkw.trans hk1).trans hkO.out
            have hkf := Lib.hid hkf
            clear hownp hkp2 hown hkW hi hz0 hz1 hz2 hk1 hown1 hcorn hok
            generalize orient (cornL v N M wd jn ml) = L at *
            by_cases hz : L.length = 0
            · have q14 : ((L.length : Int) == 0) = true := by rw [beq_iff_eq]; omega
              go_wp2_with fail
              go_ret
              rw [show wrapL L = [] by unfold wrapL; rw [if_pos hz]]
              exact RetF.nil (hkf.out)
            · have q14 : ((L.length : Int) == 0) = false := by rw [beq_eq_false_iff_ne]; omega
              have HR := Lib.hid (RwsB.lone hP2.out hlen hfo.out (Keeps.size hkf.out) 22)
              go_wp2_with fail
              go_ret
              rw [show wrapL L = [L] by unfold wrapL; rw [if_neg hz]]
              exact ⟨_, _, rfl, HR.out, (hkf.out).alloc _⟩
        · have qj : (jn == 1) = false := by rw [beq_eq_false_iff_ne]; exact hj1
          have hcorn := Lib.hid (show cornL v N M wd jn ml = [v, addP v N] ++ [addP v M] by unfold cornL; rw [if_neg (fun h => hj1 h.1), List.append_nil])
          generalize tipB N M wd ml = tb at *
          generalize tipP N M wd ml = T at *
          clear hj1
          go_enter Tryz.func60, Tryz.ntmps60
          go_wp2_with (first | (go_at_call 19; (with_reducible refine (keepk (KS.out _ (HB.out.trans hk)) hk).mono ?_); rintro e w1 ⟨rfl, hk⟩; obtain ⟨y0, y1, y2, y3, y4, y5, y6, y7, y8, y9, y10, y11, y12, y13, y14, y15, y16, y17, y18, y19, y20, y21, y22, y23⟩ := HS.out _ hk) | (go_at_call 40; (first | (with_reducible refine (keepk (KU.out _) hk).mono ?_) | (with_reducible refine (keepk (KV.out _) hk).mono ?_) | (with_reducible refine (keepk (KB.out _) hk).mono ?_) | fail "V"); rintro e w1 ⟨rfl, hk⟩; obtain ⟨y0, y1, y2, y3, y4, y5, y6, y7, y8, y9, y10, y11, y12, y13, y14, y15, y16, y17, y18, y19, y20, y21, y22, y23⟩ := HS.out _ hk) | (go_at_call 62; (with_reducible refine (KD.out _).mono ?_); rintro e wd1 ⟨vd, rfl, hod, hkd⟩; obtain ⟨Ad, cd, rfl, hPd⟩ := Pts.of_own hod rfl hokd.out; have hfd := Lib.hid (fun a ha => Nat.le_trans (Keeps.size (HB.out.trans hk)) (own_blocks hod a ha).1); have hPd := Lib.hid hPd; have hkd := Lib.hid hkd; clear hod) | (go_at_call 79; (with_reducible refine (keepk (KO.out _) hk).mono ?_); rintro e w2 ⟨rfl, hk⟩; obtain ⟨y0, y1, y2, y3, y4, y5, y6, y7, y8, y9, y10, y11, y12, y13, y14, y15, y16, y17, y18, y19, y20, y21, y22, y23⟩ := HS.out _ hk; have hs2 : w.heap.size + 4 ≤ w2.heap.size := (by have h := hk.size; simp at h; omega); have hs3 : w.heap.size + 1 + 1 + 1 < w2.heap.size := (by omega); have hs4 : w.heap.size + 1 + 1 + 1 < w2.heap.size + 1 := (by omega)) | (go_at_call 80; (with_reducible refine (KT.out _).mono ?_); rintro e w10 ⟨rfl, hk10⟩) | fail "ARM")
          refine name_world (fun W hW => ?_)
          have hqa : Keeps w2 w10 := (((Keeps.refl _).alloc _).alloc _).trans hk10
          have hqW : Keeps w10 W := by rw [hW]; exact (Keeps.refl _).alloc _
          have hqs : w2.heap.size + 1 < w10.heap.size := by have h := hk10.size; simp at h; omega
          have hF : W.cell? ⟨w.heap.size + 1, 0, none⟩ = some (.int .i64 v.1) ∧ W.cell? ⟨w.heap.size + 1, 1, none⟩ = some (.int .i64 v.2) ∧ W.cell? ⟨w.heap.size + 1 + 1 + 1, 1, none⟩ = some (.int .i64 jn) ∧ W.cell? ⟨w2.heap.size, 0, none⟩ = some (.int .i64 N.1) ∧ W.cell? ⟨w2.heap.size, 1, none⟩ = some (.int .i64 N.2) ∧ W.cell? ⟨w2.heap.size + 1, 0, none⟩ = some (.int .i64 M.1) ∧ W.cell? ⟨w2.heap.size + 1, 1, none⟩ = some (.int .i64 M.2) ∧ W.cell? ⟨w10.heap.size, 0, none⟩ = some (.int .i64 T.1) ∧ W.cell? ⟨w10.heap.size, 1, none⟩ = some (.int .i64 T.2) := by
            refine ⟨((hqa.trans hqW).cell (by dsimp only; omega)).trans (by assumption), ((hqa.trans hqW).cell (by dsimp only; omega)).trans (by assumption), ((hqa.trans hqW).cell (by dsimp only; omega)).trans (by assumption), ((hk10.trans hqW).cell (by first | (simp; done) | (simp; omega))).trans ?_, ((hk10.trans hqW).cell (by first | (simp; done) | (simp; omega))).trans ?_, ((hk10.trans hqW).cell (by first | (simp; done) | (simp; omega))).trans ?_, ((hk10.trans hqW).cell (by first | (simp; done) | (simp; omega))).trans ?_, ?_, ?_⟩ <;> (try rw [hW]) <;> go_simp
          have hkw : Keeps w W := (((HB.out.trans hk).trans hqa).trans hqW)
          have hsW : w10.heap.size < W.heap.size := by rw [hW]; simp
          clear hW hk hk10 hqa hqW y0 y1 y2 y3 y4 y5 y6 y7 y8 y9 y10 y11 y12 y13 y14 y15 y16 y17 y18 y19 y20 y21 y22 y23 HS HB KS KU KV KB KO
          have HC := Lib.hid (show ∀ w', Keeps W w' → w'.cell? ⟨w.heap.size + 1, 0, none⟩ = some (.int .i64 v.1) ∧ w'.cell? ⟨w.heap.size + 1, 1, none⟩ = some (.int .i64 v.2) ∧ w'.cell? ⟨w.heap.size + 1 + 1 + 1, 1, none⟩ = some (.int .i64 jn) ∧ w'.cell? ⟨w2.heap.size, 0, none⟩ = some (.int .i64 N.1) ∧ w'.cell? ⟨w2.heap.size, 1, none⟩ = some (.int .i64 N.2) ∧ w'.cell? ⟨w2.heap.size + 1, 0, none⟩ = some (.int .i64 M.1) ∧ w'.cell? ⟨w2.heap.size + 1, 1, none⟩ = some (.int .i64 M.2) ∧ w'.cell? ⟨w10.heap.size, 0, none⟩ = some (.int .i64 T.1) ∧ w'.cell? ⟨w10.heap.size, 1, none⟩ = some (.int .i64 T.2) from fun w' hq => by
            obtain ⟨c0, c1, c2, c3, c4, c5, c6, c7, c8⟩ := hF
            refine ⟨?_, ?_, ?_, ?_, ?_, ?_, ?_, ?_, ?_⟩ <;> (refine (hq.cell ?_).trans (by assumption); dsimp only; omega))
          have z0 : ∀ k : KW W, k.w.cell? ⟨w.heap.size + 1, 0, none⟩ = some (.int .i64 v.1) := fun k => (HC.out _ k.keeps).1
          have z1 : ∀ k : KW W, k.w.cell? ⟨w.heap.size + 1, 1, none⟩ = some (.int .i64 v.2) := fun k => (HC.out _ k.keeps).2.1
          have z2 : ∀ k : KW W, k.w.cell? ⟨w2.heap.size, 0, none⟩ = some (.int .i64 N.1) := fun k => (HC.out _ k.keeps).2.2.2.1
          have z3 : ∀ k : KW W, k.w.cell? ⟨w2.heap.size, 1, none⟩ = some (.int .i64 N.2) := fun k => (HC.out _ k.keeps).2.2.2.2.1
          have P1 := Lib.hid (fun k : KW W => keepq (Q1 k.w))
          clear hF Q1
          refine wp_region_kept_tail 4 (W) (by kernel_rfl) (by kernel_rfl) (Keeps.refl _) ?_
          simp only [List.take_succ_cons, List.take_zero, List.drop_succ_cons, List.drop_zero]
          repeat (first | go_big_quiet_skip | (go_big_quiet_want; go_big_quiet_op; first | go_big_quiet_on | go_big_quiet_call ((go_at_call 81; first | (with_reducible exact P1.out _)))))
          refine wpQuiet_nil ?_
          rintro w' ⟨k9, rfl⟩
          have hk := k9.keeps
          generalize k9.w = w9 at hk ⊢
          clear k9
          go_upto_region 11 with fail
          refine name_world (fun WC hWC => ?_)
          have hown := World.ownsRow_lit (base := W.heap.size) (e := 37) (size := 2) w9 #[.int .i64 v.1, .int .i64 v.2, .int .i64 (v.1 + N.1), .int .i64 (v.2 + N.2)] 2 hk.size (by unfold maxLen; omega) (by simp)
          have hown := Lib.hid (show WC.ownsRow W.heap.size 37 2 (.slice (some ⟨w9.heap.size, 0, none⟩) 2 2) 2 (rowP [v, addP v N]) from by rw [hWC]; exact hown)
          have hkW : Keeps W WC := by rw [hWC]; exact hk.alloc _
          clear hk z0 z1 z2 z3 P1 hWC
          obtain ⟨c0, c1, c2, c3, c4, c5, c6, c7, c8⟩ := HC.out _ hkW
          go_upto_region 13 with fail
          go_upto_region 14 with (first | (go_at_call 81; (with_reducible refine (Q2.out _).mono ?_); rintro e wp ⟨rfl, hkp⟩; have hownp := own_keep hown.out hkp; have hkp2 := hkW.trans hkp; obtain ⟨hi, hz0, hz1, hz2⟩ := HI.out) | ((at_builtin; refine wpList_append_own _ rfl _ _ 22 rfl W.heap.size 37 i0 (.agg #[.int .i64 0, .int .i64 0]) 2 16 Tryz.underlying22 hi hz0 hz1 hz2 rfl (by decide) _ _ _ rfl ((hownp).alloc _) ⟨wp.heap.size, 0, none⟩ 1 1 (ptV (addP v M)) rfl rfl (two_newA wp _ _ _ (by simp)) (oneCell_ptV _) (by unfold maxLen; omega) (by omega) (by have := (hkp2).size; simp at this ⊢; omega) ?_; intro v1 w1 hown1 hgrow1 hz9; clear hz9; have hk1 := below_own (hkp2) rfl (hownp) hgrow1; clear hgrow1; rw [← rowP_one, ← rowP_append] at hown1); obtain ⟨A1, c1, rfl, hP⟩ := Pts.of_own hown1 (by simp) (by rw [← hcorn.out]; exact hok); rw [← hcorn.out] at hP; have hP := Lib.hid hP) | (go_at_call 77; (with_reducible refine (rorient_any _ 3 c1 _ _ hP.out (by omega)).mono ?_); rintro e wo ⟨vv, rfl, hownO, hkO⟩; obtain ⟨A2, c2, rfl, hP2⟩ := Pts.of_own hownO rfl (orient_ok _ hok); have hfo := Lib.hid (fun a ha => Nat.le_trans (Keeps.size (hkw.trans hk1)) (own_blocks hownO a ha).1); have hP2 := Lib.hid hP2; have hkO := Lib.hid hkO; clear hownO) | fail "APP")
          have hkf : Keeps w wo := (hkw.trans hk1).trans hkO.out
          have hkf := Lib.hid hkf
          clear hownp hkp2 hown hkW hi hz0 hz1 hz2 hk1 hown1 hcorn hok
          generalize orient (cornL v N M wd jn ml) = L at *
          by_cases hz : L.length = 0
          · have q14 : ((L.length : Int) == 0) = true := by rw [beq_iff_eq]; omega
            go_wp2_with fail
            go_ret
            rw [show wrapL L = [] by unfold wrapL; rw [if_pos hz]]
            exact RetF.nil (hkf.out)
          · have q14 : ((L.length : Int) == 0) = false := by rw [beq_eq_false_iff_ne]; omega
            have HR := Lib.hid (RwsB.lone hP2.out hlen hfo.out (Keeps.size hkf.out) 22)
            go_wp2_with fail
            go_ret
            rw [show wrapL L = [L] by unfold wrapL; rw [if_neg hz]]
            exact ⟨_, _, rfl, HR.out, (hkf.out).alloc _⟩
theorem rjoin_any (u v b : Pt) (wd jn cp ml ph : Int) (A : Option Addr) (n c : Nat) (D : List Int) (w : World) (h : Ins w A n c D) :
    Calls Tryz.prog 60 #[.agg #[.int .i64 u.1, .int .i64 u.2], .agg #[.int .i64 v.1, .int .i64 v.2], .agg #[.int .i64 b.1, .int .i64 b.2], .agg #[.int .i64 wd, .int .i64 jn, .int .i64 cp, .int .i64 ml, .slice A n c, .int .i64 ph]] w (RetJ w (joinL u v b wd jn cp ml ph D)) :=
  (rjoinF_any u v b wd jn cp ml ph A n c D w h).mono fun _ _ h => h.retJ
end Go.Proofs.YtdodgnpjlicnoaaGreat
