/- Contract of stroke.rings. -/
import Derived.Test.YtdodgnpjlicnoaaGreatKj
import Derived.Test.YtdodgnpjlicnoaaGreatJh
namespace Go.Proofs.YtdodgnpjlicnoaaGreat
section
open Go.RowKit
attribute [local go_sem ↓] Go.wp_at_zero Go.wp_at_succ
set_option linter.unusedVariables false
set_option linter.unusedSimpArgs false
theorem RwsU.low {B B2 : Nat} {w : World} {A : Option Addr} {n c : Nat} {LL : List (List Pt)} (h : RwsU B w A n c LL) (hb : B2 ≤ B) : RwsU B2 w A n c LL := by
  obtain ⟨h1, h2, h3, h4⟩ := h
  refine ⟨h1, h2, h3, fun hn => ?_⟩
  obtain ⟨b, o, e, hB, hbs, hx⟩ := h4 hn
  refine ⟨b, o, e, Nat.le_trans hb hB, hbs, fun k hk => ?_⟩
  obtain ⟨Ak, nk, ck, e1, hP, l1, hf⟩ := hx k hk
  exact ⟨Ak, nk, ck, e1, hP, l1, fun a ha => ⟨Nat.le_trans hb (hf a ha).1, (hf a ha).2⟩⟩
theorem RwsU.one {B : Nat} {w : World} {A : Option Addr} {n c : Nat} {L : List Pt} (h : Pts w A n c L) (hn : n ≤ 4611686018427387904) (hf : ∀ a, A = some a → Nw B w a) (hB : B ≤ w.heap.size) (t : TypeId) : RwsU B (w.alloc (.cells #[.slice A n c] t)) (some ⟨w.heap.size, 0, none⟩) 1 1 [L] :=
  ⟨rfl, Nat.le_refl _, by unfold maxLen; omega, fun _ => ⟨_, _, rfl, hB, by simp, fun k hk => by
    obtain rfl : k = 0 := by omega
    exact ⟨A, n, c, by simp, h.keep ((Keeps.refl _).alloc _), hn, nw_keep hf ((Keeps.refl _).alloc _)⟩⟩⟩
theorem RwsU.two {B : Nat} {w : World} {A A2 : Option Addr} {n c n2 c2 : Nat} {L L2 : List Pt} (h : Pts w A n c L) (hn : n ≤ 4611686018427387904) (hf : ∀ a, A = some a → Nw B w a) (h2 : Pts w A2 n2 c2 L2) (hn2 : n2 ≤ 4611686018427387904) (hf2 : ∀ a, A2 = some a → Nw B w a) (hB : B ≤ w.heap.size) (t : TypeId) :
    RwsU B (w.alloc (.cells #[.slice A n c, .slice A2 n2 c2] t)) (some ⟨w.heap.size, 0, none⟩) 2 2 [L, L2] :=
  ⟨rfl, Nat.le_refl _, by unfold maxLen; omega, fun _ => ⟨_, _, rfl, hB, by simp, fun k hk => by
    rcases (show k = 0 ∨ k = 1 by omega) with rfl | rfl
    · exact ⟨A, n, c, by simp, h.keep ((Keeps.refl _).alloc _), hn, nw_keep hf ((Keeps.refl _).alloc _)⟩
    · exact ⟨A2, n2, c2, by simp, h2.keep ((Keeps.refl _).alloc _), hn2, nw_keep hf2 ((Keeps.refl _).alloc _)⟩⟩⟩
/-- the rings so far, in the box bo -/
def RI (W1 : World) (bo : Nat) (LL : List (List Pt)) (wr : World) : Prop := ∃ v, Boxed wr bo 30 v ∧ FRws wr W1.heap.size v LL ∧ KeepX bo W1 wr
theorem RI.step {W1 wr wp : World} {bo : Nat} {LL : List (List Pt)} (h : RI W1 bo LL wr) (hk : Keeps wr wp) : RI W1 bo LL wp := by
  obtain ⟨v, hb, hF, hX⟩ := h
  exact ⟨v, (hk.block bo hb.lt).trans hb, hF.keep hk, hX.step hk⟩
theorem put_ri {W1 wr wp : World} {bo : Nat} {LL PP : List (List Pt)} {A : Option Addr} {m c : Nat} (h : RI W1 bo LL wr) (hk : Keeps wr wp) (hP : RwsU wr.heap.size wp A m c PP) (hbo : bo < W1.heap.size) (hlen : LL.length + PP.length ≤ 1000000) :
    Calls Tryz.prog 29 #[.slice A m c, .pointer (some ⟨bo, 0, none⟩)] wp fun e w' => e = .returned (.tuple #[]) ∧ RI W1 bo (LL ++ putL PP) w' := by
  have hv : ∃ v, Boxed wr bo 30 v ∧ FRws wr W1.heap.size v LL ∧ KeepX bo W1 wr := h
  obtain ⟨v, hb, hF, hX⟩ := hv
  have ho : ∀ g, v.ownBlock = some g → g < wr.heap.size := fun g hg => by
    obtain ⟨VS, h1, _⟩ := hF
    exact (h1.lt g hg).2
  have hXp := hX.step hk
  refine (put_any W1.heap.size wr.heap.size bo v LL PP A m c wp ((hk.block bo hb.lt).trans hb) (hF.keep hk) hbo hXp.size hP hX.size ho hlen).mono ?_
  rintro e w' ⟨rfl, v', hI⟩
  exact ⟨rfl, v', hI.box, hI.rows, hI.keep W1 hXp (Nat.le_refl _)⟩
/-- polygons in new memory; none at all: the slice is nil -/
def RetG (w0 : World) (LL : List (List Pt)) (e : Ending) (w' : World) : Prop := ∃ A c, e = .returned (.slice A LL.length c) ∧ RwsU w0.heap.size w' A LL.length c LL ∧ Keeps w0 w' ∧ (LL.length = 0 → A = none ∧ c = 0)
theorem RetG.nil {w0 w' : World} (hk : Keeps w0 w') : RetG w0 [] (.returned (.slice none 0 0)) w' := ⟨none, 0, rfl, RwsU.nil _ _, hk, fun _ => ⟨rfl, rfl⟩⟩
/-- what rings hands back -/
theorem RI.ret {w W1 wr : World} {bo : Nat} {LL : List (List Pt)} {v : Value} (h : RI W1 bo LL wr) (hc : wr.cell? ⟨bo, 0, none⟩ = some v) (hk : Keeps w W1) (hbo : w.heap.size ≤ bo) : RetG w LL (.returned v) wr := by
  obtain ⟨v', hb, hF, hX⟩ := h
  obtain rfl : v' = v := by simpa using hb.cell.symm.trans hc
  obtain ⟨A, c, rfl, hR, hz⟩ := (hF.base hk.size).rws
  exact ⟨A, c, rfl, hR, hX.keeps hk hbo, hz⟩
theorem dotR_ok (p : Pt) (wd cp : Int) : ∀ q ∈ dotR p wd cp, okP q := by
  unfold dotR
  split
  · exact dotL_ok p wd
  · split
    · exact discL_ok p wd
    · intro q hq; cases hq
theorem endL_ok (a b : Pt) (wd cp : Int) : ∀ q ∈ endL a b wd cp, okP q := by
  unfold endL
  split
  · exact capL_ok a b wd
  · split
    · exact discL_ok b wd
    · intro q hq; cases hq
theorem dotR_len (p : Pt) (wd cp : Int) : (dotR p wd cp).length ≤ 16 := by
  unfold dotR
  split
  · have := dotL_len p wd; omega
  · split
    · exact discL_len p wd
    · simp
theorem endL_len (a b : Pt) (wd cp : Int) : (endL a b wd cp).length ≤ 16 := by
  unfold endL
  split
  · have := capL_len a b wd; omega
  · split
    · exact discL_len b wd
    · simp

set_option maxRecDepth 100000 in
set_option maxHeartbeats 8000000 in
theorem rings_any (cl : Bool) (A : Option Addr) (n c : Nat) (L : List Pt) (wd jn cp ml ph : Int) (Ad : Option Addr) (nd cd : Nat) (D : List Int) (w : World) (h : Pts w A n c L) (hI : Ins w Ad nd cd D) (hn : n ≤ 100000) :
    Calls Tryz.prog 17 #[.agg #[.slice A n c, .bool cl], .agg #[.int .i64 wd, .int .i64 jn, .int .i64 cp, .int .i64 ml, .slice Ad nd cd, .int .i64 ph]] w (RetG w (ringsL cl L wd jn cp ml ph D)) := by
  have hmf : ∀ (fn : Fn) (first cap : Array Value) (w : World), (Instr.makeFunc fn first cap).run Tryz.prog w = .ok (.func fn first cap) w := fun _ _ _ _ => rfl
  have hl := h.1
  have hni : (n : Int) ≤ 100000 := by omega
  have HS := Lib.hid (show ∀ w', Keeps (((((w.alloc (.cells #[.slice A n c, .bool cl] 24)).alloc (.cells #[.int .i64 wd, .int .i64 jn, .int .i64 cp, .int .i64 ml, .slice Ad nd cd, .int .i64 ph] 27)).alloc (.cells #[.slice none 0 0] 30)).alloc (.cells #[.slice A n c] 22)).alloc (.cells #[.int .i64 n] 3)) w' → w'.cell? ⟨w.heap.size, 0, none⟩ = some (.slice A n c) ∧ w'.frozen? ⟨w.heap.size, 0, none⟩ = false ∧ w'.cell? ⟨w.heap.size, 1, none⟩ = some (.bool cl) ∧ w'.frozen? ⟨w.heap.size, 1, none⟩ = false ∧ w'.cell? ⟨w.heap.size + 1, 0, none⟩ = some (.int .i64 wd) ∧ w'.frozen? ⟨w.heap.size + 1, 0, none⟩ = false ∧ w'.cell? ⟨w.heap.size + 1, 1, none⟩ = some (.int .i64 jn) ∧ w'.frozen? ⟨w.heap.size + 1, 1, none⟩ = false ∧ w'.cell? ⟨w.heap.size + 1, 2, none⟩ = some (.int .i64 cp) ∧ w'.frozen? ⟨w.heap.size + 1, 2, none⟩ = false ∧ w'.cell? ⟨w.heap.size + 1, 3, none⟩ = some (.int .i64 ml) ∧ w'.frozen? ⟨w.heap.size + 1, 3, none⟩ = false ∧ w'.cell? ⟨w.heap.size + 1, 4, none⟩ = some (.slice Ad nd cd) ∧ w'.frozen? ⟨w.heap.size + 1, 4, none⟩ = false ∧ w'.cell? ⟨w.heap.size + 1, 5, none⟩ = some (.int .i64 ph) ∧ w'.frozen? ⟨w.heap.size + 1, 5, none⟩ = false ∧ w'.cell? ⟨w.heap.size + 1 + 1, 0, none⟩ = some (.slice none 0 0) ∧ w'.frozen? ⟨w.heap.size + 1 + 1, 0, none⟩ = false ∧ w'.cell? ⟨w.heap.size + 1 + 1 + 1, 0, none⟩ = some (.slice A n c) ∧ w'.frozen? ⟨w.heap.size + 1 + 1 + 1, 0, none⟩ = false ∧ w'.cell? ⟨w.heap.size + 1 + 1 + 1 + 1, 0, none⟩ = some (.int .i64 n) ∧ w'.frozen? ⟨w.heap.size + 1 + 1 + 1 + 1, 0, none⟩ = false from fun w' hk => ⟨(hk.cell (p := ⟨w.heap.size, 0, none⟩) (by first | (simp; done) | (simp; omega))).trans (by simp [go_sem]), (hk.frozen (p := ⟨w.heap.size, 0, none⟩) (by first | (simp; done) | (simp; omega))).trans (by simp [go_sem]), (hk.cell (p := ⟨w.heap.size, 1, none⟩) (by first | (simp; done) | (simp; omega))).trans (by simp [go_sem]), (hk.frozen (p := ⟨w.heap.size, 1, none⟩) (by first | (simp; done) | (simp; omega))).trans (by simp [go_sem]), (hk.cell (p := ⟨w.heap.size + 1, 0, none⟩) (by first | (simp; done) | (simp; omega))).trans (by simp [go_sem]), (hk.frozen (p := ⟨w.heap.size + 1, 0, none⟩) (by first | (simp; done) | (simp; omega))).trans (by simp [go_sem]), (hk.cell (p := ⟨w.heap.size + 1, 1, none⟩) (by first | (simp; done) | (simp; omega))).trans (by simp [go_sem]), (hk.frozen (p := ⟨w.heap.size + 1, 1, none⟩) (by first | (simp; done) | (simp; omega))).trans (by simp [go_sem]), (hk.cell (p := ⟨w.heap.size + 1, 2, none⟩) (by first | (simp; done) | (simp; omega))).trans (by simp [go_sem]), (hk.frozen (p := ⟨w.heap.size + 1, 2, none⟩) (by first | (simp; done) | (simp; omega))).trans (by simp [go_sem]), (hk.cell (p := ⟨w.heap.size + 1, 3, none⟩) (by first | (simp; done) | (simp; omega))).trans (by simp [go_sem]), (hk.frozen (p := ⟨w.heap.size + 1, 3, none⟩) (by first | (simp; done) | (simp; omega))).trans (by simp [go_sem]), (hk.cell (p := ⟨w.heap.size + 1, 4, none⟩) (by first | (simp; done) | (simp; omega))).trans (by simp [go_sem]), (hk.frozen (p := ⟨w.heap.size + 1, 4, none⟩) (by first | (simp; done) | (simp; omega))).trans (by simp [go_sem]), (hk.cell (p := ⟨w.heap.size + 1, 5, none⟩) (by first | (simp; done) | (simp; omega))).trans (by simp [go_sem]), (hk.frozen (p := ⟨w.heap.size + 1, 5, none⟩) (by first | (simp; done) | (simp; omega))).trans (by simp [go_sem]), (hk.cell (p := ⟨w.heap.size + 1 + 1, 0, none⟩) (by first | (simp; done) | (simp; omega))).trans (by simp [go_sem]), (hk.frozen (p := ⟨w.heap.size + 1 + 1, 0, none⟩) (by first | (simp; done) | (simp; omega))).trans (by simp [go_sem]), (hk.cell (p := ⟨w.heap.size + 1 + 1 + 1, 0, none⟩) (by first | (simp; done) | (simp; omega))).trans (by simp [go_sem]), (hk.frozen (p := ⟨w.heap.size + 1 + 1 + 1, 0, none⟩) (by first | (simp; done) | (simp; omega))).trans (by simp [go_sem]), (hk.cell (p := ⟨w.heap.size + 1 + 1 + 1 + 1, 0, none⟩) (by first | (simp; done) | (simp; omega))).trans (by simp [go_sem]), (hk.frozen (p := ⟨w.heap.size + 1 + 1 + 1 + 1, 0, none⟩) (by first | (simp; done) | (simp; omega))).trans (by simp [go_sem])⟩)
  have HB := Lib.hid (show Keeps w (((((w.alloc (.cells #[.slice A n c, .bool cl] 24)).alloc (.cells #[.int .i64 wd, .int .i64 jn, .int .i64 cp, .int .i64 ml, .slice Ad nd cd, .int .i64 ph] 27)).alloc (.cells #[.slice none 0 0] 30)).alloc (.cells #[.slice A n c] 22)).alloc (.cells #[.int .i64 n] 3)) from (by (repeat (first | (with_reducible exact Keeps.refl _) | (with_reducible assumption) | (with_reducible refine Keeps.drewN ?_ _) | (with_reducible refine Keeps.drew ?_) | (with_reducible refine Keeps.alloc ?_ _) | (with_reducible refine Keeps.setNew ?_ ?_ _))) <;> (dsimp only; omega)))
  have hk0 := Keeps.refl (((((w.alloc (.cells #[.slice A n c, .bool cl] 24)).alloc (.cells #[.int .i64 wd, .int .i64 jn, .int .i64 cp, .int .i64 ml, .slice Ad nd cd, .int .i64 ph] 27)).alloc (.cells #[.slice none 0 0] 30)).alloc (.cells #[.slice A n c] 22)).alloc (.cells #[.int .i64 n] 3))
  have HC := Lib.hid (show ∀ w', KeepX (w.heap.size + 1 + 1) (((((w.alloc (.cells #[.slice A n c, .bool cl] 24)).alloc (.cells #[.int .i64 wd, .int .i64 jn, .int .i64 cp, .int .i64 ml, .slice Ad nd cd, .int .i64 ph] 27)).alloc (.cells #[.slice none 0 0] 30)).alloc (.cells #[.slice A n c] 22)).alloc (.cells #[.int .i64 n] 3)) w' → w'.cell? ⟨w.heap.size, 0, none⟩ = some (.slice A n c) ∧ w'.cell? ⟨w.heap.size, 1, none⟩ = some (.bool cl) ∧ w'.cell? ⟨w.heap.size + 1, 0, none⟩ = some (.int .i64 wd) ∧ w'.cell? ⟨w.heap.size + 1, 1, none⟩ = some (.int .i64 jn) ∧ w'.cell? ⟨w.heap.size + 1, 2, none⟩ = some (.int .i64 cp) ∧ w'.cell? ⟨w.heap.size + 1, 3, none⟩ = some (.int .i64 ml) ∧ w'.cell? ⟨w.heap.size + 1, 4, none⟩ = some (.slice Ad nd cd) ∧ w'.cell? ⟨w.heap.size + 1, 5, none⟩ = some (.int .i64 ph) ∧ w'.cell? ⟨w.heap.size + 1 + 1 + 1, 0, none⟩ = some (.slice A n c) ∧ w'.cell? ⟨w.heap.size + 1 + 1 + 1 + 1, 0, none⟩ = some (.int .i64 n) from fun w' hk => ⟨(hk.cell (p := ⟨w.heap.size, 0, none⟩) (by first | (simp; done) | (simp; omega)) (by dsimp only; omega)).trans (by simp [go_sem]), (hk.cell (p := ⟨w.heap.size, 1, none⟩) (by first | (simp; done) | (simp; omega)) (by dsimp only; omega)).trans (by simp [go_sem]), (hk.cell (p := ⟨w.heap.size + 1, 0, none⟩) (by first | (simp; done) | (simp; omega)) (by dsimp only; omega)).trans (by simp [go_sem]), (hk.cell (p := ⟨w.heap.size + 1, 1, none⟩) (by first | (simp; done) | (simp; omega)) (by dsimp only; omega)).trans (by simp [go_sem]), (hk.cell (p := ⟨w.heap.size + 1, 2, none⟩) (by first | (simp; done) | (simp; omega)) (by dsimp only; omega)).trans (by simp [go_sem]), (hk.cell (p := ⟨w.heap.size + 1, 3, none⟩) (by first | (simp; done) | (simp; omega)) (by dsimp only; omega)).trans (by simp [go_sem]), (hk.cell (p := ⟨w.heap.size + 1, 4, none⟩) (by first | (simp; done) | (simp; omega)) (by dsimp only; omega)).trans (by simp [go_sem]), (hk.cell (p := ⟨w.heap.size + 1, 5, none⟩) (by first | (simp; done) | (simp; omega)) (by dsimp only; omega)).trans (by simp [go_sem]), (hk.cell (p := ⟨w.heap.size + 1 + 1 + 1, 0, none⟩) (by first | (simp; done) | (simp; omega)) (by dsimp only; omega)).trans (by simp [go_sem]), (hk.cell (p := ⟨w.heap.size + 1 + 1 + 1 + 1, 0, none⟩) (by first | (simp; done) | (simp; omega)) (by dsimp only; omega)).trans (by simp [go_sem])⟩)
  have HP := Lib.hid (fun w' (hk : Keeps w w') => h.keep hk)
  have HI := Lib.hid (fun w' (hk : Keeps w w') => hI.keep hk)
  have hb0 : Boxed (((((w.alloc (.cells #[.slice A n c, .bool cl] 24)).alloc (.cells #[.int .i64 wd, .int .i64 jn, .int .i64 cp, .int .i64 ml, .slice Ad nd cd, .int .i64 ph] 27)).alloc (.cells #[.slice none 0 0] 30)).alloc (.cells #[.slice A n c] 22)).alloc (.cells #[.int .i64 n] 3)) (w.heap.size + 1 + 1) 30 (.slice none 0 0) := by
    have h := ((Boxed.new ((w.alloc (.cells #[.slice A n c, .bool cl] 24)).alloc (.cells #[.int .i64 wd, .int .i64 jn, .int .i64 cp, .int .i64 ml, .slice Ad nd cd, .int .i64 ph] 27)) 30 (.slice none 0 0)).alloc (.cells #[.slice A n c] 22)).alloc (.cells #[.int .i64 n] 3)
    rwa [show (((w.alloc (.cells #[.slice A n c, .bool cl] 24)).alloc (.cells #[.int .i64 wd, .int .i64 jn, .int .i64 cp, .int .i64 ml, .slice Ad nd cd, .int .i64 ph] 27))).heap.size = w.heap.size + 1 + 1 by simp] at h
  have H0 := Lib.hid (show RI (((((w.alloc (.cells #[.slice A n c, .bool cl] 24)).alloc (.cells #[.int .i64 wd, .int .i64 jn, .int .i64 cp, .int .i64 ml, .slice Ad nd cd, .int .i64 ph] 27)).alloc (.cells #[.slice none 0 0] 30)).alloc (.cells #[.slice A n c] 22)).alloc (.cells #[.int .i64 n] 3)) (w.heap.size + 1 + 1) [] (((((w.alloc (.cells #[.slice A n c, .bool cl] 24)).alloc (.cells #[.int .i64 wd, .int .i64 jn, .int .i64 cp, .int .i64 ml, .slice Ad nd cd, .int .i64 ph] 27)).alloc (.cells #[.slice none 0 0] 30)).alloc (.cells #[.slice A n c] 22)).alloc (.cells #[.int .i64 n] 3)) from ⟨_, hb0, FRws.nil _ _, KeepX.of (Keeps.refl _)⟩)
  clear hb0
  have hWs : ((((((w.alloc (.cells #[.slice A n c, .bool cl] 24)).alloc (.cells #[.int .i64 wd, .int .i64 jn, .int .i64 cp, .int .i64 ml, .slice Ad nd cd, .int .i64 ph] 27)).alloc (.cells #[.slice none 0 0] 30)).alloc (.cells #[.slice A n c] 22)).alloc (.cells #[.int .i64 n] 3))).heap.size = w.heap.size + 5 := by simp
  clear h hI
  unfold ringsL
  by_cases h0 : n = 0
  · subst h0
    rw [if_pos hl]
    go_enter Tryz.func17, Tryz.ntmps17
    go_wp2_with fail
    go_ret
    exact RetG.nil HB.out
  · rw [if_neg (by omega)]
    have q0 : ((n : Int) == 0) = false := by rw [beq_eq_false_iff_ne]; omega
    by_cases h1 : n = 1
    · subst h1
      rw [if_pos hl]
      have hok := Lib.hid (dotR_ok (L.getD 0 pt0) wd cp)
      have hlen := dotR_len (L.getD 0 pt0) wd cp
      obtain ⟨b, o, rfl, hbw, hC0⟩ := (HP.out _ HB.out).2.2.2.2 (by omega)
      have hc0 := hC0 0 (by omega)
      rw [Nat.zero_mul] at hc0
      clear hC0
      generalize L.getD 0 pt0 = p at *
      have hc0 := Lib.hid (fun w' hk => hc0.keep (w' := w') hbw hk)
      have K1 := Lib.hid (fun w => sdot_any p wd jn cp ml ph Ad nd cd w)
      go_enter Tryz.func17, Tryz.ntmps17
      go_wp2_with fail
      generalize (((((w.alloc (.cells #[.slice (some ⟨b, o, none⟩) 1 c, .bool cl] 24)).alloc (.cells #[.int .i64 wd, .int .i64 jn, .int .i64 cp, .int .i64 ml, .slice Ad nd cd, .int .i64 ph] 27)).alloc (.cells #[.slice none 0 0] 30)).alloc (.cells #[.slice (some ⟨b, o, none⟩) 1 c] 22)).alloc (.cells #[.int .i64 1] 3)) = W1 at *
      have z2 : ∀ k : KW W1, k.w.cell? ⟨w.heap.size + 1, 0, none⟩ = some (.int .i64 wd) := fun k => (HC.out _ (KeepX.of k.keeps)).2.2.1
      have z3 : ∀ k : KW W1, k.w.cell? ⟨w.heap.size + 1, 1, none⟩ = some (.int .i64 jn) := fun k => (HC.out _ (KeepX.of k.keeps)).2.2.2.1
      have z4 : ∀ k : KW W1, k.w.cell? ⟨w.heap.size + 1, 2, none⟩ = some (.int .i64 cp) := fun k => (HC.out _ (KeepX.of k.keeps)).2.2.2.2.1
      have z5 : ∀ k : KW W1, k.w.cell? ⟨w.heap.size + 1, 3, none⟩ = some (.int .i64 ml) := fun k => (HC.out _ (KeepX.of k.keeps)).2.2.2.2.2.1
      have z6 : ∀ k : KW W1, k.w.cell? ⟨w.heap.size + 1, 4, none⟩ = some (.slice Ad nd cd) := fun k => (HC.out _ (KeepX.of k.keeps)).2.2.2.2.2.2.1
      have z7 : ∀ k : KW W1, k.w.cell? ⟨w.heap.size + 1, 5, none⟩ = some (.int .i64 ph) := fun k => (HC.out _ (KeepX.of k.keeps)).2.2.2.2.2.2.2.1
      have z8 : ∀ k : KW W1, k.w.cell? ⟨w.heap.size + 1 + 1 + 1, 0, none⟩ = some (.slice (some ⟨b, o, none⟩) 1 c) := fun k => (HC.out _ (KeepX.of k.keeps)).2.2.2.2.2.2.2.2.1
      have z20 : ∀ k : KW W1, k.w.cell? ⟨b, o, none⟩ = some (.int .i64 p.1) := fun k => (hc0.out _ k.keeps).1
      have z21 : ∀ k : KW W1, k.w.cell? ⟨b, o + 1, none⟩ = some (.int .i64 p.2) := fun k => (hc0.out _ k.keeps).2
      refine wp_region_kept_tail1 (v := ?_) 5 (W1) (by kernel_rfl) (by kernel_rfl) (Keeps.refl _) (Or.inl ⟨by rfl, ?_⟩) (fun _ _ _ h => h) ?_; rotate_left; · (intro w; go_simp; try with_reducible rfl)
      simp only [Act.put, List.setIfInBounds_toArray, List.set_cons_zero, List.set_cons_succ, List.take_succ_cons, List.take_zero, List.drop_succ_cons, List.drop_zero, Nat.reduceSub]
      repeat (first | go_big_quiet_skip | (go_big_quiet_want; go_big_quiet_op; first | go_big_quiet_on | go_big_quiet_call (fail)))
      refine wpQuiet_nil ?_
      rintro w' ⟨k9, rfl⟩
      have hk := k9.keeps
      generalize k9.w = w9 at hk ⊢
      clear k9
      generalize dotR p wd cp = X at *
      clear z2 z3 z4 z5 z6 z7 z8 z20 z21
      have hbo : w.heap.size + 1 + 1 < W1.heap.size := by omega
      have hlen2 : X.length ≤ 4611686018427387904 := by omega
      go_wp2_with (first | (go_at_call 30; (with_reducible refine (K1.out _).mono ?_); rintro e w10 ⟨v, rfl, ho, hk10⟩; obtain ⟨Ax, cx, rfl, hPx⟩ := Pts.of_own ho rfl hok.out; have hfx := Lib.hid (own_nw hk.size ho); have hPx := Lib.hid hPx; have hkk := Lib.hid (hk.trans hk10)) | (go_at_call 29; (with_reducible refine (put_ri (LL := []) (PP := [X]) H0.out (hkk.out.alloc _) (RwsU.one hPx.out hlen2 hfx.out hkk.out.size _) hbo (by simp)).mono ?_); rintro e w12 ⟨rfl, hR⟩; obtain ⟨v9, hb9, hF9, hX9⟩ := id hR; have y9 := hb9.cell; have hR := Lib.hid hR; clear hb9 hF9 hX9))
      go_ret
      rw [putL_one, List.nil_append] at hR
      exact RI.ret hR.out y9 HB.out (by omega)
    · rw [if_neg (by omega)]
      have q1 : ((n : Int) == 1) = false := by rw [beq_eq_false_iff_ne]; omega
      obtain ⟨b, o, rfl, hbw, hC0⟩ := (HP.out _ (Keeps.refl _)).2.2.2.2 (by omega)
      have hPt := Lib.hid (fun q (hq : q < n) w' (hk : Keeps w w') => (hC0 q hq).keep hbw hk)
      obtain ⟨m1, hm1⟩ : ∃ m1 : Nat, n = m1 + 1 := ⟨n - 1, by omega⟩
      obtain ⟨m2, hm2⟩ : ∃ m2 : Nat, n = m2 + 2 := ⟨n - 2, by omega⟩
      have e1 : (n : Int) - 1 = m1 := by omega
      have e2 : (n : Int) - 2 = m2 := by omega
      have ew1 : IntKind.i64.wrap (m1 : Int) = m1 := IntWalk.i64_in _ (by omega)
      have ew2 : IntKind.i64.wrap (m2 : Int) = m2 := IntWalk.i64_in _ (by omega)
      have el1 : (m1 : Int) < n := by omega
      have el2 : (m2 : Int) < n := by omega
      have el0 : (0 : Int) < n := by omega
      have elq : (1 : Int) < n := by omega
      have el0n : 0 < n := by omega
      have el1n : 1 < n := by omega
      have hm1a : n ≤ m1 + 1 := by omega
      have hm1b : m1 + 1 ≤ n := by omega
      have hm2a : n ≤ m2 + 2 := by omega
      have hm2b : m2 + 2 ≤ n := by omega
      clear hC0 hbw hm1 hm2
      cases cl with
      | true =>
        go_enter Tryz.func17, Tryz.ntmps17
        go_wp2_with fail
        generalize (((((w.alloc (.cells #[.slice (some ⟨b, o, none⟩) n c, .bool true] 24)).alloc (.cells #[.int .i64 wd, .int .i64 jn, .int .i64 cp, .int .i64 ml, .slice Ad nd cd, .int .i64 ph] 27)).alloc (.cells #[.slice none 0 0] 30)).alloc (.cells #[.slice (some ⟨b, o, none⟩) n c] 22)).alloc (.cells #[.int .i64 n] 3)) = W1 at *
        have HX := Lib.hid (fun w' (h : KeepX (w.heap.size + 1 + 1) W1 w') => h.keeps HB.out (by omega))
        have hbo : w.heap.size + 1 + 1 < W1.heap.size := by omega
        go_loopw [40] (fun i wr => ∃ j : Nat, j ≤ n ∧ i = .int .i64 j ∧ Hid (RI W1 (w.heap.size + 1 + 1) (flatTo (bodyR L wd) j) wr)) (fun i _ => n - (intOf i).toNat)
        case atStart => exact ⟨0, by omega, rfl, H0⟩
        case round =>
          clear H0
          obtain ⟨j, hj, rfl, hR⟩ := hrel
          have hX : KeepX (w.heap.size + 1 + 1) W1 wr := by obtain ⟨_, _, _, h⟩ := hR.out; exact h
          have hfl := flatTo_len (bodyR L wd) (fun i => wrapL_len _) j
          by_cases hlt : j < n
          · have hlt2 : (j : Int) < n := by omega
            have hjn : j < n := by omega
            have M1 := fun k : KW wr => keepq (next_any (w.heap.size + 1 + 1 + 1) (w.heap.size + 1 + 1 + 1 + 1) (some ⟨b, o, none⟩) n c (j + 1 + n) L ((j : Int) + 1) k.w ((HC.out _ (hX.step k.keeps)).2.2.2.2.2.2.2.2.1) ((HC.out _ (hX.step k.keeps)).2.2.2.2.2.2.2.2.2) (HP.out _ (HX.out _ (hX.step k.keeps))) (by omega) (by omega) (by omega) (by omega))
            simp only [Nat.add_mod_right] at M1
            have hT := Lib.hid (show flatTo (bodyR L wd) (j + 1) = flatTo (bodyR L wd) j ++ wrapL (bodyL (L.getD j pt0) (L.getD ((j + 1) % n) pt0) wd) by rw [flatTo, bodyR, hl])
            have gp := Lib.hid (hPt.out j hjn)
            have KB := Lib.hid (fun w => body_any (L.getD j pt0) (L.getD ((j + 1) % n) pt0) wd w)
            have hbk := Lib.hid (bodyL_ok (L.getD j pt0) (L.getD ((j + 1) % n) pt0) wd)
            have hbl := bodyL_len (L.getD j pt0) (L.getD ((j + 1) % n) pt0) wd
            generalize L.getD j pt0 = p at *
            generalize L.getD ((j + 1) % n) pt0 = q at *
            generalize bodyL p q wd = X at *
            have M1 := Lib.hid M1
            have HXk := Lib.hid (fun w' (hk : Keeps wr w') => HX.out _ (hX.step hk))
            have z2 : ∀ k : KW wr, k.w.cell? ⟨w.heap.size + 1, 0, none⟩ = some (.int .i64 wd) := fun k => (HC.out _ (hX.step k.keeps)).2.2.1
            have z3 : ∀ k : KW wr, k.w.cell? ⟨w.heap.size + 1, 1, none⟩ = some (.int .i64 jn) := fun k => (HC.out _ (hX.step k.keeps)).2.2.2.1
            have z4 : ∀ k : KW wr, k.w.cell? ⟨w.heap.size + 1, 2, none⟩ = some (.int .i64 cp) := fun k => (HC.out _ (hX.step k.keeps)).2.2.2.2.1
            have z5 : ∀ k : KW wr, k.w.cell? ⟨w.heap.size + 1, 3, none⟩ = some (.int .i64 ml) := fun k => (HC.out _ (hX.step k.keeps)).2.2.2.2.2.1
            have z6 : ∀ k : KW wr, k.w.cell? ⟨w.heap.size + 1, 4, none⟩ = some (.slice Ad nd cd) := fun k => (HC.out _ (hX.step k.keeps)).2.2.2.2.2.2.1
            have z7 : ∀ k : KW wr, k.w.cell? ⟨w.heap.size + 1, 5, none⟩ = some (.int .i64 ph) := fun k => (HC.out _ (hX.step k.keeps)).2.2.2.2.2.2.2.1
            have z8 : ∀ k : KW wr, k.w.cell? ⟨w.heap.size + 1 + 1 + 1, 0, none⟩ = some (.slice (some ⟨b, o, none⟩) n c) := fun k => (HC.out _ (hX.step k.keeps)).2.2.2.2.2.2.2.2.1
            have z20 : ∀ k : KW wr, k.w.cell? ⟨b, o + j * 2, none⟩ = some (.int .i64 p.1) := fun k => (gp.out _ (HXk.out _ k.keeps)).1
            have z21 : ∀ k : KW wr, k.w.cell? ⟨b, o + j * 2 + 1, none⟩ = some (.int .i64 p.2) := fun k => (gp.out _ (HXk.out _ k.keeps)).2
            have hlen2 : X.length ≤ 4611686018427387904 := by omega
            generalize flatTo (bodyR L wd) j = LL at *
            go_wp2_with fail
            refine wp_region_kept_tail1 (v := ?_) 11 (wr) (by kernel_rfl) (by kernel_rfl) (Keeps.refl _) (Or.inl ⟨by rfl, ?_⟩) (fun _ _ _ h => h) ?_; rotate_left; · (intro w; go_simp; try with_reducible rfl)
            simp only [Act.put, List.setIfInBounds_toArray, List.set_cons_zero, List.set_cons_succ, List.take_succ_cons, List.take_zero, List.drop_succ_cons, List.drop_zero, Nat.reduceSub]
            repeat (first | go_big_quiet_skip | (go_big_quiet_want; go_big_quiet_op; first | go_big_quiet_on | go_big_quiet_call ((go_at_call 31; first | (with_reducible exact M1.out _)))))
            refine wpQuiet_nil ?_
            rintro w' ⟨k9, rfl⟩
            have hk := k9.keeps
            generalize k9.w = w9 at hk ⊢
            clear k9
            clear z2 z3 z4 z5 z6 z7 z8 z20 z21 M1
            go_wp2_with (first | (go_at_call 32; (with_reducible refine (KB.out _).mono ?_); rintro e w10 ⟨v, rfl, ho, hk10⟩; obtain ⟨Ax, cx, rfl, hPx⟩ := Pts.of_own ho rfl hbk.out; have hfx := Lib.hid (own_nw hk.size ho); have hPx := Lib.hid hPx; have hkk := Lib.hid (hk.trans hk10)) | (go_at_call 29; (with_reducible refine (put_ri (PP := [X]) hR.out (hkk.out.alloc _) (RwsU.one hPx.out hlen2 hfx.out hkk.out.size _) hbo (by simp; omega)).mono ?_); rintro e w12 ⟨rfl, hR2⟩; rw [putL_one] at hR2; have hR2 := Lib.hid hR2))
            go_roundw
            case rel => exact ⟨j + 1, by omega, by go_num, Lib.hid (by rw [hT.out]; exact hR2.out)⟩
            case measure => simp [intOf]; omega
          · have hjK : j = n := by omega
            replace hjK := hjK.symm
            subst hjK
            obtain ⟨y0, y1, y2, y3, y4, y5, y6, y7, y8, y9⟩ := HC.out _ hX
            have hgo : ¬ (n : Int) < n := by omega
            go_wp2_with fail
            clear y0 y1 y2 y3 y4 y5 y6 y7 y8 y9 hX
            go_loopw [59] (fun i wr => ∃ j : Nat, j ≤ n ∧ i = .int .i64 j ∧ Hid (RI W1 (w.heap.size + 1 + 1) (flatTo (bodyR L wd) n ++ flatTo (joinK true L wd jn cp ml ph D) j) wr)) (fun i _ => n - (intOf i).toNat)
            case atStart => exact ⟨0, by omega, rfl, Lib.hid (by rw [show flatTo (joinK true L wd jn cp ml ph D) 0 = [] from rfl, List.append_nil]; exact hR.out)⟩
            case round =>
            clear hR
            obtain ⟨j, hj, rfl, hR⟩ := hrel
            have hX : KeepX (w.heap.size + 1 + 1) W1 wr := by obtain ⟨_, _, _, h⟩ := hR.out; exact h
            have hf2 := flatTo_len (joinK true L wd jn cp ml ph D) (fun i => joinK_len _ _ _ _ _ _ _ _ i) j
            have hlen : (flatTo (bodyR L wd) n ++ flatTo (joinK true L wd jn cp ml ph D) j).length ≤ 300000 := by rw [List.length_append]; omega
            by_cases hlt : j < n
            · have hlt2 : (j : Int) < n := by omega
              have M1 := fun k : KW wr => keepq (next_any (w.heap.size + 1 + 1 + 1) (w.heap.size + 1 + 1 + 1 + 1) (some ⟨b, o, none⟩) n c (j + n - 1) L ((j : Int) - 1) k.w ((HC.out _ (hX.step k.keeps)).2.2.2.2.2.2.2.2.1) ((HC.out _ (hX.step k.keeps)).2.2.2.2.2.2.2.2.2) (HP.out _ (HX.out _ (hX.step k.keeps))) (by omega) (by omega) (by omega) (by omega))
              have M2 := fun k : KW wr => keepq (next_any (w.heap.size + 1 + 1 + 1) (w.heap.size + 1 + 1 + 1 + 1) (some ⟨b, o, none⟩) n c (j + 1 + n) L ((j : Int) + 1) k.w ((HC.out _ (hX.step k.keeps)).2.2.2.2.2.2.2.2.1) ((HC.out _ (hX.step k.keeps)).2.2.2.2.2.2.2.2.2) (HP.out _ (HX.out _ (hX.step k.keeps))) (by omega) (by omega) (by omega) (by omega))
              simp only [Nat.add_mod_right] at M2
              have hT := Lib.hid (show flatTo (joinK true L wd jn cp ml ph D) (j + 1) = flatTo (joinK true L wd jn cp ml ph D) j ++ joinL (L.getD ((j + n - 1) % n) pt0) (L.getD j pt0) (L.getD ((j + 1) % n) pt0) wd jn cp ml ph D by rw [flatTo, joinK, hl, if_pos (show joinI true n j = true from rfl)])
              have KJ := Lib.hid (fun w' (hk : Keeps w w') => ljoinF_any (L.getD ((j + n - 1) % n) pt0) (L.getD j pt0) (L.getD ((j + 1) % n) pt0) wd jn cp ml ph Ad nd cd D w' (HI.out _ hk))
              have hjl : (joinL (L.getD ((j + n - 1) % n) pt0) (L.getD j pt0) (L.getD ((j + 1) % n) pt0) wd jn cp ml ph D).length ≤ 1 := joinL_one _ _ _ _ _ _ _ _ _
              have hpw := Lib.hid (show putL (joinL (L.getD ((j + n - 1) % n) pt0) (L.getD j pt0) (L.getD ((j + 1) % n) pt0) wd jn cp ml ph D) = joinL (L.getD ((j + n - 1) % n) pt0) (L.getD j pt0) (L.getD ((j + 1) % n) pt0) wd jn cp ml ph D from putL_wrap _)
              have gp := Lib.hid (hPt.out j hlt)
              generalize L.getD ((j + n - 1) % n) pt0 = r at *
              generalize L.getD j pt0 = p at *
              generalize L.getD ((j + 1) % n) pt0 = q at *
              generalize joinL r p q wd jn cp ml ph D = JL at *
              have M1 := Lib.hid M1
              have M2 := Lib.hid M2
              have HXk := Lib.hid (fun w' (hk : Keeps wr w') => HX.out _ (hX.step hk))
              have z2 : ∀ k : KW wr, k.w.cell? ⟨w.heap.size + 1, 0, none⟩ = some (.int .i64 wd) := fun k => (HC.out _ (hX.step k.keeps)).2.2.1
              have z3 : ∀ k : KW wr, k.w.cell? ⟨w.heap.size + 1, 1, none⟩ = some (.int .i64 jn) := fun k => (HC.out _ (hX.step k.keeps)).2.2.2.1
              have z4 : ∀ k : KW wr, k.w.cell? ⟨w.heap.size + 1, 2, none⟩ = some (.int .i64 cp) := fun k => (HC.out _ (hX.step k.keeps)).2.2.2.2.1
              have z5 : ∀ k : KW wr, k.w.cell? ⟨w.heap.size + 1, 3, none⟩ = some (.int .i64 ml) := fun k => (HC.out _ (hX.step k.keeps)).2.2.2.2.2.1
              have z6 : ∀ k : KW wr, k.w.cell? ⟨w.heap.size + 1, 4, none⟩ = some (.slice Ad nd cd) := fun k => (HC.out _ (hX.step k.keeps)).2.2.2.2.2.2.1
              have z7 : ∀ k : KW wr, k.w.cell? ⟨w.heap.size + 1, 5, none⟩ = some (.int .i64 ph) := fun k => (HC.out _ (hX.step k.keeps)).2.2.2.2.2.2.2.1
              have z8 : ∀ k : KW wr, k.w.cell? ⟨w.heap.size + 1 + 1 + 1, 0, none⟩ = some (.slice (some ⟨b, o, none⟩) n c) := fun k => (HC.out _ (hX.step k.keeps)).2.2.2.2.2.2.2.2.1
              have z20 : ∀ k : KW wr, k.w.cell? ⟨b, o + j * 2, none⟩ = some (.int .i64 p.1) := fun k => (gp.out _ (HXk.out _ k.keeps)).1
              have z21 : ∀ k : KW wr, k.w.cell? ⟨b, o + j * 2 + 1, none⟩ = some (.int .i64 p.2) := fun k => (gp.out _ (HXk.out _ k.keeps)).2
              obtain ⟨y0, y1, y2, y3, y4, y5, y6, y7, y8, y9⟩ := HC.out _ hX
              go_wp2_with fail
              clear y0 y1 y2 y3 y4 y5 y6 y7 y8 y9
              refine wp_region_kept_tail1 (v := ?_) 14 (wr) (by kernel_rfl) (by kernel_rfl) (Keeps.refl _) (Or.inl ⟨by rfl, ?_⟩) (fun _ _ _ h => h) ?_; rotate_left; · (intro w; go_simp; try with_reducible rfl)
              simp only [Act.put, List.setIfInBounds_toArray, List.set_cons_zero, List.set_cons_succ, List.take_succ_cons, List.take_zero, List.drop_succ_cons, List.drop_zero, Nat.reduceSub]
              repeat (first | go_big_quiet_skip | (go_big_quiet_want; go_big_quiet_op; first | go_big_quiet_on | go_big_quiet_call ((go_at_call 31; first | (with_reducible exact M1.out _) | (with_reducible exact M2.out _)))))
              refine wpQuiet_nil ?_
              rintro w' ⟨k9, rfl⟩
              have hk := k9.keeps
              generalize k9.w = w9 at hk ⊢
              clear k9
              have hkn := Lib.hid (HXk.out _ hk)
              clear z2 z3 z4 z5 z6 z7 z8 z20 z21 M1 M2
              go_wp2_with (first | (go_at_call 33; (with_reducible refine (KJ.out _ hkn.out).mono ?_); rintro e w10 ⟨Aj, cj, rfl, hRj, hk10⟩; have hRj := Lib.hid (hRj.low hk.size); have hkk := Lib.hid (hk.trans hk10)) | (go_at_call 29; (with_reducible refine (put_ri hR.out hkk.out hRj.out hbo (by omega)).mono ?_); rintro e w12 ⟨rfl, hR2⟩; have hR2 := Lib.hid hR2))
              go_roundw
              case rel => exact ⟨j + 1, by omega, by go_num, Lib.hid (by rw [hT.out, ← List.append_assoc, ← hpw.out]; exact hR2.out)⟩
              case measure => simp [intOf]; omega
            · obtain rfl : j = n := by omega
              have hR2 := Lib.hid (show RI W1 (w.heap.size + 1 + 1) (flatTo (bodyR L wd) j ++ flatTo (joinK true L wd jn cp ml ph D) j) wr from hR.out)
              obtain ⟨v9, hb9, hF9, hX9⟩ := id hR2.out
              have y9 := hb9.cell
              clear hb9 hF9 hX9
              obtain ⟨y0, y1, y2, y3, y4, y5, y6, y7, y8, y10⟩ := HC.out _ hX
              go_wp2_with fail
              go_ret
              rw [show endsR true L wd cp = [] from rfl, List.append_nil, hl, show segK true j = j from rfl]
              exact RI.ret hR2.out y9 HB.out (by omega)
      | false =>
        go_enter Tryz.func17, Tryz.ntmps17
        go_wp2_with fail
        generalize (((((w.alloc (.cells #[.slice (some ⟨b, o, none⟩) n c, .bool false] 24)).alloc (.cells #[.int .i64 wd, .int .i64 jn, .int .i64 cp, .int .i64 ml, .slice Ad nd cd, .int .i64 ph] 27)).alloc (.cells #[.slice none 0 0] 30)).alloc (.cells #[.slice (some ⟨b, o, none⟩) n c] 22)).alloc (.cells #[.int .i64 n] 3)) = W1 at *
        have HX := Lib.hid (fun w' (h : KeepX (w.heap.size + 1 + 1) W1 w') => h.keeps HB.out (by omega))
        have hbo : w.heap.size + 1 + 1 < W1.heap.size := by omega
        go_loopw [40] (fun i wr => ∃ j : Nat, j ≤ m1 ∧ i = .int .i64 j ∧ Hid (RI W1 (w.heap.size + 1 + 1) (flatTo (bodyR L wd) j) wr)) (fun i _ => m1 - (intOf i).toNat)
        case atStart => exact ⟨0, by omega, rfl, H0⟩
        case round =>
          clear H0
          obtain ⟨j, hj, rfl, hR⟩ := hrel
          have hX : KeepX (w.heap.size + 1 + 1) W1 wr := by obtain ⟨_, _, _, h⟩ := hR.out; exact h
          have hfl := flatTo_len (bodyR L wd) (fun i => wrapL_len _) j
          by_cases hlt : j < m1
          · have hlt2 : (j : Int) < m1 := by omega
            have hjn : j < n := by omega
            have M1 := fun k : KW wr => keepq (next_any (w.heap.size + 1 + 1 + 1) (w.heap.size + 1 + 1 + 1 + 1) (some ⟨b, o, none⟩) n c (j + 1 + n) L ((j : Int) + 1) k.w ((HC.out _ (hX.step k.keeps)).2.2.2.2.2.2.2.2.1) ((HC.out _ (hX.step k.keeps)).2.2.2.2.2.2.2.2.2) (HP.out _ (HX.out _ (hX.step k.keeps))) (by omega) (by omega) (by omega) (by omega))
            simp only [Nat.add_mod_right] at M1
            have hT := Lib.hid (show flatTo (bodyR L wd) (j + 1) = flatTo (bodyR L wd) j ++ wrapL (bodyL (L.getD j pt0) (L.getD ((j + 1) % n) pt0) wd) by rw [flatTo, bodyR, hl])
            have gp := Lib.hid (hPt.out j hjn)
            have KB := Lib.hid (fun w => body_any (L.getD j pt0) (L.getD ((j + 1) % n) pt0) wd w)
            have hbk := Lib.hid (bodyL_ok (L.getD j pt0) (L.getD ((j + 1) % n) pt0) wd)
            have hbl := bodyL_len (L.getD j pt0) (L.getD ((j + 1) % n) pt0) wd
            generalize L.getD j pt0 = p at *
            generalize L.getD ((j + 1) % n) pt0 = q at *
            generalize bodyL p q wd = X at *
            have M1 := Lib.hid M1
            have HXk := Lib.hid (fun w' (hk : Keeps wr w') => HX.out _ (hX.step hk))
            have z2 : ∀ k : KW wr, k.w.cell? ⟨w.heap.size + 1, 0, none⟩ = some (.int .i64 wd) := fun k => (HC.out _ (hX.step k.keeps)).2.2.1
            have z3 : ∀ k : KW wr, k.w.cell? ⟨w.heap.size + 1, 1, none⟩ = some (.int .i64 jn) := fun k => (HC.out _ (hX.step k.keeps)).2.2.2.1
            have z4 : ∀ k : KW wr, k.w.cell? ⟨w.heap.size + 1, 2, none⟩ = some (.int .i64 cp) := fun k => (HC.out _ (hX.step k.keeps)).2.2.2.2.1
            have z5 : ∀ k : KW wr, k.w.cell? ⟨w.heap.size + 1, 3, none⟩ = some (.int .i64 ml) := fun k => (HC.out _ (hX.step k.keeps)).2.2.2.2.2.1
            have z6 : ∀ k : KW wr, k.w.cell? ⟨w.heap.size + 1, 4, none⟩ = some (.slice Ad nd cd) := fun k => (HC.out _ (hX.step k.keeps)).2.2.2.2.2.2.1
            have z7 : ∀ k : KW wr, k.w.cell? ⟨w.heap.size + 1, 5, none⟩ = some (.int .i64 ph) := fun k => (HC.out _ (hX.step k.keeps)).2.2.2.2.2.2.2.1
            have z8 : ∀ k : KW wr, k.w.cell? ⟨w.heap.size + 1 + 1 + 1, 0, none⟩ = some (.slice (some ⟨b, o, none⟩) n c) := fun k => (HC.out _ (hX.step k.keeps)).2.2.2.2.2.2.2.2.1
            have z20 : ∀ k : KW wr, k.w.cell? ⟨b, o + j * 2, none⟩ = some (.int .i64 p.1) := fun k => (gp.out _ (HXk.out _ k.keeps)).1
            have z21 : ∀ k : KW wr, k.w.cell? ⟨b, o + j * 2 + 1, none⟩ = some (.int .i64 p.2) := fun k => (gp.out _ (HXk.out _ k.keeps)).2
            have hlen2 : X.length ≤ 4611686018427387904 := by omega
            generalize flatTo (bodyR L wd) j = LL at *
            go_wp2_with fail
            refine wp_region_kept_tail1 (v := ?_) 11 (wr) (by kernel_rfl) (by kernel_rfl) (Keeps.refl _) (Or.inl ⟨by rfl, ?_⟩) (fun _ _ _ h => h) ?_; rotate_left; · (intro w; go_simp; try with_reducible rfl)
            simp only [Act.put, List.setIfInBounds_toArray, List.set_cons_zero, List.set_cons_succ, List.take_succ_cons, List.take_zero, List.drop_succ_cons, List.drop_zero, Nat.reduceSub]
            repeat (first | go_big_quiet_skip | (go_big_quiet_want; go_big_quiet_op; first | go_big_quiet_on | go_big_quiet_call ((go_at_call 31; first | (with_reducible exact M1.out _)))))
            refine wpQuiet_nil ?_
            rintro w' ⟨k9, rfl⟩
            have hk := k9.keeps
            generalize k9.w = w9 at hk ⊢
            clear k9
            clear z2 z3 z4 z5 z6 z7 z8 z20 z21 M1
            go_wp2_with (first | (go_at_call 32; (with_reducible refine (KB.out _).mono ?_); rintro e w10 ⟨v, rfl, ho, hk10⟩; obtain ⟨Ax, cx, rfl, hPx⟩ := Pts.of_own ho rfl hbk.out; have hfx := Lib.hid (own_nw hk.size ho); have hPx := Lib.hid hPx; have hkk := Lib.hid (hk.trans hk10)) | (go_at_call 29; (with_reducible refine (put_ri (PP := [X]) hR.out (hkk.out.alloc _) (RwsU.one hPx.out hlen2 hfx.out hkk.out.size _) hbo (by simp; omega)).mono ?_); rintro e w12 ⟨rfl, hR2⟩; rw [putL_one] at hR2; have hR2 := Lib.hid hR2))
            go_roundw
            case rel => exact ⟨j + 1, by omega, by go_num, Lib.hid (by rw [hT.out]; exact hR2.out)⟩
            case measure => simp [intOf]; omega
          · have hjK : j = m1 := by omega
            replace hjK := hjK.symm
            subst hjK
            obtain ⟨y0, y1, y2, y3, y4, y5, y6, y7, y8, y9⟩ := HC.out _ hX
            have hgo : ¬ (m1 : Int) < m1 := by omega
            go_wp2_with fail
            clear y0 y1 y2 y3 y4 y5 y6 y7 y8 y9 hX
            go_loopw [59] (fun i wr => ∃ j : Nat, j ≤ n ∧ i = .int .i64 j ∧ Hid (RI W1 (w.heap.size + 1 + 1) (flatTo (bodyR L wd) m1 ++ flatTo (joinK false L wd jn cp ml ph D) j) wr)) (fun i _ => n - (intOf i).toNat)
            case atStart => exact ⟨0, by omega, rfl, Lib.hid (by rw [show flatTo (joinK false L wd jn cp ml ph D) 0 = [] from rfl, List.append_nil]; exact hR.out)⟩
            case round =>
            clear hR
            obtain ⟨j, hj, rfl, hR⟩ := hrel
            have hX : KeepX (w.heap.size + 1 + 1) W1 wr := by obtain ⟨_, _, _, h⟩ := hR.out; exact h
            have hf2 := flatTo_len (joinK false L wd jn cp ml ph D) (fun i => joinK_len _ _ _ _ _ _ _ _ i) j
            have hlen : (flatTo (bodyR L wd) m1 ++ flatTo (joinK false L wd jn cp ml ph D) j).length ≤ 300000 := by rw [List.length_append]; omega
            by_cases hlt : j < n
            · have hlt2 : (j : Int) < n := by omega
              by_cases hin : 0 < j ∧ j + 1 < n
              · have hi1 : (0 : Int) < j := by omega
                have hi2 : (j : Int) < m1 := by omega
                have M1 := fun k : KW wr => keepq (next_any (w.heap.size + 1 + 1 + 1) (w.heap.size + 1 + 1 + 1 + 1) (some ⟨b, o, none⟩) n c (j + n - 1) L ((j : Int) - 1) k.w ((HC.out _ (hX.step k.keeps)).2.2.2.2.2.2.2.2.1) ((HC.out _ (hX.step k.keeps)).2.2.2.2.2.2.2.2.2) (HP.out _ (HX.out _ (hX.step k.keeps))) (by omega) (by omega) (by omega) (by omega))
                have M2 := fun k : KW wr => keepq (next_any (w.heap.size + 1 + 1 + 1) (w.heap.size + 1 + 1 + 1 + 1) (some ⟨b, o, none⟩) n c (j + 1 + n) L ((j : Int) + 1) k.w ((HC.out _ (hX.step k.keeps)).2.2.2.2.2.2.2.2.1) ((HC.out _ (hX.step k.keeps)).2.2.2.2.2.2.2.2.2) (HP.out _ (HX.out _ (hX.step k.keeps))) (by omega) (by omega) (by omega) (by omega))
                simp only [Nat.add_mod_right] at M2
                have hT := Lib.hid (show flatTo (joinK false L wd jn cp ml ph D) (j + 1) = flatTo (joinK false L wd jn cp ml ph D) j ++ joinL (L.getD ((j + n - 1) % n) pt0) (L.getD j pt0) (L.getD ((j + 1) % n) pt0) wd jn cp ml ph D by rw [flatTo, joinK, hl, if_pos (show joinI false n j = true by unfold joinI; simp; omega)])
                have KJ := Lib.hid (fun w' (hk : Keeps w w') => ljoinF_any (L.getD ((j + n - 1) % n) pt0) (L.getD j pt0) (L.getD ((j + 1) % n) pt0) wd jn cp ml ph Ad nd cd D w' (HI.out _ hk))
                have hjl : (joinL (L.getD ((j + n - 1) % n) pt0) (L.getD j pt0) (L.getD ((j + 1) % n) pt0) wd jn cp ml ph D).length ≤ 1 := joinL_one _ _ _ _ _ _ _ _ _
                have hpw := Lib.hid (show putL (joinL (L.getD ((j + n - 1) % n) pt0) (L.getD j pt0) (L.getD ((j + 1) % n) pt0) wd jn cp ml ph D) = joinL (L.getD ((j + n - 1) % n) pt0) (L.getD j pt0) (L.getD ((j + 1) % n) pt0) wd jn cp ml ph D from putL_wrap _)
                have gp := Lib.hid (hPt.out j hlt)
                generalize L.getD ((j + n - 1) % n) pt0 = r at *
                generalize L.getD j pt0 = p at *
                generalize L.getD ((j + 1) % n) pt0 = q at *
                generalize joinL r p q wd jn cp ml ph D = JL at *
                have M1 := Lib.hid M1
                have M2 := Lib.hid M2
                have HXk := Lib.hid (fun w' (hk : Keeps wr w') => HX.out _ (hX.step hk))
                have z2 : ∀ k : KW wr, k.w.cell? ⟨w.heap.size + 1, 0, none⟩ = some (.int .i64 wd) := fun k => (HC.out _ (hX.step k.keeps)).2.2.1
                have z3 : ∀ k : KW wr, k.w.cell? ⟨w.heap.size + 1, 1, none⟩ = some (.int .i64 jn) := fun k => (HC.out _ (hX.step k.keeps)).2.2.2.1
                have z4 : ∀ k : KW wr, k.w.cell? ⟨w.heap.size + 1, 2, none⟩ = some (.int .i64 cp) := fun k => (HC.out _ (hX.step k.keeps)).2.2.2.2.1
                have z5 : ∀ k : KW wr, k.w.cell? ⟨w.heap.size + 1, 3, none⟩ = some (.int .i64 ml) := fun k => (HC.out _ (hX.step k.keeps)).2.2.2.2.2.1
                have z6 : ∀ k : KW wr, k.w.cell? ⟨w.heap.size + 1, 4, none⟩ = some (.slice Ad nd cd) := fun k => (HC.out _ (hX.step k.keeps)).2.2.2.2.2.2.1
                have z7 : ∀ k : KW wr, k.w.cell? ⟨w.heap.size + 1, 5, none⟩ = some (.int .i64 ph) := fun k => (HC.out _ (hX.step k.keeps)).2.2.2.2.2.2.2.1
                have z8 : ∀ k : KW wr, k.w.cell? ⟨w.heap.size + 1 + 1 + 1, 0, none⟩ = some (.slice (some ⟨b, o, none⟩) n c) := fun k => (HC.out _ (hX.step k.keeps)).2.2.2.2.2.2.2.2.1
                have z20 : ∀ k : KW wr, k.w.cell? ⟨b, o + j * 2, none⟩ = some (.int .i64 p.1) := fun k => (gp.out _ (HXk.out _ k.keeps)).1
                have z21 : ∀ k : KW wr, k.w.cell? ⟨b, o + j * 2 + 1, none⟩ = some (.int .i64 p.2) := fun k => (gp.out _ (HXk.out _ k.keeps)).2
                obtain ⟨y0, y1, y2, y3, y4, y5, y6, y7, y8, y9⟩ := HC.out _ hX
                go_wp2_with fail
                clear y0 y1 y2 y3 y4 y5 y6 y7 y8 y9
                refine wp_region_kept_tail1 (v := ?_) 14 (wr) (by kernel_rfl) (by kernel_rfl) (Keeps.refl _) (Or.inl ⟨by rfl, ?_⟩) (fun _ _ _ h => h) ?_; rotate_left; · (intro w; go_simp; try with_reducible rfl)
                simp only [Act.put, List.setIfInBounds_toArray, List.set_cons_zero, List.set_cons_succ, List.take_succ_cons, List.take_zero, List.drop_succ_cons, List.drop_zero, Nat.reduceSub]
                repeat (first | go_big_quiet_skip | (go_big_quiet_want; go_big_quiet_op; first | go_big_quiet_on | go_big_quiet_call ((go_at_call 31; first | (with_reducible exact M1.out _) | (with_reducible exact M2.out _)))))
                refine wpQuiet_nil ?_
                rintro w' ⟨k9, rfl⟩
                have hk := k9.keeps
                generalize k9.w = w9 at hk ⊢
                clear k9
                have hkn := Lib.hid (HXk.out _ hk)
                clear z2 z3 z4 z5 z6 z7 z8 z20 z21 M1 M2
                go_wp2_with (first | (go_at_call 33; (with_reducible refine (KJ.out _ hkn.out).mono ?_); rintro e w10 ⟨Aj, cj, rfl, hRj, hk10⟩; have hRj := Lib.hid (hRj.low hk.size); have hkk := Lib.hid (hk.trans hk10)) | (go_at_call 29; (with_reducible refine (put_ri hR.out hkk.out hRj.out hbo (by omega)).mono ?_); rintro e w12 ⟨rfl, hR2⟩; have hR2 := Lib.hid hR2))
                go_roundw
                case rel => exact ⟨j + 1, by omega, by go_num, Lib.hid (by rw [hT.out, ← List.append_assoc, ← hpw.out]; exact hR2.out)⟩
                case measure => simp [intOf]; omega
              · rcases (show j = 0 ∨ (0 < j ∧ j = m1) by omega) with hj0 | ⟨hj0, hj1⟩
                · have hi1 : ¬ (0 : Int) < j := by omega
                  have hT := Lib.hid (show flatTo (joinK false L wd jn cp ml ph D) (j + 1) = flatTo (joinK false L wd jn cp ml ph D) j by rw [flatTo, joinK, hl, if_neg (show ¬ joinI false n j = true by unfold joinI; simp; omega), List.append_nil])
                  obtain ⟨y0, y1, y2, y3, y4, y5, y6, y7, y8, y9⟩ := HC.out _ hX
                  go_wp2_with fail
                  go_roundw
                  case rel => exact ⟨j + 1, by omega, by go_num, Lib.hid (by rw [hT.out]; exact hR.out)⟩
                  case measure => simp [intOf]; omega
                · have hi1 : (0 : Int) < j := by omega
                  have hi2 : ¬ (j : Int) < m1 := by omega
                  have hT := Lib.hid (show flatTo (joinK false L wd jn cp ml ph D) (j + 1) = flatTo (joinK false L wd jn cp ml ph D) j by rw [flatTo, joinK, hl, if_neg (show ¬ joinI false n j = true by unfold joinI; simp; omega), List.append_nil])
                  obtain ⟨y0, y1, y2, y3, y4, y5, y6, y7, y8, y9⟩ := HC.out _ hX
                  go_wp2_with fail
                  go_roundw
                  case rel => exact ⟨j + 1, by omega, by go_num, Lib.hid (by rw [hT.out]; exact hR.out)⟩
                  case measure => simp [intOf]; omega
            · obtain rfl : j = n := by omega
              have hmx : m1 < j := by omega
              have hmy : m2 < j := by omega
              have hRr := Lib.hid hR.out
              have K1 := Lib.hid (fun w => end_any (L.getD 1 pt0) (L.getD 0 pt0) wd jn cp ml ph Ad nd cd w)
              have K2 := Lib.hid (fun w => end_any (L.getD m2 pt0) (L.getD m1 pt0) wd jn cp ml ph Ad nd cd w)
              have ok1 := Lib.hid (endL_ok (L.getD 1 pt0) (L.getD 0 pt0) wd cp)
              have ok2 := Lib.hid (endL_ok (L.getD m2 pt0) (L.getD m1 pt0) wd cp)
              have ln1 := endL_len (L.getD 1 pt0) (L.getD 0 pt0) wd cp
              have ln2 := endL_len (L.getD m2 pt0) (L.getD m1 pt0) wd cp
              have hE := Lib.hid (show endsR false L wd cp = wrapL (endL (L.getD 1 pt0) (L.getD 0 pt0) wd cp) ++ wrapL (endL (L.getD m2 pt0) (L.getD m1 pt0) wd cp) by unfold endsR; rw [if_neg (by decide), hl, show j - 2 = m2 by omega, show j - 1 = m1 by omega])
              have g1 := hPt.out 1 (by omega)
              have g0 := hPt.out 0 (by omega)
              have gx := hPt.out m1 hmx
              have gy := hPt.out m2 hmy
              rw [Nat.zero_mul, Nat.add_zero] at g0
              rw [Nat.one_mul] at g1
              generalize L.getD 1 pt0 = p1 at *
              generalize L.getD 0 pt0 = p0 at *
              generalize L.getD m1 pt0 = px at *
              generalize L.getD m2 pt0 = py at *
              generalize endL p1 p0 wd cp = X1 at *
              generalize endL py px wd cp = X2 at *
              have HT := Lib.hid (show ∀ w', KeepX (w.heap.size + 1 + 1) W1 w' → (w'.cell? ⟨w.heap.size + 1 + 1 + 1, 0, none⟩ = some (.slice (some ⟨b, o, none⟩) j c) ∧ w'.cell? ⟨w.heap.size + 1 + 1 + 1 + 1, 0, none⟩ = some (.int .i64 j) ∧ w'.cell? ⟨b, o, none⟩ = some (.int .i64 p0.1) ∧ w'.cell? ⟨b, o + 1, none⟩ = some (.int .i64 p0.2) ∧ w'.cell? ⟨b, o + 2, none⟩ = some (.int .i64 p1.1) ∧ w'.cell? ⟨b, o + 2 + 1, none⟩ = some (.int .i64 p1.2) ∧ w'.cell? ⟨b, o + m1 * 2, none⟩ = some (.int .i64 px.1) ∧ w'.cell? ⟨b, o + m1 * 2 + 1, none⟩ = some (.int .i64 px.2) ∧ w'.cell? ⟨b, o + m2 * 2, none⟩ = some (.int .i64 py.1) ∧ w'.cell? ⟨b, o + m2 * 2 + 1, none⟩ = some (.int .i64 py.2)) from fun w' hk => by
                have hx := HX.out _ hk
                have hc := HC.out _ hk
                exact ⟨hc.2.2.2.2.2.2.2.2.1, hc.2.2.2.2.2.2.2.2.2, (g0 _ hx).1, (g0 _ hx).2, (g1 _ hx).1, (g1 _ hx).2, (gx _ hx).1, (gx _ hx).2, (gy _ hx).1, (gy _ hx).2⟩)
              obtain ⟨y0, y1, y2, y3, y4, y5, y6, y7, y8, y9⟩ := HC.out _ hX
              clear g0 g1 gx gy hR
              go_wp2_with fail
              clear y0 y1 y2 y3 y4 y5 y6 y7 y8 y9
              have hk := Keeps.refl wr
              have hXh := Lib.hid hX
              clear hX
              go_region_held3 (fun w' => (w'.cell? ⟨w.heap.size + 1 + 1 + 1, 0, none⟩ = some (.slice (some ⟨b, o, none⟩) j c) ∧ w'.cell? ⟨w.heap.size + 1 + 1 + 1 + 1, 0, none⟩ = some (.int .i64 j) ∧ w'.cell? ⟨b, o, none⟩ = some (.int .i64 p0.1) ∧ w'.cell? ⟨b, o + 1, none⟩ = some (.int .i64 p0.2) ∧ w'.cell? ⟨b, o + 2, none⟩ = some (.int .i64 p1.1) ∧ w'.cell? ⟨b, o + 2 + 1, none⟩ = some (.int .i64 p1.2) ∧ w'.cell? ⟨b, o + m1 * 2, none⟩ = some (.int .i64 px.1) ∧ w'.cell? ⟨b, o + m1 * 2 + 1, none⟩ = some (.int .i64 px.2) ∧ w'.cell? ⟨b, o + m2 * 2, none⟩ = some (.int .i64 py.1) ∧ w'.cell? ⟨b, o + m2 * 2 + 1, none⟩ = some (.int .i64 py.2))) (first | exact HT.out _ hX2 | exact HT.out _ (hXh.out.step (by first | assumption | exact Keeps.drew (by assumption) | exact Keeps.drewN (by assumption) _)) | exact HT.out _ (hXh.out.step (Keeps.alloc (by first | assumption | exact Keeps.drew (by assumption) | exact Keeps.drewN (by assumption) _) _)) | exact HT.out _ (hXh.out.step (Keeps.drew (Keeps.alloc (by first | assumption | exact Keeps.drew (by assumption) | exact Keeps.drewN (by assumption) _) _))) | go_keep) (first | (go_at_call 34; (first | ((with_reducible refine (K1.out _).mono ?_); rintro e wa ⟨va, rfl, hoa, hka⟩; obtain ⟨Aa, ca, rfl, hPa⟩ := Pts.of_own hoa rfl ok1.out; have hfa := Lib.hid (own_nw (Keeps.size (w0 := wr) (by first | assumption | exact Keeps.drew (by assumption) | exact Keeps.drewN (by assumption) _)) hoa); have HPa := Lib.hid (fun w' (hq : Keeps wa w') => hPa.keep hq); replace hk : Keeps wr wa := Keeps.trans (by first | assumption | exact Keeps.drew (by assumption) | exact Keeps.drewN (by assumption) _) hka; clear hPa hoa hka) | ((with_reducible refine (K2.out _).mono ?_); rintro e wb ⟨vb, rfl, hob, hkb⟩; obtain ⟨Ab, cb, rfl, hPb⟩ := Pts.of_own hob rfl ok2.out; have hfb := Lib.hid (own_nw (Keeps.size (w0 := wr) (by first | assumption | exact Keeps.drew (by assumption) | exact Keeps.drewN (by assumption) _)) hob); have hPA := Lib.hid (HPa.out wb (Keeps.trans (by first | exact Keeps.refl _ | exact (Keeps.refl _).drew | exact (Keeps.refl _).drewN _) hkb)); have hfa := Lib.hid (nw_keep hfa.out (show Keeps wa wb from Keeps.trans (by first | exact Keeps.refl _ | exact (Keeps.refl _).drew | exact (Keeps.refl _).drewN _) hkb)); have hPB := Lib.hid hPb; replace hk : Keeps wr wb := Keeps.trans (by first | assumption | exact Keeps.drew (by assumption) | exact Keeps.drewN (by assumption) _) hkb; clear hPb hob hkb) | fail "ENDS")) | (go_at_call 29; (with_reducible refine (put_ri (PP := [X1, X2]) hRr.out (Keeps.alloc hk _) (RwsU.two hPA.out (by omega) hfa.out hPB.out (by omega) hfb.out hk.size _) hbo (by simp; omega)).mono ?_); rintro e w12 ⟨rfl, hR2⟩; have hX2 : KeepX (w.heap.size + 1 + 1) W1 w12 := (by obtain ⟨_, _, _, h⟩ := hR2; exact h); have hR2 := Lib.hid hR2) | fail "ARM")
              obtain ⟨v9, hb9, hF9, hX9⟩ := id hR2.out
              have y9 := hb9.cell
              clear hb9 hF9 hX9
              go_wp2_with fail
              go_ret
              have hR3 := hR2.out
              rw [show putL [X1, X2] = wrapL X1 ++ wrapL X2 by unfold putL putL putL; rw [List.append_nil]] at hR3
              rw [hE.out, hl, show segK false j = m1 from (show j - 1 = m1 by omega)]
              exact RI.ret hR3 y9 HB.out (by omega)

end
end Go.Proofs.YtdodgnpjlicnoaaGreat
