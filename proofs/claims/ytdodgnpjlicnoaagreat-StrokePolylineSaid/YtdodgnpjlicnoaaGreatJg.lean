/- Contracts of references 23's and 24's Same and of linejoin.some; the plain join. -/
import Derived.Test.YtdodgnpjlicnoaaGreatJf
import Derived.Test.YtdodgnpjlicnoaaGreatBu
import Derived.Test.YtdodgnpjlicnoaaGreatQp
namespace Go.Proofs.YtdodgnpjlicnoaaGreat
open Go.RowKit
attribute [local go_sem ↓] Go.wp_at_zero Go.wp_at_succ
set_option linter.unusedVariables false
set_option linter.unusedSimpArgs false
set_option maxRecDepth 100000 in
set_option maxHeartbeats 4000000 in
theorem same24_any (A B : Option Addr) (n c c2 : Nat) (LL : List (List Pt)) (w : World) (h : Rws w A n c LL) (h2 : Rws w B n c2 LL) :
    Calls Tryz.prog 10 #[.slice A n c, .slice B n c2] w fun e w' => e = .returned (.bool true) ∧ Keeps w w' := by
  have g3 := ptGuard
  have g5 := ptNeq
  have hmx := h.max
  have HA := Lib.hid h
  have HB := Lib.hid h2
  clear h h2
  go_enter Tryz.func10, Tryz.ntmps10
  go_wp2_with fail
  go_loopw [5] (fun i wr => ∃ j : Nat, j ≤ n ∧ i = .int .i64 j ∧ Keeps w wr) (fun i _ => n - (intOf i).toNat)
  case atStart => exact ⟨0, by omega, rfl, Keeps.refl _⟩
  case round =>
    obtain ⟨j, hj, rfl, hkw⟩ := hrel
    by_cases hlt : j < n
    · obtain ⟨b1, o1, rfl, hb1, hc1⟩ := HA.out.2.2.2 (by omega)
      obtain ⟨b2, o2, rfl, hb2, hc2⟩ := HB.out.2.2.2 (by omega)
      obtain ⟨Aj, nj, cj, e1, P1, l1⟩ := hc1 j hlt
      obtain ⟨Bj, mj, dj, e2, P2, _⟩ := hc2 j hlt
      obtain rfl : nj = mj := P1.1.symm.trans P2.1
      have z1 := (hkw.cell hb1).trans e1
      have z2 := (hkw.cell hb2).trans e2
      have Q1 := Lib.hid P1
      have Q2 := Lib.hid P2
      have hlt2 : (j : Int) < n := by omega
      have hnj : (nj : Int) ≤ 4611686018427387904 := by omega
      have q0 : ((nj : Int) == nj) = true := beq_self_eq_true _
      have q1 : ((nj : Int) != nj) = false := by simp
      have hE := Lib.hid (And.intro e1 e2)
      clear hc1 hc2 P1 P2 e1 e2
      rename World => wo
      go_wp2_with fail
      go_quiet (fail)
      go_wp2_with fail
      go_loopw [6] (fun i wr => ∃ k : Nat, k ≤ nj ∧ i = .int .i64 k ∧ Keeps wo wr) (fun i _ => nj - (intOf i).toNat)
      case atStart => exact ⟨0, by omega, rfl, (Keeps.refl _).drewN _⟩
      case round =>
        obtain ⟨k, hk, rfl, hkr⟩ := hrel
        have hkk := hkw.trans hkr
        have z1 := (hkk.cell hb1).trans hE.out.1
        have z2 := (hkk.cell hb2).trans hE.out.2
        by_cases hlk : k < nj
        · obtain ⟨bb1, oo1, rfl, hbb1, hcc1⟩ := Q1.out.2.2.2.2 (by omega)
          obtain ⟨bb2, oo2, rfl, hbb2, hcc2⟩ := Q2.out.2.2.2.2 (by omega)
          obtain ⟨c0, c1⟩ := (hcc1 k hlk).keep hbb1 hkk
          obtain ⟨d0, d1⟩ := (hcc2 k hlk).keep hbb2 hkk
          have hlk2 : (k : Int) < nj := by omega
          clear hcc1 hcc2
          generalize (LL.getD j []).getD k pt0 = p at *
          have t1 : (p.1 == p.1) = true := beq_self_eq_true _
          have t2 : (p.2 == p.2) = true := beq_self_eq_true _
          go_wp2_with fail
          go_quiet (fail)
          go_wp2_with fail
          go_roundw
          case rel => exact ⟨k + 1, by omega, by go_num, hkr.drewN _⟩
          case measure => simp [intOf]; omega
        · obtain rfl : k = nj := by omega
          go_wp2_with fail
          go_roundw
          case rel => exact ⟨j + 1, by omega, by go_num, hkk⟩
          case measure => simp [intOf]; omega
    · obtain rfl : j = n := by omega
      go_wp2_with fail
      go_ret
      exact ⟨rfl, hkw⟩
def wrapL (L : List Pt) : List (List Pt) := if L.length = 0 then [] else [L]
def RetJ (w0 : World) (LL : List (List Pt)) (e : Ending) (w' : World) : Prop := ∃ A c, e = .returned (.slice A LL.length c) ∧ Rws w' A LL.length c LL ∧ Keeps w0 w'
theorem Rws.nil (w : World) : Rws w none 0 0 [] := ⟨rfl, Nat.le_refl _, Nat.zero_le _, fun h => absurd h (by simp)⟩
theorem RetJ.nil {w0 w' : World} (hk : Keeps w0 w') : RetJ w0 [] (.returned (.slice none 0 0)) w' := ⟨none, 0, rfl, Rws.nil _, hk⟩
theorem Rws.lone (w : World) (A : Option Addr) (n c : Nat) (L : List Pt) (t : TypeId) (h : Pts w A n c L) (hn : n ≤ 4611686018427387904) : Rws (w.alloc (.cells #[.slice A n c] t)) (some ⟨w.heap.size, 0, none⟩) 1 1 [L] :=
  ⟨rfl, Nat.le_refl _, by unfold maxLen; omega, fun _ => ⟨_, _, rfl, by simp, fun k hk => by
    obtain rfl : k = 0 := by omega
    exact ⟨A, n, c, by simp, h.keep ((Keeps.refl _).alloc _), hn⟩⟩⟩
set_option maxRecDepth 100000 in
set_option maxHeartbeats 1000000 in
theorem some_any (A : Option Addr) (n c : Nat) (L : List Pt) (w : World) (h : Pts w A n c L) (hn : n ≤ 4611686018427387904) :
    Calls Tryz.prog 54 #[.slice A n c] w (RetJ w (wrapL L)) := by
  have hl := h.1
  have hni : (n : Int) ≤ 4611686018427387904 := by omega
  by_cases h0 : n = 0
  · subst h0
    rw [show wrapL L = [] by unfold wrapL; rw [if_pos hl]]
    clear h
    go_enter Tryz.func54, Tryz.ntmps54
    go_wp2_with fail
    go_ret
    exact RetJ.nil (Keeps.refl _)
  · rw [show wrapL L = [L] by unfold wrapL; rw [if_neg (by omega)]]
    have q0 : ((n : Int) == 0) = false := by rw [beq_eq_false_iff_ne]; omega
    have HR := Lib.hid (Rws.lone w A n c L 22 h hn)
    clear h
    go_enter Tryz.func54, Tryz.ntmps54
    go_wp2_with fail
    go_ret
    exact ⟨_, _, rfl, HR.out, (Keeps.refl _).alloc _⟩
def RwsB (B : Nat) (w : World) (A : Option Addr) (n c : Nat) (LL : List (List Pt)) : Prop :=
  LL.length = n ∧ n ≤ c ∧ c ≤ maxLen ∧ (0 < n → ∃ b o, A = some ⟨b, o, none⟩ ∧ B ≤ b ∧ b < w.heap.size ∧ ∀ k, k < n → ∃ Ak nk ck, w.cell? ⟨b, o + k, none⟩ = some (.slice Ak nk ck) ∧ Pts w Ak nk ck (LL.getD k []) ∧ nk ≤ 4611686018427387904 ∧ ∀ a, Ak = some a → B ≤ a.block)
theorem RwsB.rws {B : Nat} {w : World} {A : Option Addr} {n c : Nat} {LL : List (List Pt)} (h : RwsB B w A n c LL) : Rws w A n c LL := by
  obtain ⟨h1, h2, h3, h4⟩ := h
  refine ⟨h1, h2, h3, fun hn => ?_⟩
  obtain ⟨b, o, e, _, hb, hc⟩ := h4 hn
  refine ⟨b, o, e, hb, fun k hk => ?_⟩
  obtain ⟨Ak, nk, ck, e1, hP, l1, _⟩ := hc k hk
  exact ⟨Ak, nk, ck, e1, hP, l1⟩
theorem Pts.step {B : Nat} {w w' : World} {A : Option Addr} {n c : Nat} {L : List Pt} (h : Pts w A n c L) (hs : w.heap.size ≤ w'.heap.size) (hc : ∀ p : Addr, B ≤ p.block → p.block < w.heap.size → w'.cell? p = w.cell? p) (hf : ∀ a, A = some a → B ≤ a.block) : Pts w' A n c L := by
  obtain ⟨h1, h2, h3, h4, h5⟩ := h
  refine ⟨h1, h2, h3, h4, fun hn => ?_⟩
  obtain ⟨b, o, e, hb, hx⟩ := h5 hn
  have hB := hf _ e
  refine ⟨b, o, e, by omega, fun k hk => ⟨(hc ⟨b, o + k * 2, none⟩ hB hb).trans (hx k hk).1, (hc ⟨b, o + k * 2 + 1, none⟩ hB hb).trans (hx k hk).2⟩⟩
/-- Fresh blocks stand where old ones are written. -/
theorem RwsB.step {B : Nat} {w w' : World} {A : Option Addr} {n c : Nat} {LL : List (List Pt)} (h : RwsB B w A n c LL) (hs : w.heap.size ≤ w'.heap.size) (hc : ∀ p : Addr, B ≤ p.block → p.block < w.heap.size → w'.cell? p = w.cell? p) : RwsB B w' A n c LL := by
  obtain ⟨h1, h2, h3, h4⟩ := h
  refine ⟨h1, h2, h3, fun hn => ?_⟩
  obtain ⟨b, o, e, hB, hb, hx⟩ := h4 hn
  refine ⟨b, o, e, hB, by omega, fun k hk => ?_⟩
  obtain ⟨Ak, nk, ck, e1, hP, l1, hf⟩ := hx k hk
  exact ⟨Ak, nk, ck, (hc ⟨b, o + k, none⟩ hB hb).trans e1, hP.step hs hc hf, l1, hf⟩
theorem RwsB.keep {B : Nat} {w w' : World} {A : Option Addr} {n c : Nat} {LL : List (List Pt)} (h : RwsB B w A n c LL) (hk : Keeps w w') : RwsB B w' A n c LL := h.step hk.size (fun p _ hp => hk.cell hp)
theorem RwsB.nil (B : Nat) (w : World) : RwsB B w none 0 0 [] := ⟨rfl, Nat.le_refl _, Nat.zero_le _, fun h => absurd h (by simp)⟩
/-- what a function returns that makes its rings in new memory -/
def RetF (w0 : World) (LL : List (List Pt)) (e : Ending) (w' : World) : Prop := ∃ A c, e = .returned (.slice A LL.length c) ∧ RwsB w0.heap.size w' A LL.length c LL ∧ Keeps w0 w'
theorem RetF.retJ {w0 w' : World} {LL : List (List Pt)} {e : Ending} (h : RetF w0 LL e w') : RetJ w0 LL e w' := by
  obtain ⟨A, c, he, hR, hk⟩ := h
  exact ⟨A, c, he, hR.rws, hk⟩
theorem RetF.nil {w0 w' : World} (hk : Keeps w0 w') : RetF w0 [] (.returned (.slice none 0 0)) w' := ⟨none, 0, rfl, RwsB.nil _ _, hk⟩
/-- a block of new memory that may be written -/
def Nw (B : Nat) (w : World) (a : Addr) : Prop := B ≤ a.block ∧ a.block < w.heap.size ∧ ∀ j, w.frozen? ⟨a.block, j, none⟩ = false
theorem Nw.keep {B : Nat} {w w' : World} {a : Addr} (h : Nw B w a) (hk : Keeps w w') : Nw B w' a :=
  ⟨h.1, Nat.lt_of_lt_of_le h.2.1 hk.size, fun j => (hk.frozen (p := ⟨a.block, j, none⟩) h.2.1).trans (h.2.2 j)⟩
theorem nw_keep {B : Nat} {w w' : World} {A : Option Addr} (h : ∀ a, A = some a → Nw B w a) (hk : Keeps w w') : ∀ a, A = some a → Nw B w' a := fun a ha => (h a ha).keep hk
theorem own_nw {w : World} {B B2 n c size : Nat} {e : TypeId} {A : Option Addr} {xs : List Value} (hB : B2 ≤ B) (h : w.ownsRow B e size (.slice A n c) n xs) : ∀ a, A = some a → Nw B2 w a := by
  intro a ha
  have hb := own_blocks h a ha
  refine ⟨Nat.le_trans hB hb.1, hb.2, fun j => ?_⟩
  rcases h.2 with ⟨h', _⟩ | ⟨g, cap, cur, h', _, hg, _⟩
  · subst ha; cases h'
  · obtain ⟨h1, _⟩ : A = some ⟨g, 0, none⟩ ∧ c = cap := by simpa using h'
    rw [ha] at h1
    obtain rfl : a = ⟨g, 0, none⟩ := by simpa using h1
    unfold World.frozen?
    rw [hg]
    simp
/-- rings in new memory that may be written -/
def RwsU (B : Nat) (w : World) (A : Option Addr) (n c : Nat) (LL : List (List Pt)) : Prop :=
  LL.length = n ∧ n ≤ c ∧ c ≤ maxLen ∧ (0 < n → ∃ b o, A = some ⟨b, o, none⟩ ∧ B ≤ b ∧ b < w.heap.size ∧ ∀ k, k < n → ∃ Ak nk ck, w.cell? ⟨b, o + k, none⟩ = some (.slice Ak nk ck) ∧ Pts w Ak nk ck (LL.getD k []) ∧ nk ≤ 4611686018427387904 ∧ ∀ a, Ak = some a → Nw B w a)
theorem RwsU.rwsB {B : Nat} {w : World} {A : Option Addr} {n c : Nat} {LL : List (List Pt)} (h : RwsU B w A n c LL) : RwsB B w A n c LL := by
  obtain ⟨h1, h2, h3, h4⟩ := h
  refine ⟨h1, h2, h3, fun hn => ?_⟩
  obtain ⟨b, o, e, hB, hb, hc⟩ := h4 hn
  refine ⟨b, o, e, hB, hb, fun k hk => ?_⟩
  obtain ⟨Ak, nk, ck, e1, hP, l1, hf⟩ := hc k hk
  exact ⟨Ak, nk, ck, e1, hP, l1, fun a ha => (hf a ha).1⟩
theorem RwsU.rws {B : Nat} {w : World} {A : Option Addr} {n c : Nat} {LL : List (List Pt)} (h : RwsU B w A n c LL) : Rws w A n c LL := h.rwsB.rws
/-- Fresh blocks stand where old ones are written. -/
theorem RwsU.step {B : Nat} {w w' : World} {A : Option Addr} {n c : Nat} {LL : List (List Pt)} (h : RwsU B w A n c LL) (hs : w.heap.size ≤ w'.heap.size) (hc : ∀ p : Addr, B ≤ p.block → p.block < w.heap.size → w'.cell? p = w.cell? p) (hz : ∀ p : Addr, B ≤ p.block → p.block < w.heap.size → w'.frozen? p = w.frozen? p) : RwsU B w' A n c LL := by
  obtain ⟨h1, h2, h3, h4⟩ := h
  refine ⟨h1, h2, h3, fun hn => ?_⟩
  obtain ⟨b, o, e, hB, hb, hx⟩ := h4 hn
  refine ⟨b, o, e, hB, by omega, fun k hk => ?_⟩
  obtain ⟨Ak, nk, ck, e1, hP, l1, hf⟩ := hx k hk
  exact ⟨Ak, nk, ck, (hc ⟨b, o + k, none⟩ hB hb).trans e1, hP.step hs hc (fun a ha => (hf a ha).1), l1, fun a ha => ⟨(hf a ha).1, by have := (hf a ha).2.1; omega, fun j => (hz ⟨a.block, j, none⟩ (hf a ha).1 (hf a ha).2.1).trans ((hf a ha).2.2 j)⟩⟩
theorem RwsU.keep {B : Nat} {w w' : World} {A : Option Addr} {n c : Nat} {LL : List (List Pt)} (h : RwsU B w A n c LL) (hk : Keeps w w') : RwsU B w' A n c LL := h.step hk.size (fun p _ hp => hk.cell hp) (fun p _ hp => hk.frozen hp)
theorem RwsU.nil (B : Nat) (w : World) : RwsU B w none 0 0 [] := ⟨rfl, Nat.le_refl _, Nat.zero_le _, fun h => absurd h (by simp)⟩
/-- what a function returns that makes its rings in new memory that may be written -/
def RetU (w0 : World) (LL : List (List Pt)) (e : Ending) (w' : World) : Prop := ∃ A c, e = .returned (.slice A LL.length c) ∧ RwsU w0.heap.size w' A LL.length c LL ∧ Keeps w0 w'
theorem RetU.retF {w0 w' : World} {LL : List (List Pt)} {e : Ending} (h : RetU w0 LL e w') : RetF w0 LL e w' := by
  obtain ⟨A, c, he, hR, hk⟩ := h
  exact ⟨A, c, he, hR.rwsB, hk⟩
theorem RetU.retJ {w0 w' : World} {LL : List (List Pt)} {e : Ending} (h : RetU w0 LL e w') : RetJ w0 LL e w' := h.retF.retJ
theorem RetU.nil {w0 w' : World} (hk : Keeps w0 w') : RetU w0 [] (.returned (.slice none 0 0)) w' := ⟨none, 0, rfl, RwsU.nil _ _, hk⟩
theorem someF_any (B : Nat) (A : Option Addr) (n c : Nat) (L : List Pt) (w : World) (h : Pts w A n c L) (hn : n ≤ 4611686018427387904) (hf : ∀ a, A = some a → Nw B w a) (hB : B ≤ w.heap.size) :
    Calls Tryz.prog 54 #[.slice A n c] w fun e w' => ∃ A' c', e = .returned (.slice A' (wrapL L).length c') ∧ RwsU B w' A' (wrapL L).length c' (wrapL L) ∧ Keeps w w' := by
  have hl := h.1
  have hni : (n : Int) ≤ 4611686018427387904 := by omega
  by_cases h0 : n = 0
  · subst h0
    rw [show wrapL L = [] by unfold wrapL; rw [if_pos hl]]
    clear h
    go_enter Tryz.func54, Tryz.ntmps54
    go_wp2_with fail
    go_ret
    exact ⟨_, _, rfl, RwsU.nil _ _, Keeps.refl _⟩
  · rw [show wrapL L = [L] by unfold wrapL; rw [if_neg (by omega)]]
    have q0 : ((n : Int) == 0) = false := by rw [beq_eq_false_iff_ne]; omega
    have HR := Lib.hid (show RwsU B (w.alloc (.cells #[.slice A n c] 22)) (some ⟨w.heap.size, 0, none⟩) 1 1 [L] from
      ⟨rfl, Nat.le_refl _, by unfold maxLen; omega, fun _ => ⟨_, _, rfl, hB, by simp, fun k hk => by
        obtain rfl : k = 0 := by omega
        exact ⟨A, n, c, by simp, h.keep ((Keeps.refl _).alloc _), hn, nw_keep hf ((Keeps.refl _).alloc _)⟩⟩⟩)
    clear h
    go_enter Tryz.func54, Tryz.ntmps54
    go_wp2_with fail
    go_ret
    exact ⟨_, _, rfl, HR.out, (Keeps.refl _).alloc _⟩
def cornL (v n m : Pt) (wd jn ml : Int) : List Pt := ([v, addP v n] ++ (if jn = 1 ∧ tipB n m wd ml = true then [addP v (tipP n m wd ml)] else [])) ++ [addP v m]
def badJ (u v b : Pt) (wd jn cp ml ph : Int) (D : List Int) : Bool := !(stB wd jn cp ml ph D && vP u && vP v && vP b && !((v.1 == u.1) && (v.2 == u.2)) && !((v.1 == b.1) && (v.2 == b.2)))
def joinR (u v b : Pt) (wd jn cp ml ph : Int) (D : List Int) : List Pt :=
  if badJ u v b wd jn cp ml ph D = true then [] else if jn = 3 then discL v wd else if outB u v b wd = true then orient (cornL v (outN u v b wd) (outM u v b wd) wd jn ml) else []
def joinL (u v b : Pt) (wd jn cp ml ph : Int) (D : List Int) : List (List Pt) := wrapL (joinR u v b wd jn cp ml ph D)
theorem bad_yes {u v b : Pt} {wd jn cp ml ph : Int} {D : List Int} (h : badJ u v b wd jn cp ml ph D = true) : stB wd jn cp ml ph D = false ∨ stB wd jn cp ml ph D = true ∧ vP u = false ∨ stB wd jn cp ml ph D = true ∧ vP u = true ∧ vP v = false ∨ stB wd jn cp ml ph D = true ∧ vP u = true ∧ vP v = true ∧ vP b = false ∨
    stB wd jn cp ml ph D = true ∧ vP u = true ∧ vP v = true ∧ vP b = true ∧ ((v.1 == u.1) && (v.2 == u.2)) = true ∨ stB wd jn cp ml ph D = true ∧ vP u = true ∧ vP v = true ∧ vP b = true ∧ ((v.1 == u.1) && (v.2 == u.2)) = false ∧ ((v.1 == b.1) && (v.2 == b.2)) = true := by
  unfold badJ at h
  revert h
  cases stB wd jn cp ml ph D <;> cases vP u <;> cases vP v <;> cases vP b <;> cases ((v.1 == u.1) && (v.2 == u.2)) <;> cases ((v.1 == b.1) && (v.2 == b.2)) <;> simp
theorem bad_no {u v b : Pt} {wd jn cp ml ph : Int} {D : List Int} (h : badJ u v b wd jn cp ml ph D = false) : stB wd jn cp ml ph D = true ∧ vP u = true ∧ vP v = true ∧ vP b = true ∧ ((v.1 == u.1) && (v.2 == u.2)) = false ∧ ((v.1 == b.1) && (v.2 == b.2)) = false := by
  unfold badJ at h
  revert h
  cases stB wd jn cp ml ph D <;> cases vP u <;> cases vP v <;> cases vP b <;> cases ((v.1 == u.1) && (v.2 == u.2)) <;> cases ((v.1 == b.1) && (v.2 == b.2)) <;> simp
theorem tipP_bd (n m : Pt) (v l : Int) : (-1152921504606846976 ≤ (tipP n m v l).1 ∧ (tipP n m v l).1 ≤ 1152921504606846976) ∧ (-1152921504606846976 ≤ (tipP n m v l).2 ∧ (tipP n m v l).2 ≤ 1152921504606846976) := by
  unfold tipP
  cases h : tipB n m v l with
  | false => rw [if_neg (by decide)]; exact ⟨⟨by decide, by decide⟩, ⟨by decide, by decide⟩⟩
  | true =>
    rw [if_pos rfl]
    obtain ⟨h1, h2, h3, h4, h5, h6, h7⟩ := tip_yes h
    obtain ⟨a, b, aa, bb, v2, l2, ea, eb, eaa, ebb, ev2, el2, ba, bb1, baa, bbb, bv2, bl2, bv, bav, bbv, bav1, bbv1, eq⟩ := tip_bd n m v l h1 h2 h3 h4 h5
    rw [ea, eb, ev2]
    exact ⟨(dvr_Q _ _ (by omega) (by omega)).2, (dvr_Q _ _ (by omega) (by omega)).2⟩
end Go.Proofs.YtdodgnpjlicnoaaGreat
