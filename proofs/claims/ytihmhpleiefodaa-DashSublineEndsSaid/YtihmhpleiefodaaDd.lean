/- Contracts of slices.Compact's callers: stroke.Dedup (chapter 25: without the strokes' texts). -/
import Derived.Test.YtihmhpleiefodaaKd
namespace Go.Proofs.Ytihmhpleiefodaa
section
open Go.RowKit
theorem own_litH (w : World) (cs : Array Value) (n size B H : Nat) (e : TypeId) (hH : w.heap.size = H) (hb : B ≤ H) (hm : n ≤ maxLen) (hs : cs.size = n * size) :
    (w.alloc (.cells cs e)).ownsRow B e size (.slice (some ⟨H, 0, none⟩) n n) n cs.toList := by
  subst hH
  exact World.ownsRow_lit w cs n hb hm hs

theorem step_appendQ {P : Program} (w : World) {ops : Array Oper} {o : Oper} {a : Act} {K : Act → World → Prop} {Q : Exit → Act → World → Prop} {E : Prop} (hgd : o.guard = none) (s x : Operand) (t : TypeId)
    (ho : o.op = .call { callee := .builtin .append, args := #[s, x], argTypes := #[t, t] })
    (base : Nat) (e : TypeId) (i : TypeInfo) (z : Value) (size bytes : Nat) (ht : P.underlying t = some (.slice e)) (hi : P.info? e = some i) (hz : i.zero = some z)
    (hsize : i.size = size) (hby : i.bytes = bytes) (hzs : z.cells.size = size) (hsz : 0 < size)
    (v : Value) (n : Nat) (xs : List Value) (hs : a.eval s = v) (hown : w.ownsRow base e size v n xs)
    (ad : Addr) (m c : Nat) (news : List Value) (hx : a.eval x = .slice (some ad) m c) (hl : news.length = m * size) (hnews : ∀ j u, news[j]? = some u → w.cell? (ad.add j) = some u) (h1 : ∀ u ∈ news, u.oneCell' = true)
    (h63 : n + m ≤ maxLen) (hbytes : (n + m) * bytes ≤ 140737488355328) (hbase : base ≤ w.heap.size)
    (h : ∀ v' w', w'.ownsRow base e size v' (n + m) (xs ++ news) → w.grownBy w' v.ownBlock → K (a.put o.dst v') w') : if Region.wanted o (yielded ops a.tmps) = true then Oper.wp P o a w K Q else E := by
  have hw : Region.wanted o (yielded ops a.tmps) = true := by simp [Region.wanted, hgd]
  rw [if_pos hw]
  exact wp_append_own w s x t ho base e i z size bytes ht hi hz hsize hby hzs hsz v n xs hs hown ad m c news hx hl hnews h1 h63 hbytes hbase fun v' w' h2 h3 _ => h v' w' h2 h3

theorem below_ownQ {w wr w0 w1 : World} {B : Nat} {e : TypeId} {size : Nat} {v : Value} {n : Nat} {xs : List Value} (hk : Below B w wr) (hw : B = w.heap.size) (hown : wr.ownsRow B e size v n xs) (hg : w0.grownBy w1 v.ownBlock) (h0 : Below wr.heap.size wr w0) : Below B w w1 := by
  subst hw
  exact (hk.trans (h0.mono hk.size)).grown hg (Nat.le_trans hk.size h0.size) (fun k hk' => (hown.lt k hk').1)
end
section
section
open Go.RowKit
attribute [local go_sem ↓] Go.wp_at_zero Go.wp_at_succ
set_option linter.unusedVariables false
set_option linter.unusedSimpArgs false
theorem ded_short (M : List Pt) (h : M.length < 2) : ded M = M := by
  match M, h with
  | [], _ => rfl
  | [p], _ => rfl
set_option maxHeartbeats 1000000 in
theorem comp_short (B n : Nat) (v : Value) (xs : List Value) (w : World) (hown : w.ownsRow B 50 2 v n xs) (h2 : n < 2) :
    Calls Try.prog 54 #[v] w fun e w' => e = .returned v ∧ Keeps w w' := by
  have hx : ∃ A c, v = .slice A n c := by
    rcases hown.2 with ⟨rfl, rfl⟩ | ⟨g, cap, cur, rfl, _⟩
    · exact ⟨_, _, rfl⟩
    · exact ⟨_, _, rfl⟩
  obtain ⟨A, c, rfl⟩ := hx
  have h3 : (n : Int) < 2 := by omega
  clear hown
  go_enter Try.func54, Try.ntmps54
  go_wp2_with fail
  go_ret
  exact ⟨rfl, Keeps.refl _⟩
theorem comp_any (B n : Nat) (v : Value) (M : List Pt) (w : World) (hown : w.ownsRow B 50 2 v n (rowP M)) (hM : M.length = n) (hn : n ≤ 1000000000000) :
    Calls Try.prog 54 #[v] w (CmpR w B M) := by
  by_cases h2 : n < 2
  · refine (comp_short B n v _ w hown h2).mono ?_
    rintro e w' ⟨rfl, hk⟩
    refine ⟨v, rfl, ?_, fun w0 h _ => h.trans hk⟩
    rw [ded_short M (by omega), hM]
    exact own_keep hown hk
  · obtain ⟨g, cap, rfl, _⟩ := own_slice hown (by omega)
    exact compact_any B g cap n M w hown hM hn (by omega)
theorem trim_on (X : List Pt) (h : 1 < X.length) (he : X.getD (X.length - 1) pt0 = X.getD 0 pt0) : trimC X.length X = trimC (X.take (X.length - 1)).length (X.take (X.length - 1)) := by
  have e : (X.take (X.length - 1)).length = X.length - 1 := by rw [List.length_take]; omega
  rw [e]
  obtain ⟨k, hk⟩ : ∃ k, X.length = k + 1 := ⟨X.length - 1, by omega⟩
  conv => lhs; rw [hk, trimC, if_pos ⟨h, he⟩]
  rw [hk, Nat.add_sub_cancel]
theorem trim_off (X : List Pt) (h : ¬ (1 < X.length ∧ X.getD (X.length - 1) pt0 = X.getD 0 pt0)) : trimC X.length X = X := by
  cases hk : X.length with
  | zero => rfl
  | succ k => rw [trimC, if_neg h]
def lenV : Value → Nat
  | .slice _ n _ => n
  | _ => 0
theorem own_len {w : World} {B n size : Nat} {e : TypeId} {v : Value} {xs : List Value} (h : w.ownsRow B e size v n xs) : ∃ A c, v = .slice A n c := by
  rcases h.2 with ⟨rfl, rfl⟩ | ⟨g, cap, cur, rfl, _⟩
  · exact ⟨_, _, rfl⟩
  · exact ⟨_, _, rfl⟩
/-- The slice's block, if any, is new. -/
def NewA (B : Nat) (A : Option Addr) : Prop := ∀ b o, A = some ⟨b, o, none⟩ → B ≤ b
theorem new_of_own {w : World} {B n c k size : Nat} {e : TypeId} {A : Option Addr} {xs : List Value} (h : w.ownsRow B e size (.slice A n c) k xs) : NewA B A := by
  intro b o hA
  rcases h.2 with ⟨h1, _⟩ | ⟨g, cap, cur, h1, hb, _⟩
  · rw [hA] at h1; cases h1
  · rw [hA] at h1; cases h1; exact hb
theorem NewA.le {B B' : Nat} {A : Option Addr} (h : NewA B A) (hb : B' ≤ B) : NewA B' A := fun b o e => Nat.le_trans hb (h b o e)
def RetPl (w0 : World) (cl : Bool) (L : List Pt) (e : Ending) (w' : World) : Prop := ∃ A c, e = .returned (.agg #[.slice A L.length c, .bool cl]) ∧ Pts w' A L.length c L ∧ Keeps w0 w' ∧ w'.ownsRow w0.heap.size 50 2 (.slice A L.length c) L.length (rowP L)
set_option maxRecDepth 100000 in
set_option maxHeartbeats 4000000 in
theorem dedup_any (cl : Bool) (A : Option Addr) (n c : Nat) (L : List Pt) (w : World) (h : Pts w A n c L) (hn : n ≤ 1000000000000) :
    Calls Try.prog 39 #[.agg #[.slice A n c, .bool cl]] w (RetPl w cl (dedC cl L)) := by
  have hl := h.1
  have hok := dedTo_ok L h.2.2.2.1 L.length (Nat.le_refl _)
  have HS := Lib.hid (show ∀ w', Keeps ((w.alloc (.cells #[.slice A n c, .bool cl] 24)).alloc (.cells #[.slice none 0 0, .bool false] 24)) w' → w'.cell? ⟨w.heap.size, 0, none⟩ = some (.slice A n c) ∧ w'.frozen? ⟨w.heap.size, 0, none⟩ = false ∧ w'.cell? ⟨w.heap.size, 1, none⟩ = some (.bool cl) ∧ w'.frozen? ⟨w.heap.size, 1, none⟩ = false ∧ w'.cell? ⟨w.heap.size + 1, 0, none⟩ = some (.slice none 0 0) ∧ w'.frozen? ⟨w.heap.size + 1, 0, none⟩ = false ∧ w'.cell? ⟨w.heap.size + 1, 1, none⟩ = some (.bool false) ∧ w'.frozen? ⟨w.heap.size + 1, 1, none⟩ = false from fun w' hk => ⟨(hk.cell (p := ⟨w.heap.size, 0, none⟩) (by first | (simp; done) | (simp; omega))).trans (by simp [go_sem]), (hk.frozen (p := ⟨w.heap.size, 0, none⟩) (by first | (simp; done) | (simp; omega))).trans (by simp [go_sem]), (hk.cell (p := ⟨w.heap.size, 1, none⟩) (by first | (simp; done) | (simp; omega))).trans (by simp [go_sem]), (hk.frozen (p := ⟨w.heap.size, 1, none⟩) (by first | (simp; done) | (simp; omega))).trans (by simp [go_sem]), (hk.cell (p := ⟨w.heap.size + 1, 0, none⟩) (by first | (simp; done) | (simp; omega))).trans (by simp [go_sem]), (hk.frozen (p := ⟨w.heap.size + 1, 0, none⟩) (by first | (simp; done) | (simp; omega))).trans (by simp [go_sem]), (hk.cell (p := ⟨w.heap.size + 1, 1, none⟩) (by first | (simp; done) | (simp; omega))).trans (by simp [go_sem]), (hk.frozen (p := ⟨w.heap.size + 1, 1, none⟩) (by first | (simp; done) | (simp; omega))).trans (by simp [go_sem])⟩)
  have HB := Lib.hid (show Keeps w ((w.alloc (.cells #[.slice A n c, .bool cl] 24)).alloc (.cells #[.slice none 0 0, .bool false] 24)) from (by (repeat (first | (with_reducible exact Keeps.refl _) | (with_reducible assumption) | (with_reducible refine Keeps.drewN ?_ _) | (with_reducible refine Keeps.drew ?_) | (with_reducible refine Keeps.alloc ?_ _) | (with_reducible refine Keeps.setNew ?_ ?_ _))) <;> (dsimp only; omega)))
  have hk0 := Keeps.refl ((w.alloc (.cells #[.slice A n c, .bool cl] 24)).alloc (.cells #[.slice none 0 0, .bool false] 24))
  have KC := Lib.hid (fun w' (hk : Keeps w w') => clone_any A n c L w' (h.keep hk) hn)
  have KD := Lib.hid (fun B v w' (ho : World.ownsRow w' B 50 2 v n (rowP L)) => comp_any B n v L w' ho hl hn)
  have hdl := dedTo_len L L.length
  have hOk := Lib.hid (show ∀ p ∈ ded L, okP p from hok)
  have hdl := Lib.hid (show (ded L).length ≤ n by rw [← hl]; exact hdl)
  clear h hok
  go_enter Try.func39, Try.ntmps39
  go_wp2_with (first | (go_at_call 55; (with_reducible refine (KC.out _ HB.out).mono ?_); rintro e w1 ⟨v1, rfl, ho1, hk1⟩; have ho1 := Lib.hid ho1; have hk1 := Lib.hid hk1) | (go_at_call 54; (with_reducible refine (KD.out _ _ _ ho1.out).mono ?_); rintro e w2 ⟨v2, rfl, ho2, hk2⟩; have hk2 := hk2 _ hk1.out (Nat.le_refl _); have ho2 := Lib.hid ho2; have hk2 := Lib.hid hk2))
  have hW0s : (((w.alloc (.cells #[.slice A n c, .bool cl] 24)).alloc (.cells #[.slice none 0 0, .bool false] 24))).heap.size = w.heap.size + 2 := by simp
  have hs0 : Hid (dedC cl L = if cl = true then trimC (ded L).length (ded L) else ded L) := Lib.hid rfl
  generalize ((w.alloc (.cells #[.slice A n c, .bool cl] 24)).alloc (.cells #[.slice none 0 0, .bool false] 24)) = W0 at *
  clear KC KD
  go_loopw [3] (fun i wr => ∃ X : List Pt, Hid (X.length ≤ n) ∧ Hid (wr.ownsRow W0.heap.size 50 2 i X.length (rowP X)) ∧ Keeps W0 wr ∧ Hid (∀ p ∈ X, okP p) ∧ Hid (dedC cl L = if cl = true then trimC X.length X else X)) (fun i _ => lenV i)
  case atStart => exact ⟨ded L, hdl, ho2, hk2.out, hOk, hs0⟩
  case round =>
    clear hk0 ho1 hk1 ho2 hk2 hOk hdl hs0
    obtain ⟨X, hXn, hO, hkw, hOk, hR⟩ := hrel
    obtain ⟨y0, y1, y2, y3, y4, y5, y6, y7⟩ := HS.out _ hkw
    have hend : (cl = true → ¬ (1 < X.length ∧ X.getD (X.length - 1) pt0 = X.getD 0 pt0)) → Hid (dedC cl L = X) := fun hc => Lib.hid (by
      rw [hR.out]
      cases cl with
      | false => rfl
      | true => rw [if_pos rfl]; exact trim_off X (hc rfl))
    obtain ⟨Ai, ci, rfl⟩ := own_len hO.out
    have fin : ∀ (wz : World) (hD : dedC cl L = X) (hz : Keeps wr wz), RetPl w cl (dedC cl L) (.returned (.agg #[.slice Ai X.length ci, .bool cl])) ((wz.setCell ⟨w.heap.size + 1, 0, none⟩ (.slice Ai X.length ci)).setCell ⟨w.heap.size + 1, 1, none⟩ (.bool cl)) := fun wz hD hz => by
      rw [hD]
      have ho := own_keep hO.out hz
      have ho := ownsRow_setCell_other ho (a := ⟨w.heap.size + 1, 0, none⟩) (fun e => by have := (ho.lt _ e).1; dsimp only at this; omega) (.slice Ai X.length ci)
      have ho := ownsRow_setCell_other ho (a := ⟨w.heap.size + 1, 1, none⟩) (fun e => by have := (ho.lt _ e).1; dsimp only at this; omega) (.bool cl)
      obtain ⟨A', c', he, hP⟩ := Pts.of_own ho rfl hOk.out
      cases he
      have hnw := own_base ho (B2 := w.heap.size) (by first | omega | (simp; done) | (simp; omega))
      exact ⟨_, _, rfl, hP, (((HB.out.trans hkw).trans hz).setNew (by dsimp only; omega) _).setNew (by dsimp only; omega) _, hnw⟩
    have fin := Lib.hid fin
    have n1 := fun (w' : World) (u : Value) => setOff w' (w.heap.size + 1) 0 1 u (by omega)
    have hmi : (X.length : Int) ≤ 1000000000000 := by have := hXn.out; omega
    by_cases hgo : cl = true ∧ 1 < X.length
    · obtain ⟨rfl, h1⟩ := hgo
      obtain ⟨g, cap, hx, hcap, _⟩ := own_slice hO.out (by omega)
      obtain ⟨rfl, rfl⟩ : Ai = some ⟨g, 0, none⟩ ∧ ci = cap := by simpa using hx
      have hOg := hO.out
      have cc := fun i (hi : i < X.length * 2) => (rowAt hOg i hi).2.1
      have rp : ∀ q i, q < X.length → i < 2 → wr.cell? ⟨g, q * 2 + i, none⟩ = (ptV (X.getD q pt0))[i]? := fun q i hk hi => (cc (q * 2 + i) (by omega)).trans (rowP_get X q i (by omega) hi)
      obtain ⟨q, hq⟩ : ∃ q : Nat, X.length = q + 1 := ⟨X.length - 1, by omega⟩
      have c0 := rp q 0 (by omega) (by omega)
      have c1 := rp q 1 (by omega) (by omega)
      have d0 := rp 0 0 (by omega) (by omega)
      have d1 := rp 0 1 (by omega) (by omega)
      rw [Nat.add_zero] at c0
      rw [show 0 * 2 + 0 = 0 from rfl] at d0
      rw [show 0 * 2 + 1 = 1 from rfl] at d1
      have hq1 : (X.length : Int) - 1 = q := by omega
      have hwq : IntKind.i64.wrap (q : Int) = q := i64_in _ (by omega)
      have hqn : (q : Int) < X.length := by omega
      have h0n : (0 : Int) < X.length := by omega
      have ht : decide ((1 : Int) < X.length) = true := decide_eq_true (by omega)
      have hqc : q ≤ ci := by omega
      have hqc2 : (q : Int) ≤ ci := by omega
      have hon := Lib.hid (fun h => trim_on X h1 h)
      have hend := Lib.hid hend
      have hQ := Lib.hid hq
      have hcut := Lib.hid (own_cut hOg (k := q) (by have := hQ.out; omega))
      rw [rowP_take X q (by have := hQ.out; omega)] at hcut
      rw [show X.length - 1 = q by have := hQ.out; omega] at *
      have hOkT := Lib.hid (fun p (hp : p ∈ X.take q) => hOk.out p (List.mem_of_mem_take hp))
      clear hOg cc rp hOk hq hx hcap
      generalize hx1 : X.getD q pt0 = a at *
      generalize hx0 : X.getD 0 pt0 = b at *
      have hX := Lib.hid (And.intro hx1 hx0)
      clear hx1 hx0
      simp only [ptV, List.getElem?_cons_zero, List.getElem?_cons_succ] at c0 c1 d0 d1
      obtain ⟨a0, a1⟩ := a
      obtain ⟨b0, b1⟩ := b
      have hP := fun w => ptEql a0 a1 b0 b1 w
      by_cases he : a0 = b0 ∧ a1 = b1
      · obtain ⟨rfl, rfl⟩ := he
        simp only [beq_self_eq_true, Bool.and_self] at hP
        go_wp2_with fail
        go_quiet (fail)
        go_wp2_with fail
        go_roundw
        case rel =>
          have e := hon.out trivial
          have el : (X.take q).length = q := by rw [List.length_take]; have := hQ.out; omega
          refine ⟨X.take q, Lib.hid (by have := hXn.out; have := hQ.out; omega), Lib.hid ?_, hkw.drewN nq, hOkT, Lib.hid ?_⟩
          · rw [el]; exact own_keep hcut.out ((Keeps.refl _).drewN nq)
          · have := hR.out
            rw [if_pos trivial] at this
            rw [this, e]; first | done | rfl | rw [if_pos trivial]
        case measure => have := hQ.out; simp [lenV]; omega
      · rw [show ((a0 == b0) && (a1 == b1)) = false by simpa using he] at hP
        go_wp2_with fail
        go_quiet (fail)
        go_wp2_with fail
        refine bodyPost_ret (v := .agg #[.slice (some ⟨g, 0, none⟩) X.length ci, .bool true]) (by simp [results, Try.results39, go_sem, *]) rfl ?_
        exact fin.out _ (hend.out (fun _ h => he (by injection h.2 with e1 e2; exact ⟨e1, e2⟩))).out ((Keeps.refl _).drewN nq)
    · have hD := hend (fun hc hx => hgo ⟨hc, hx.1⟩)
      clear hend
      cases cl with
      | false =>
        go_wp2_with fail
        go_quiet (fail)
        go_wp2_with fail
        refine bodyPost_ret (v := .agg #[.slice Ai X.length ci, .bool false]) (by simp [results, Try.results39, go_sem, *]) rfl ?_
        exact fin.out _ hD.out ((Keeps.refl _).drewN nq)
      | true =>
        have ht : decide ((1 : Int) < X.length) = false := decide_eq_false (fun h => hgo ⟨rfl, by omega⟩)
        go_wp2_with fail
        go_quiet (fail)
        go_wp2_with fail
        refine bodyPost_ret (v := .agg #[.slice Ai X.length ci, .bool true]) (by simp [results, Try.results39, go_sem, *]) rfl ?_
        exact fin.out _ hD.out ((Keeps.refl _).drewN nq)
end
end
end Go.Proofs.Ytihmhpleiefodaa
