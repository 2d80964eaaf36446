/- Contract of reference 24's bodies. -/
import Derived.Test.YtdodgnpjlicnoaaGreatKf
import Derived.Test.YtdodgnpjlicnoaaGreatKu
import Derived.Test.YtdodgnpjlicnoaaGreatJi
import Derived.Test.YtdodgnpjlicnoaaGreatKj
namespace Go.Proofs.YtdodgnpjlicnoaaGreat
section
section
open Go.RowKit
attribute [local go_sem ↓] Go.wp_at_zero Go.wp_at_succ
set_option linter.unusedVariables false
set_option linter.unusedSimpArgs false
theorem keeps_grown {w0 w w1 : World} {o : Obj} {row : Option Nat} (hk : Keeps w0 w) (hg : (w.alloc o).grownBy w1 row) (hr : ∀ k, row = some k → w0.heap.size ≤ k) : Keeps w0 w1 :=
  Below.grown (hk.alloc o) hg (by have := hk.size; simp; omega) hr
def GRws (w : World) (B : Nat) (v : Value) (LL : List (List Pt)) : Prop :=
  ∃ VS, w.ownsRow B 22 1 v LL.length VS ∧ ∀ k, k < LL.length → ∃ Ak nk ck, VS[k]? = some (.slice Ak nk ck) ∧ Pts w Ak nk ck (LL.getD k []) ∧ nk ≤ 4611686018427387904 ∧ ∀ a, Ak = some a → B ≤ a.block ∧ a.block < w.heap.size ∧ some a.block ≠ v.ownBlock
theorem GRws.step {w w' : World} {B : Nat} {v : Value} {LL : List (List Pt)} (h : GRws w B v LL) (hs : w.heap.size ≤ w'.heap.size) (hh : ∀ k, B ≤ k → k < w.heap.size → w'.heap[k]? = w.heap[k]?) : GRws w' B v LL := by
  obtain ⟨VS, h1, h2⟩ := h
  refine ⟨VS, own_step h1 hh, fun k hk => ?_⟩
  obtain ⟨Ak, nk, ck, e, hP, hn, hb⟩ := h2 k hk
  exact ⟨Ak, nk, ck, e, hP.step hs (fun p h3 h4 => by unfold World.cell?; rw [hh _ h3 h4]) (fun a ha => (hb a ha).1), hn, fun a ha => ⟨(hb a ha).1, by have := (hb a ha).2.1; omega, (hb a ha).2.2⟩⟩
theorem GRws.keep {w w' : World} {B : Nat} {v : Value} {LL : List (List Pt)} (h : GRws w B v LL) (hk : Keeps w w') : GRws w' B v LL := h.step hk.size (fun k _ hl => hk.block k hl)
theorem GRws.base {w : World} {B B2 : Nat} {v : Value} {LL : List (List Pt)} (h : GRws w B v LL) (hb : B2 ≤ B) : GRws w B2 v LL := by
  obtain ⟨VS, h1, h2⟩ := h
  refine ⟨VS, own_base h1 hb, fun k hk => ?_⟩
  obtain ⟨Ak, nk, ck, e, hP, hn, hx⟩ := h2 k hk
  exact ⟨Ak, nk, ck, e, hP, hn, fun a ha => ⟨Nat.le_trans hb (hx a ha).1, (hx a ha).2⟩⟩
theorem GRws.rws {w : World} {B : Nat} {v : Value} {LL : List (List Pt)} (h : GRws w B v LL) : ∃ A c, v = .slice A LL.length c ∧ RwsB B w A LL.length c LL := by
  obtain ⟨VS, h1, h2⟩ := h
  have hlt := h1.lt
  obtain ⟨A, c, rfl, g1, g2, g3, g4⟩ := SlA.of_own h1
  refine ⟨A, c, rfl, rfl, g1, g2, fun hp => ?_⟩
  obtain ⟨b, o, rfl, hb, hx⟩ := g4 hp
  refine ⟨b, o, rfl, (hlt b (by rcases h1.2 with ⟨h', _⟩ | ⟨g, cap, cur, h', _⟩ <;> simp [Value.ownBlock] at h' ⊢)).1, hb, fun k hk => ?_⟩
  obtain ⟨Ak, nk, ck, e, hP, hn, hf⟩ := h2 k hk
  exact ⟨Ak, nk, ck, (hx k (by omega)).trans e, hP, hn, fun a ha => (hf a ha).1⟩
theorem GRws.snoc {w w1 : World} {B g cap n c : Nat} {v : Value} {A : Option Addr} {LL : List (List Pt)} {L : List Pt} {VS : List Value} {t : TypeId}
    (hown : w.ownsRow B 22 1 v LL.length VS) (hall : ∀ k, k < LL.length → ∃ Ak nk ck, VS[k]? = some (.slice Ak nk ck) ∧ Pts w Ak nk ck (LL.getD k []) ∧ nk ≤ 4611686018427387904 ∧ ∀ a, Ak = some a → B ≤ a.block ∧ a.block < w.heap.size ∧ some a.block ≠ v.ownBlock)
    (hP : Pts w A n c L) (hn : n ≤ 4611686018427387904) (hA : ∀ a, A = some a → B ≤ a.block ∧ a.block < w.heap.size ∧ some a.block ≠ v.ownBlock)
    (h1 : w1.ownsRow B 22 1 (.slice (some ⟨g, 0, none⟩) (LL.length + 1) cap) (LL.length + 1) (VS ++ [.slice A n c])) (hg : (w.alloc (.cells #[.slice A n c] t)).grownBy w1 v.ownBlock) (hlie : v.ownBlock = some g ∨ g = w.heap.size + 1) :
    GRws w1 B (.slice (some ⟨g, 0, none⟩) (LL.length + 1) cap) (LL ++ [L]) := by
  have hl : (LL ++ [L]).length = LL.length + 1 := by simp
  have hsz : w.heap.size + 1 ≤ w1.heap.size := by have := hg.size; simpa using this
  have hcell : ∀ b o, b < w.heap.size → some b ≠ v.ownBlock → w1.cell? ⟨b, o, none⟩ = w.cell? ⟨b, o, none⟩ := fun b o hb hne =>
    (hg.cell_far ⟨b, o, none⟩ (by simp; omega) (by simpa using hne)).trans (World.cell?_alloc_lt _ _ _ (by simpa using hb))
  have hne : ∀ b, b < w.heap.size → some b ≠ v.ownBlock → some b ≠ (Value.slice (some ⟨g, 0, none⟩) (LL.length + 1) cap).ownBlock := fun b hb hx e => by
    simp [Value.ownBlock] at e
    rcases hlie with h | h
    · exact hx (by rw [h, e])
    · omega
  have hVl : VS.length = LL.length := by have := hown.1; omega
  refine ⟨VS ++ [.slice A n c], by rw [hl]; exact h1, fun k hk => ?_⟩
  rw [hl] at hk
  by_cases hkl : k < LL.length
  · obtain ⟨Ak, nk, ck, e, hPk, hnk, hb⟩ := hall k hkl
    refine ⟨Ak, nk, ck, by rw [List.getElem?_append_left (by omega)]; exact e, ?_, hnk, fun a ha => ⟨(hb a ha).1, by have := (hb a ha).2.1; omega, hne _ (hb a ha).2.1 (hb a ha).2.2⟩⟩
    rw [show (LL ++ [L]).getD k [] = LL.getD k [] by rw [List.getD_eq_getElem?_getD, List.getElem?_append_left hkl, List.getD_eq_getElem?_getD]]
    exact hPk.far (by omega) (fun a o ha => hcell _ _ (hb a ha).2.1 (hb a ha).2.2)
  · obtain rfl : k = LL.length := by omega
    refine ⟨A, n, c, by rw [List.getElem?_append_right (by omega), hVl, Nat.sub_self]; rfl, ?_, hn, fun a ha => ⟨(hA a ha).1, by have := (hA a ha).2.1; omega, hne _ (hA a ha).2.1 (hA a ha).2.2⟩⟩
    rw [show (LL ++ [L]).getD LL.length [] = L by rw [List.getD_eq_getElem?_getD, List.getElem?_append_right (Nat.le_refl _), Nat.sub_self]; rfl]
    exact hP.far (by omega) (fun a o ha => hcell _ _ (hA a ha).2.1 (hA a ha).2.2)
theorem GRws.nil (w : World) (B H : Nat) (t : TypeId) (hH : w.heap.size = H) (hB : B ≤ H) : GRws (w.alloc (.cells #[] 22)) B (.slice (some ⟨H, 0, none⟩) 0 0) [] :=
  ⟨[], own_litH w #[] 0 1 _ _ _ hH hB (by unfold maxLen; omega) (by simp), fun k hk => by simp at hk⟩
theorem GRws.row {w : World} {B : Nat} {v : Value} {LL : List (List Pt)} (h : GRws w B v LL) : ∃ A c, v = .slice A LL.length c := by
  obtain ⟨VS, h1, _⟩ := h
  rcases h1.2 with ⟨rfl, h2⟩ | ⟨g, cap, cur, rfl, _⟩
  · exact ⟨none, 0, by rw [h2]⟩
  · exact ⟨_, _, rfl⟩
theorem GRws.lt {w : World} {B : Nat} {v : Value} {LL : List (List Pt)} (h : GRws w B v LL) : ∀ g, v.ownBlock = some g → B ≤ g ∧ g < w.heap.size := fun g hg => by
  obtain ⟨VS, h1, _⟩ := h
  exact h1.lt g hg
set_option maxRecDepth 100000 in
set_option maxHeartbeats 2000000 in
theorem rapp_any (B : Nat) (v : Value) (LL : List (List Pt)) (A : Option Addr) (n c : Nat) (L : List Pt) (w : World) (hB : GRws w B v LL) (hBw : B ≤ w.heap.size) (hP : Pts w A n c L) (hn : n ≤ 4611686018427387904) (hA : ∀ a, A = some a → B ≤ a.block ∧ some a.block ≠ v.ownBlock) (hlen : LL.length ≤ 1000000) :
    Calls Tryz.prog 43 #[v, .slice A n c] w fun e w' => ∃ v', e = .returned v' ∧ GRws w' B v' (LL ++ wrapL L) ∧ ∀ w0, Keeps w0 w → w0.heap.size ≤ B → Keeps w0 w' := by
  obtain ⟨j0, ji, jz0, jz1, jz2⟩ := info_parts rows_info
  have hl := hP.1
  by_cases h0 : n = 0
  · have hB := Lib.hid hB
    have hW : wrapL L = [] := by unfold wrapL; rw [if_pos (by omega)]
    rw [hW, List.append_nil]
    subst h0
    clear hP hW
    go_enter Tryz.func43, Tryz.ntmps43
    go_wp2_with fail
    go_ret
    exact ⟨_, rfl, hB.out, fun w0 h _ => h⟩
  · have hW : wrapL L = [L] := by unfold wrapL; rw [if_neg (by omega)]
    rw [hW]
    have q0 : ((n : Int) == 0) = false := by rw [beq_eq_false_iff_ne]; omega
    have hni : (n : Int) ≤ 4611686018427387904 := by omega
    have hA := Lib.hid (show ∀ a, A = some a → B ≤ a.block ∧ a.block < w.heap.size ∧ some a.block ≠ v.ownBlock from fun a ha => ⟨(hA a ha).1, Pts.block hP (by omega) a ha, (hA a ha).2⟩)
    obtain ⟨VS, hv1, hv2⟩ := hB
    have hv1 := Lib.hid hv1
    have hv2 := Lib.hid hv2
    have hP := Lib.hid hP
    clear hW hl
    go_enter Tryz.func43, Tryz.ntmps43
    go_wp2_with (at_builtin; refine wpList_append_lies _ rfl _ _ 30 rfl B 22 j0 (.slice none 0 0) 1 24 Tryz.underlying30 ji jz0 jz1 jz2 rfl (by decide) _ _ VS rfl (hv1.out.alloc _) ⟨w.heap.size, 0, none⟩ 1 1 [.slice A n c] rfl rfl (one_new _ _ _) (by intro u hu; simp at hu; subst hu; rfl) (by omega) (by unfold maxLen; omega) (by omega) (by simp; omega) (w.heap.size + 1) (by simp) ?_; intro g cap w1 hown1 hgrow hlie hglt; have hSN := Lib.hid (GRws.snoc hv1.out hv2.out hP.out hn hA.out hown1 hgrow hlie); have hKK := Lib.hid (fun w0 (h : Keeps w0 w) (h2 : w0.heap.size ≤ B) => keeps_grown h hgrow (fun k hk => Nat.le_trans h2 (hv1.out.lt k hk).1)); clear hgrow hown1 hlie hglt)
    go_ret
    exact ⟨_, rfl, hSN.out, hKK.out⟩
set_option maxHeartbeats 1000000 in
theorem rlcap_any (a b : Pt) (wd jn cp ml ph : Int) (A : Option Addr) (n c : Nat) (w : World) :
    Calls Tryz.prog 45 #[.agg #[.int .i64 a.1, .int .i64 a.2], .agg #[.int .i64 b.1, .int .i64 b.2], .agg #[.int .i64 wd, .int .i64 jn, .int .i64 cp, .int .i64 ml, .slice A n c, .int .i64 ph]] w (OwnP w (endL a b wd cp)) := by
  have HS := Lib.hid (show ∀ w', Keeps (((w.alloc (.cells #[.int .i64 a.1, .int .i64 a.2] 37)).alloc (.cells #[.int .i64 b.1, .int .i64 b.2] 37)).alloc (.cells #[.int .i64 wd, .int .i64 jn, .int .i64 cp, .int .i64 ml, .slice A n c, .int .i64 ph] 27)) w' → w'.cell? ⟨w.heap.size, 0, none⟩ = some (.int .i64 a.1) ∧ w'.frozen? ⟨w.heap.size, 0, none⟩ = false ∧ w'.cell? ⟨w.heap.size, 1, none⟩ = some (.int .i64 a.2) ∧ w'.frozen? ⟨w.heap.size, 1, none⟩ = false ∧ w'.cell? ⟨w.heap.size + 1, 0, none⟩ = some (.int .i64 b.1) ∧ w'.frozen? ⟨w.heap.size + 1, 0, none⟩ = false ∧ w'.cell? ⟨w.heap.size + 1, 1, none⟩ = some (.int .i64 b.2) ∧ w'.frozen? ⟨w.heap.size + 1, 1, none⟩ = false ∧ w'.cell? ⟨w.heap.size + 1 + 1, 0, none⟩ = some (.int .i64 wd) ∧ w'.frozen? ⟨w.heap.size + 1 + 1, 0, none⟩ = false ∧ w'.cell? ⟨w.heap.size + 1 + 1, 1, none⟩ = some (.int .i64 jn) ∧ w'.frozen? ⟨w.heap.size + 1 + 1, 1, none⟩ = false ∧ w'.cell? ⟨w.heap.size + 1 + 1, 2, none⟩ = some (.int .i64 cp) ∧ w'.frozen? ⟨w.heap.size + 1 + 1, 2, none⟩ = false ∧ w'.cell? ⟨w.heap.size + 1 + 1, 3, none⟩ = some (.int .i64 ml) ∧ w'.frozen? ⟨w.heap.size + 1 + 1, 3, none⟩ = false ∧ w'.cell? ⟨w.heap.size + 1 + 1, 4, none⟩ = some (.slice A n c) ∧ w'.frozen? ⟨w.heap.size + 1 + 1, 4, none⟩ = false ∧ w'.cell? ⟨w.heap.size + 1 + 1, 5, none⟩ = some (.int .i64 ph) ∧ w'.frozen? ⟨w.heap.size + 1 + 1, 5, none⟩ = false from fun w' hk => ⟨(hk.cell (p := ⟨w.heap.size, 0, none⟩) (by first | (simp; done) | (simp; omega))).trans (by simp [go_sem]), (hk.frozen (p := ⟨w.heap.size, 0, none⟩) (by first | (simp; done) | (simp; omega))).trans (by simp [go_sem]), (hk.cell (p := ⟨w.heap.size, 1, none⟩) (by first | (simp; done) | (simp; omega))).trans (by simp [go_sem]), (hk.frozen (p := ⟨w.heap.size, 1, none⟩) (by first | (simp; done) | (simp; omega))).trans (by simp [go_sem]), (hk.cell (p := ⟨w.heap.size + 1, 0, none⟩) (by first | (simp; done) | (simp; omega))).trans (by simp [go_sem]), (hk.frozen (p := ⟨w.heap.size + 1, 0, none⟩) (by first | (simp; done) | (simp; omega))).trans (by simp [go_sem]), (hk.cell (p := ⟨w.heap.size + 1, 1, none⟩) (by first | (simp; done) | (simp; omega))).trans (by simp [go_sem]), (hk.frozen (p := ⟨w.heap.size + 1, 1, none⟩) (by first | (simp; done) | (simp; omega))).trans (by simp [go_sem]), (hk.cell (p := ⟨w.heap.size + 1 + 1, 0, none⟩) (by first | (simp; done) | (simp; omega))).trans (by simp [go_sem]), (hk.frozen (p := ⟨w.heap.size + 1 + 1, 0, none⟩) (by first | (simp; done) | (simp; omega))).trans (by simp [go_sem]), (hk.cell (p := ⟨w.heap.size + 1 + 1, 1, none⟩) (by first | (simp; done) | (simp; omega))).trans (by simp [go_sem]), (hk.frozen (p := ⟨w.heap.size + 1 + 1, 1, none⟩) (by first | (simp; done) | (simp; omega))).trans (by simp [go_sem]), (hk.cell (p := ⟨w.heap.size + 1 + 1, 2, none⟩) (by first | (simp; done) | (simp; omega))).trans (by simp [go_sem]), (hk.frozen (p := ⟨w.heap.size + 1 + 1, 2, none⟩) (by first | (simp; done) | (simp; omega))).trans (by simp [go_sem]), (hk.cell (p := ⟨w.heap.size + 1 + 1, 3, none⟩) (by first | (simp; done) | (simp; omega))).trans (by simp [go_sem]), (hk.frozen (p := ⟨w.heap.size + 1 + 1, 3, none⟩) (by first | (simp; done) | (simp; omega))).trans (by simp [go_sem]), (hk.cell (p := ⟨w.heap.size + 1 + 1, 4, none⟩) (by first | (simp; done) | (simp; omega))).trans (by simp [go_sem]), (hk.frozen (p := ⟨w.heap.size + 1 + 1, 4, none⟩) (by first | (simp; done) | (simp; omega))).trans (by simp [go_sem]), (hk.cell (p := ⟨w.heap.size + 1 + 1, 5, none⟩) (by first | (simp; done) | (simp; omega))).trans (by simp [go_sem]), (hk.frozen (p := ⟨w.heap.size + 1 + 1, 5, none⟩) (by first | (simp; done) | (simp; omega))).trans (by simp [go_sem])⟩)
  have HB := Lib.hid (show Keeps w (((w.alloc (.cells #[.int .i64 a.1, .int .i64 a.2] 37)).alloc (.cells #[.int .i64 b.1, .int .i64 b.2] 37)).alloc (.cells #[.int .i64 wd, .int .i64 jn, .int .i64 cp, .int .i64 ml, .slice A n c, .int .i64 ph] 27)) from (by (repeat (first | (with_reducible exact Keeps.refl _) | (with_reducible assumption) | (with_reducible refine Keeps.drewN ?_ _) | (with_reducible refine Keeps.drew ?_) | (with_reducible refine Keeps.alloc ?_ _) | (with_reducible refine Keeps.setNew ?_ ?_ _))) <;> (dsimp only; omega)))
  have hk0 := Keeps.refl (((w.alloc (.cells #[.int .i64 a.1, .int .i64 a.2] 37)).alloc (.cells #[.int .i64 b.1, .int .i64 b.2] 37)).alloc (.cells #[.int .i64 wd, .int .i64 jn, .int .i64 cp, .int .i64 ml, .slice A n c, .int .i64 ph] 27))
  have K1 := Lib.hid (fun w => rcap_any a b wd w)
  have K2 := Lib.hid (fun w => rdisc_any b wd w)
  unfold endL
  by_cases h5 : cp = 5
  · rw [if_pos h5]
    have q5 : (cp == 5) = true := by rw [h5]; rfl
    clear h5
    go_enter Tryz.func45, Tryz.ntmps45
    go_wp2_with (go_at_call 63; (with_reducible refine (K1.out _).mono ?_); rintro e w1 hr; obtain ⟨v, rfl, ho, hk⟩ := OwnP.later hr HB.out)
    go_ret
    exact ⟨v, rfl, ho, hk⟩
  · rw [if_neg h5]
    have q5 : (cp == 5) = false := by rw [beq_eq_false_iff_ne]; exact h5
    by_cases h3 : cp = 3
    · rw [if_pos h3]
      have q3 : (cp == 3) = true := by rw [h3]; rfl
      clear h5 h3
      go_enter Tryz.func45, Tryz.ntmps45
      go_wp2_with (go_at_call 62; (with_reducible refine (K2.out _).mono ?_); rintro e w1 hr; obtain ⟨v, rfl, ho, hk⟩ := OwnP.later hr HB.out)
      go_ret
      exact ⟨v, rfl, ho, hk⟩
    · rw [if_neg h3]
      have q3 : (cp == 3) = false := by rw [beq_eq_false_iff_ne]; exact h3
      clear h5 h3
      go_enter Tryz.func45, Tryz.ntmps45
      go_wp2_with fail
      go_ret
      exact OwnP.nil HB.out
set_option maxHeartbeats 1000000 in
theorem rdot24_any (p : Pt) (wd jn cp ml ph : Int) (A : Option Addr) (n c : Nat) (w : World) :
    Calls Tryz.prog 44 #[.agg #[.int .i64 p.1, .int .i64 p.2], .agg #[.int .i64 wd, .int .i64 jn, .int .i64 cp, .int .i64 ml, .slice A n c, .int .i64 ph]] w (OwnP w (dotR p wd cp)) := by
  have HS := Lib.hid (show ∀ w', Keeps ((w.alloc (.cells #[.int .i64 p.1, .int .i64 p.2] 37)).alloc (.cells #[.int .i64 wd, .int .i64 jn, .int .i64 cp, .int .i64 ml, .slice A n c, .int .i64 ph] 27)) w' → w'.cell? ⟨w.heap.size, 0, none⟩ = some (.int .i64 p.1) ∧ w'.frozen? ⟨w.heap.size, 0, none⟩ = false ∧ w'.cell? ⟨w.heap.size, 1, none⟩ = some (.int .i64 p.2) ∧ w'.frozen? ⟨w.heap.size, 1, none⟩ = false ∧ w'.cell? ⟨w.heap.size + 1, 0, none⟩ = some (.int .i64 wd) ∧ w'.frozen? ⟨w.heap.size + 1, 0, none⟩ = false ∧ w'.cell? ⟨w.heap.size + 1, 1, none⟩ = some (.int .i64 jn) ∧ w'.frozen? ⟨w.heap.size + 1, 1, none⟩ = false ∧ w'.cell? ⟨w.heap.size + 1, 2, none⟩ = some (.int .i64 cp) ∧ w'.frozen? ⟨w.heap.size + 1, 2, none⟩ = false ∧ w'.cell? ⟨w.heap.size + 1, 3, none⟩ = some (.int .i64 ml) ∧ w'.frozen? ⟨w.heap.size + 1, 3, none⟩ = false ∧ w'.cell? ⟨w.heap.size + 1, 4, none⟩ = some (.slice A n c) ∧ w'.frozen? ⟨w.heap.size + 1, 4, none⟩ = false ∧ w'.cell? ⟨w.heap.size + 1, 5, none⟩ = some (.int .i64 ph) ∧ w'.frozen? ⟨w.heap.size + 1, 5, none⟩ = false from fun w' hk => ⟨(hk.cell (p := ⟨w.heap.size, 0, none⟩) (by first | (simp; done) | (simp; omega))).trans (by simp [go_sem]), (hk.frozen (p := ⟨w.heap.size, 0, none⟩) (by first | (simp; done) | (simp; omega))).trans (by simp [go_sem]), (hk.cell (p := ⟨w.heap.size, 1, none⟩) (by first | (simp; done) | (simp; omega))).trans (by simp [go_sem]), (hk.frozen (p := ⟨w.heap.size, 1, none⟩) (by first | (simp; done) | (simp; omega))).trans (by simp [go_sem]), (hk.cell (p := ⟨w.heap.size + 1, 0, none⟩) (by first | (simp; done) | (simp; omega))).trans (by simp [go_sem]), (hk.frozen (p := ⟨w.heap.size + 1, 0, none⟩) (by first | (simp; done) | (simp; omega))).trans (by simp [go_sem]), (hk.cell (p := ⟨w.heap.size + 1, 1, none⟩) (by first | (simp; done) | (simp; omega))).trans (by simp [go_sem]), (hk.frozen (p := ⟨w.heap.size + 1, 1, none⟩) (by first | (simp; done) | (simp; omega))).trans (by simp [go_sem]), (hk.cell (p := ⟨w.heap.size + 1, 2, none⟩) (by first | (simp; done) | (simp; omega))).trans (by simp [go_sem]), (hk.frozen (p := ⟨w.heap.size + 1, 2, none⟩) (by first | (simp; done) | (simp; omega))).trans (by simp [go_sem]), (hk.cell (p := ⟨w.heap.size + 1, 3, none⟩) (by first | (simp; done) | (simp; omega))).trans (by simp [go_sem]), (hk.frozen (p := ⟨w.heap.size + 1, 3, none⟩) (by first | (simp; done) | (simp; omega))).trans (by simp [go_sem]), (hk.cell (p := ⟨w.heap.size + 1, 4, none⟩) (by first | (simp; done) | (simp; omega))).trans (by simp [go_sem]), (hk.frozen (p := ⟨w.heap.size + 1, 4, none⟩) (by first | (simp; done) | (simp; omega))).trans (by simp [go_sem]), (hk.cell (p := ⟨w.heap.size + 1, 5, none⟩) (by first | (simp; done) | (simp; omega))).trans (by simp [go_sem]), (hk.frozen (p := ⟨w.heap.size + 1, 5, none⟩) (by first | (simp; done) | (simp; omega))).trans (by simp [go_sem])⟩)
  have HB := Lib.hid (show Keeps w ((w.alloc (.cells #[.int .i64 p.1, .int .i64 p.2] 37)).alloc (.cells #[.int .i64 wd, .int .i64 jn, .int .i64 cp, .int .i64 ml, .slice A n c, .int .i64 ph] 27)) from (by (repeat (first | (with_reducible exact Keeps.refl _) | (with_reducible assumption) | (with_reducible refine Keeps.drewN ?_ _) | (with_reducible refine Keeps.drew ?_) | (with_reducible refine Keeps.alloc ?_ _) | (with_reducible refine Keeps.setNew ?_ ?_ _))) <;> (dsimp only; omega)))
  have hk0 := Keeps.refl ((w.alloc (.cells #[.int .i64 p.1, .int .i64 p.2] 37)).alloc (.cells #[.int .i64 wd, .int .i64 jn, .int .i64 cp, .int .i64 ml, .slice A n c, .int .i64 ph] 27))
  have K1 := Lib.hid (fun w => rdot22_any p wd w)
  have K2 := Lib.hid (fun w => rdisc_any p wd w)
  unfold dotR
  by_cases h5 : cp = 5
  · rw [if_pos h5]
    have q5 : (cp == 5) = true := by rw [h5]; rfl
    clear h5
    go_enter Tryz.func44, Tryz.ntmps44
    go_wp2_with (go_at_call 61; (with_reducible refine (K1.out _).mono ?_); rintro e w1 hr; obtain ⟨v, rfl, ho, hk⟩ := OwnP.later hr HB.out)
    go_ret
    exact ⟨v, rfl, ho, hk⟩
  · rw [if_neg h5]
    have q5 : (cp == 5) = false := by rw [beq_eq_false_iff_ne]; exact h5
    by_cases h3 : cp = 3
    · rw [if_pos h3]
      have q3 : (cp == 3) = true := by rw [h3]; rfl
      clear h5 h3
      go_enter Tryz.func44, Tryz.ntmps44
      go_wp2_with (go_at_call 62; (with_reducible refine (K2.out _).mono ?_); rintro e w1 hr; obtain ⟨v, rfl, ho, hk⟩ := OwnP.later hr HB.out)
      go_ret
      exact ⟨v, rfl, ho, hk⟩
    · rw [if_neg h3]
      have q3 : (cp == 3) = false := by rw [beq_eq_false_iff_ne]; exact h3
      clear h5 h3
      go_enter Tryz.func44, Tryz.ntmps44
      go_wp2_with fail
      go_ret
      exact OwnP.nil HB.out
end
end

section
section
open Go.RowKit
attribute [local go_sem ↓] Go.wp_at_zero Go.wp_at_succ
set_option linter.unusedVariables false
set_option linter.unusedSimpArgs false
def bodsL (closed : Bool) (L : List Pt) (wd : Int) : List (List Pt) := if L.length ≤ 1 then [] else flatTo (bodyR L wd) (segK closed L.length)
set_option maxRecDepth 100000 in
set_option maxHeartbeats 8000000 in
theorem bods_any (cl : Bool) (A : Option Addr) (n c : Nat) (L : List Pt) (wd jn cp ml ph : Int) (Ad : Option Addr) (nd cd : Nat) (w : World) (h : Pts w A n c L) (hn : n ≤ 100000) :
    Calls Tryz.prog 41 #[.agg #[.slice A n c, .bool cl], .agg #[.int .i64 wd, .int .i64 jn, .int .i64 cp, .int .i64 ml, .slice Ad nd cd, .int .i64 ph]] w fun e w' => ∃ v, e = .returned v ∧ GRws w' w.heap.size v (bodsL cl L wd) ∧ Keeps w w' := by
  have hl := h.1
  have hni : (n : Int) ≤ 100000 := by omega
  have HS := Lib.hid (show ∀ w', Keeps ((w.alloc (.cells #[.slice A n c, .bool cl] 24)).alloc (.cells #[.int .i64 wd, .int .i64 jn, .int .i64 cp, .int .i64 ml, .slice Ad nd cd, .int .i64 ph] 27)) w' → w'.cell? ⟨w.heap.size, 0, none⟩ = some (.slice A n c) ∧ w'.frozen? ⟨w.heap.size, 0, none⟩ = false ∧ w'.cell? ⟨w.heap.size, 1, none⟩ = some (.bool cl) ∧ w'.frozen? ⟨w.heap.size, 1, none⟩ = false ∧ w'.cell? ⟨w.heap.size + 1, 0, none⟩ = some (.int .i64 wd) ∧ w'.frozen? ⟨w.heap.size + 1, 0, none⟩ = false ∧ w'.cell? ⟨w.heap.size + 1, 1, none⟩ = some (.int .i64 jn) ∧ w'.frozen? ⟨w.heap.size + 1, 1, none⟩ = false ∧ w'.cell? ⟨w.heap.size + 1, 2, none⟩ = some (.int .i64 cp) ∧ w'.frozen? ⟨w.heap.size + 1, 2, none⟩ = false ∧ w'.cell? ⟨w.heap.size + 1, 3, none⟩ = some (.int .i64 ml) ∧ w'.frozen? ⟨w.heap.size + 1, 3, none⟩ = false ∧ w'.cell? ⟨w.heap.size + 1, 4, none⟩ = some (.slice Ad nd cd) ∧ w'.frozen? ⟨w.heap.size + 1, 4, none⟩ = false ∧ w'.cell? ⟨w.heap.size + 1, 5, none⟩ = some (.int .i64 ph) ∧ w'.frozen? ⟨w.heap.size + 1, 5, none⟩ = false from fun w' hk => ⟨(hk.cell (p := ⟨w.heap.size, 0, none⟩) (by first | (simp; done) | (simp; omega))).trans (by simp [go_sem]), (hk.frozen (p := ⟨w.heap.size, 0, none⟩) (by first | (simp; done) | (simp; omega))).trans (by simp [go_sem]), (hk.cell (p := ⟨w.heap.size, 1, none⟩) (by first | (simp; done) | (simp; omega))).trans (by simp [go_sem]), (hk.frozen (p := ⟨w.heap.size, 1, none⟩) (by first | (simp; done) | (simp; omega))).trans (by simp [go_sem]), (hk.cell (p := ⟨w.heap.size + 1, 0, none⟩) (by first | (simp; done) | (simp; omega))).trans (by simp [go_sem]), (hk.frozen (p := ⟨w.heap.size + 1, 0, none⟩) (by first | (simp; done) | (simp; omega))).trans (by simp [go_sem]), (hk.cell (p := ⟨w.heap.size + 1, 1, none⟩) (by first | (simp; done) | (simp; omega))).trans (by simp [go_sem]), (hk.frozen (p := ⟨w.heap.size + 1, 1, none⟩) (by first | (simp; done) | (simp; omega))).trans (by simp [go_sem]), (hk.cell (p := ⟨w.heap.size + 1, 2, none⟩) (by first | (simp; done) | (simp; omega))).trans (by simp [go_sem]), (hk.frozen (p := ⟨w.heap.size + 1, 2, none⟩) (by first | (simp; done) | (simp; omega))).trans (by simp [go_sem]), (hk.cell (p := ⟨w.heap.size + 1, 3, none⟩) (by first | (simp; done) | (simp; omega))).trans (by simp [go_sem]), (hk.frozen (p := ⟨w.heap.size + 1, 3, none⟩) (by first | (simp; done) | (simp; omega))).trans (by simp [go_sem]), (hk.cell (p := ⟨w.heap.size + 1, 4, none⟩) (by first | (simp; done) | (simp; omega))).trans (by simp [go_sem]), (hk.frozen (p := ⟨w.heap.size + 1, 4, none⟩) (by first | (simp; done) | (simp; omega))).trans (by simp [go_sem]), (hk.cell (p := ⟨w.heap.size + 1, 5, none⟩) (by first | (simp; done) | (simp; omega))).trans (by simp [go_sem]), (hk.frozen (p := ⟨w.heap.size + 1, 5, none⟩) (by first | (simp; done) | (simp; omega))).trans (by simp [go_sem])⟩)
  have HB := Lib.hid (show Keeps w ((w.alloc (.cells #[.slice A n c, .bool cl] 24)).alloc (.cells #[.int .i64 wd, .int .i64 jn, .int .i64 cp, .int .i64 ml, .slice Ad nd cd, .int .i64 ph] 27)) from (by (repeat (first | (with_reducible exact Keeps.refl _) | (with_reducible assumption) | (with_reducible refine Keeps.drewN ?_ _) | (with_reducible refine Keeps.drew ?_) | (with_reducible refine Keeps.alloc ?_ _) | (with_reducible refine Keeps.setNew ?_ ?_ _))) <;> (dsimp only; omega)))
  have hk0 := Keeps.refl ((w.alloc (.cells #[.slice A n c, .bool cl] 24)).alloc (.cells #[.int .i64 wd, .int .i64 jn, .int .i64 cp, .int .i64 ml, .slice Ad nd cd, .int .i64 ph] 27))
  have hWs : (((w.alloc (.cells #[.slice A n c, .bool cl] 24)).alloc (.cells #[.int .i64 wd, .int .i64 jn, .int .i64 cp, .int .i64 ml, .slice Ad nd cd, .int .i64 ph] 27))).heap.size = w.heap.size + 2 := by simp
  have HP := Lib.hid (fun w' (hk : Keeps w w') => h.keep hk)
  clear h
  unfold bodsL
  by_cases h1 : n ≤ 1
  · rw [if_pos (by omega)]
    have hno : ¬ (1 : Int) < n := by omega
    have hB0 := Lib.hid ((GRws.nil ((w.alloc (.cells #[.slice A n c, .bool cl] 24)).alloc (.cells #[.int .i64 wd, .int .i64 jn, .int .i64 cp, .int .i64 ml, .slice Ad nd cd, .int .i64 ph] 27)) (w.heap.size) (w.heap.size + 2) 0 hWs (by omega)))
    go_enter Tryz.func41, Tryz.ntmps41
    go_wp2_with fail
    generalize ((w.alloc (.cells #[.slice A n c, .bool cl] 24)).alloc (.cells #[.int .i64 wd, .int .i64 jn, .int .i64 cp, .int .i64 ml, .slice Ad nd cd, .int .i64 ph] 27)) = W0 at *
    go_loopw [5, 7] (fun q i wr => i = .int .i64 0 ∧ q = .slice (some ⟨w.heap.size + 2, 0, none⟩) 0 0 ∧ Keeps W0 wr ∧ Hid (GRws wr w.heap.size (.slice (some ⟨w.heap.size + 2, 0, none⟩) 0 0) [])) (fun _ _ _ => 0)
    case atStart => exact ⟨rfl, by simp [hWs], hk0.alloc _, hB0⟩
    case round =>
      clear hB0
      obtain ⟨rfl, rfl, hkw, hB0⟩ := hrel
      obtain ⟨y0, y1, y2, y3, y4, y5, y6, y7, y8, y9, y10, y11, y12, y13, y14, y15⟩ := HS.out _ hkw
      cases cl
      all_goals
        go_wp2_with fail
        go_ret
        exact ⟨_, rfl, hB0.out, HB.out.trans hkw⟩
  · rw [if_neg (by omega)]
    obtain ⟨b, o, rfl, hbw, hC0⟩ := (HP.out _ (Keeps.refl _)).2.2.2.2 (by omega)
    have hPt := Lib.hid (fun q (hq : q < n) w' (hk : Keeps w w') => (hC0 q hq).keep hbw hk)
    obtain ⟨m1, hm1⟩ : ∃ m1 : Nat, n = m1 + 1 := ⟨n - 1, by omega⟩
    have e1 : (n : Int) - 1 = m1 := by omega
    have ew1 : IntKind.i64.wrap (m1 : Int) = m1 := IntWalk.i64_in _ (by omega)
    have el1 : (m1 : Int) < n := by omega
    have el0 : (0 : Int) < n := by omega
    have elq : (1 : Int) < n := by omega
    have el0n : 0 < n := by omega
    have el1n : 1 < n := by omega
    have hm1a : n ≤ m1 + 1 := by omega
    have hm1b : m1 + 1 ≤ n := by omega
    clear hC0 hbw hm1
    have hB0 := Lib.hid ((GRws.nil ((w.alloc (.cells #[.slice (some ⟨b, o, none⟩) n c, .bool cl] 24)).alloc (.cells #[.int .i64 wd, .int .i64 jn, .int .i64 cp, .int .i64 ml, .slice Ad nd cd, .int .i64 ph] 27)) (((w.alloc (.cells #[.slice (some ⟨b, o, none⟩) n c, .bool cl] 24)).alloc (.cells #[.int .i64 wd, .int .i64 jn, .int .i64 cp, .int .i64 ml, .slice Ad nd cd, .int .i64 ph] 27))).heap.size (w.heap.size + 2) 0 hWs (by omega)))
    go_enter Tryz.func41, Tryz.ntmps41
    go_wp2_with fail
    generalize ((w.alloc (.cells #[.slice (some ⟨b, o, none⟩) n c, .bool cl] 24)).alloc (.cells #[.int .i64 wd, .int .i64 jn, .int .i64 cp, .int .i64 ml, .slice Ad nd cd, .int .i64 ph] 27)) = W0 at *
    go_loopw [5, 7] (fun q i wr => ∃ (j : Nat) (Aq : Option Addr) (cq : Nat), j + 1 ≤ n ∧ i = .int .i64 j ∧ q = .slice Aq (flatTo (bodyR L wd) j).length cq ∧ Keeps W0 wr ∧ Hid (GRws wr W0.heap.size (.slice Aq (flatTo (bodyR L wd) j).length cq) (flatTo (bodyR L wd) j))) (fun _ i _ => n - (intOf i).toNat)
    case atStart => exact ⟨0, some ⟨w.heap.size + 2, 0, none⟩, 0, by omega, rfl, by first | rfl | simp [flatTo, hWs], hk0.alloc _, by first | exact hB0 | (simpa [flatTo, hWs] using hB0)⟩
    case round =>
      clear hB0 hk0
      obtain ⟨j, Aq, cq, hj, rfl, rfl, hkw, hF⟩ := hrel
      have hfl := flatTo_len (bodyR L wd) (fun i => wrapL_len _) j
      obtain ⟨y0, y1, y2, y3, y4, y5, y6, y7, y8, y9, y10, y11, y12, y13, y14, y15⟩ := HS.out _ hkw
      by_cases hlt : j + 1 < n
      · have hlt2 : (j : Int) + 1 < n := by omega
        have hlt3 : (j : Int) < n := by omega
        have hT := Lib.hid (show flatTo (bodyR L wd) (j + 1) = flatTo (bodyR L wd) j ++ wrapL (bodyL (L.getD j pt0) (L.getD (j + 1) pt0) wd) by rw [flatTo, bodyR, hl, Nat.mod_eq_of_lt hlt])
        have gp := hPt.out j (by omega)
        have gq := hPt.out (j + 1) (by omega)
        have KB := Lib.hid (fun w => rbody_any (L.getD j pt0) (L.getD (j + 1) pt0) wd w)
        have hbk := Lib.hid (bodyL_ok (L.getD j pt0) (L.getD (j + 1) pt0) wd)
        have hbl := bodyL_len (L.getD j pt0) (L.getD (j + 1) pt0) wd
        generalize L.getD j pt0 = p at *
        generalize L.getD (j + 1) pt0 = q at *
        generalize bodyL p q wd = X at *
        generalize flatTo (bodyR L wd) j = LT at *
        go_wp2_with fail
        clear y0 y1 y2 y3 y4 y5 y6 y7 y8 y9 y10 y11 y12 y13 y14 y15
        have z0 : ∀ k : KW wr, k.w.cell? ⟨w.heap.size, 0, none⟩ = some (.slice (some ⟨b, o, none⟩) n c) := fun k => (HS.out _ (hkw.trans k.keeps)).1
        have z2 : ∀ k : KW wr, k.w.cell? ⟨w.heap.size + 1, 0, none⟩ = some (.int .i64 wd) := fun k => (HS.out _ (hkw.trans k.keeps)).2.2.2.2.1
        have z20 : ∀ k : KW wr, k.w.cell? ⟨b, o + j * 2, none⟩ = some (.int .i64 p.1) := fun k => (gp _ (HB.out.trans (hkw.trans k.keeps))).1
        have z21 : ∀ k : KW wr, k.w.cell? ⟨b, o + j * 2 + 1, none⟩ = some (.int .i64 p.2) := fun k => (gp _ (HB.out.trans (hkw.trans k.keeps))).2
        have z22 : ∀ k : KW wr, k.w.cell? ⟨b, o + (j + 1) * 2, none⟩ = some (.int .i64 q.1) := fun k => (gq _ (HB.out.trans (hkw.trans k.keeps))).1
        have z23 : ∀ k : KW wr, k.w.cell? ⟨b, o + (j + 1) * 2 + 1, none⟩ = some (.int .i64 q.2) := fun k => (gq _ (HB.out.trans (hkw.trans k.keeps))).2
        refine wp_region_kept_tail1 (v := ?_) 14 (wr) (by kernel_rfl) (by kernel_rfl) (Keeps.refl _) (Or.inl ⟨by rfl, ?_⟩) (fun _ _ _ h => h) ?_; rotate_left; · (intro w; go_simp; try with_reducible rfl)
        simp only [Act.put, List.setIfInBounds_toArray, List.set_cons_zero, List.set_cons_succ, List.take_succ_cons, List.take_zero, List.drop_succ_cons, List.drop_zero, Nat.reduceSub]
        repeat (first | go_big_quiet_skip | (go_big_quiet_want; go_big_quiet_op; first | go_big_quiet_on | go_big_quiet_call (fail)))
        refine wpQuiet_nil ?_
        rintro w' ⟨k9, rfl⟩
        have hk := k9.keeps
        generalize k9.w = w9 at hk ⊢
        clear k9
        clear z0 z2 z20 z21 z22 z23 gp gq
        go_wp2_with (first | (go_at_call 59; (with_reducible refine (KB.out _).mono ?_); rintro e w10 ⟨v, rfl, ho, hk10⟩; obtain ⟨Ax, cx, rfl, hPx⟩ := Pts.of_own ho rfl hbk.out; have hfx := Lib.hid (show ∀ a, Ax = some a → W0.heap.size ≤ a.block ∧ some a.block ≠ Value.ownBlock (.slice Aq LT.length cq) from fun a ha => ⟨Nat.le_trans (Nat.le_trans hkw.size hk.size) (own_blocks ho a ha).1, fun e => by have h1 := (own_blocks ho a ha).1; have h2 := hk.size; have h3 := (hF.out.lt _ e.symm).2; omega⟩); have hPx := Lib.hid hPx; have hkk := Lib.hid (hk.trans hk10); clear ho) | (go_at_call 43; (with_reducible refine (rapp_any W0.heap.size _ _ Ax _ cx _ _ (hF.out.keep hkk.out) (Nat.le_trans hkw.size hkk.out.size) hPx.out (by omega) hfx.out (by omega)).mono ?_); rintro e w12 ⟨v12, rfl, hB12, hk12⟩; have hkw12 := hk12 W0 (hkw.trans hkk.out) (Nat.le_refl _); have hB12 := Lib.hid hB12; obtain ⟨A12, c12, rfl⟩ := hB12.out.row) | fail "ARM")
        go_roundw
        case rel => exact ⟨j + 1, A12, c12, by omega, by go_num, by rw [hT.out, List.length_append], hkw12, by rw [hT.out]; exact hB12⟩
        case measure => simp [intOf]; omega
      · have hjm : m1 = j := by omega
        subst hjm
        have hlt2 : ¬ (m1 : Int) + 1 < n := by omega
        cases cl with
        | false =>
          have hT := Lib.hid (show flatTo (bodyR L wd) (segK false n) = flatTo (bodyR L wd) m1 by rw [show segK false n = m1 from (show n - 1 = m1 by omega)])
          go_wp2_with fail
          go_ret
          first | rw [hT.out] | rw [hl, hT.out]
          exact ⟨_, rfl, hF.out.base HB.out.size, HB.out.trans hkw⟩
        | true =>
          have hT := Lib.hid (show flatTo (bodyR L wd) (segK true L.length) = flatTo (bodyR L wd) m1 ++ wrapL (bodyL (L.getD m1 pt0) (L.getD 0 pt0) wd) by rw [hl, show segK true n = m1 + 1 from (show n = m1 + 1 by omega), flatTo, bodyR, hl, show (m1 + 1) % n = 0 by rw [show m1 + 1 = n by omega, Nat.mod_self]])
          have gp := hPt.out m1 (by omega)
          have gq := hPt.out 0 (by omega)
          simp only [Nat.zero_mul, Nat.add_zero] at gq
          have KB := Lib.hid (fun w => rbody_any (L.getD m1 pt0) (L.getD 0 pt0) wd w)
          have hbk := Lib.hid (bodyL_ok (L.getD m1 pt0) (L.getD 0 pt0) wd)
          have hbl := bodyL_len (L.getD m1 pt0) (L.getD 0 pt0) wd
          generalize L.getD m1 pt0 = p at *
          generalize L.getD 0 pt0 = q at *
          generalize bodyL p q wd = X at *
          generalize flatTo (bodyR L wd) m1 = LT at *
          go_wp2_with fail
          clear y0 y1 y2 y3 y4 y5 y6 y7 y8 y9 y10 y11 y12 y13 y14 y15
          have z0 : ∀ k : KW wr, k.w.cell? ⟨w.heap.size, 0, none⟩ = some (.slice (some ⟨b, o, none⟩) n c) := fun k => (HS.out _ (hkw.trans k.keeps)).1
          have z2 : ∀ k : KW wr, k.w.cell? ⟨w.heap.size + 1, 0, none⟩ = some (.int .i64 wd) := fun k => (HS.out _ (hkw.trans k.keeps)).2.2.2.2.1
          have z20 : ∀ k : KW wr, k.w.cell? ⟨b, o + m1 * 2, none⟩ = some (.int .i64 p.1) := fun k => (gp _ (HB.out.trans (hkw.trans k.keeps))).1
          have z21 : ∀ k : KW wr, k.w.cell? ⟨b, o + m1 * 2 + 1, none⟩ = some (.int .i64 p.2) := fun k => (gp _ (HB.out.trans (hkw.trans k.keeps))).2
          have z22 : ∀ k : KW wr, k.w.cell? ⟨b, o, none⟩ = some (.int .i64 q.1) := fun k => (gq _ (HB.out.trans (hkw.trans k.keeps))).1
          have z23 : ∀ k : KW wr, k.w.cell? ⟨b, o + 1, none⟩ = some (.int .i64 q.2) := fun k => (gq _ (HB.out.trans (hkw.trans k.keeps))).2
          refine wp_region_kept_tail1 (v := ?_) 13 (wr) (by kernel_rfl) (by kernel_rfl) (Keeps.refl _) (Or.inl ⟨by rfl, ?_⟩) (fun _ _ _ h => h) ?_; rotate_left; · (intro w; go_simp; try with_reducible rfl)
          simp only [Act.put, List.setIfInBounds_toArray, List.set_cons_zero, List.set_cons_succ, List.take_succ_cons, List.take_zero, List.drop_succ_cons, List.drop_zero, Nat.reduceSub]
          repeat (first | go_big_quiet_skip | (go_big_quiet_want; go_big_quiet_op; first | go_big_quiet_on | go_big_quiet_call (fail)))
          refine wpQuiet_nil ?_
          rintro w' ⟨k9, rfl⟩
          have hk := k9.keeps
          generalize k9.w = w9 at hk ⊢
          clear k9
          clear z0 z2 z20 z21 z22 z23 gp gq
          go_wp2_with (first | (go_at_call 59; (with_reducible refine (KB.out _).mono ?_); rintro e w10 ⟨v, rfl, ho, hk10⟩; obtain ⟨Ax, cx, rfl, hPx⟩ := Pts.of_own ho rfl hbk.out; have hfx := Lib.hid (show ∀ a, Ax = some a → W0.heap.size ≤ a.block ∧ some a.block ≠ Value.ownBlock (.slice Aq LT.length cq) from fun a ha => ⟨Nat.le_trans (Nat.le_trans hkw.size hk.size) (own_blocks ho a ha).1, fun e => by have h1 := (own_blocks ho a ha).1; have h2 := hk.size; have h3 := (hF.out.lt _ e.symm).2; omega⟩); have hPx := Lib.hid hPx; have hkk := Lib.hid (hk.trans hk10); clear ho) | (go_at_call 43; (with_reducible refine (rapp_any W0.heap.size _ _ Ax _ cx _ _ (hF.out.keep hkk.out) (Nat.le_trans hkw.size hkk.out.size) hPx.out (by omega) hfx.out (by omega)).mono ?_); rintro e w12 ⟨v12, rfl, hB12, hk12⟩; have hkw12 := hk12 W0 (hkw.trans hkk.out) (Nat.le_refl _); have hB12 := Lib.hid hB12; obtain ⟨A12, c12, rfl⟩ := hB12.out.row) | fail "ARM")
          go_ret
          first | rw [hT.out] | rw [hl, hT.out] | rw [← hl, hT.out]
          refine ⟨_, rfl, ?_, HB.out.trans hkw12⟩
          have hz := hB12.out.base HB.out.size
          first | exact hz | (rw [List.length_append] at hz; exact hz)
end
end
end Go.Proofs.YtdodgnpjlicnoaaGreat
