/- The contract of dash.Apply: its long way. -/
import Derived.Test.YtihmhpleiefodaaDm
namespace Go.Proofs.Ytihmhpleiefodaa
open Go.RowKit Go.Shelf
set_option linter.unusedVariables false
set_option linter.unusedSimpArgs false
/-- Lines in new memory: address and capacity of the points, closed, the points. -/
abbrev QL := List (Option Addr × Nat × Bool × List Pt)
def qcells : QL → List Value
  | [] => []
  | q :: r => .slice q.1 q.2.2.2.length q.2.1 :: .bool q.2.2.1 :: qcells r
def qPL (Q : QL) : List (Bool × List Pt) := Q.map fun q => (q.2.2.1, q.2.2.2)
theorem qcells_append : ∀ (a b : QL), qcells (a ++ b) = qcells a ++ qcells b
  | [], b => rfl
  | q :: r, b => by rw [List.cons_append, qcells, qcells, qcells_append r b]; rfl
theorem qcells_get : ∀ (Q : QL) (k : Nat) (h : k < Q.length), (qcells Q)[k * 2]? = some (.slice Q[k].1 Q[k].2.2.2.length Q[k].2.1) ∧ (qcells Q)[k * 2 + 1]? = some (.bool Q[k].2.2.1)
  | [], k, h => by simp at h
  | q :: r, 0, _ => ⟨rfl, rfl⟩
  | q :: r, k + 1, h => by
    have ih := qcells_get r k (by simpa using h)
    rw [qcells, show (k + 1) * 2 = k * 2 + 1 + 1 by omega]
    simpa using ih
def QOwn (W : World) (B : Nat) (Q : QL) : Prop := ∀ q ∈ Q, W.ownsRow B 50 2 (.slice q.1 q.2.2.2.length q.2.1) q.2.2.2.length (rowP q.2.2.2) ∧ ∀ p ∈ q.2.2.2, okP p
theorem QOwn.kept {X Y : World} {row : Option Nat} {B : Nat} {Q : QL} (h : QOwn X B Q) (hg : X.grownBy Y row) (hr : ∀ r, row = some r → ∃ o, X.heap[r]? = some o ∧ ∀ cs f, o ≠ .cells cs 50 f) : QOwn Y B Q := fun q hq => by
  obtain ⟨h1, h2⟩ := h q hq
  refine ⟨h1.kept hg ?_, h2⟩
  rcases h1.2 with ⟨e, _⟩ | ⟨g, cap, cur, e, _, hgb, _⟩
  · rw [e]; exact .inl rfl
  · rw [e]
    refine .inr fun e' => ?_
    obtain ⟨o, ho, hc⟩ := hr g (by simpa [Value.ownBlock] using e'.symm)
    rw [hgb] at ho
    cases ho
    exact hc _ _ rfl
theorem QOwn.keep {X Y : World} {B : Nat} {Q : QL} (h : QOwn X B Q) (hk : Keeps X Y) : QOwn Y B Q := h.kept (grown_keeps hk) (fun r e => by cases e)
theorem QOwn.base {X : World} {B B' : Nat} {Q : QL} (h : QOwn X B Q) (hb : B' ≤ B) : QOwn X B' Q := fun q hq => ⟨own_base (h q hq).1 hb, (h q hq).2⟩
theorem QOwn.set {X : World} {B b i : Nat} {u : Value} {t : TypeId} {cs : Array Value} {Q : QL} (h : QOwn X B Q) (hb : BoxN X b t cs) (ht : t ≠ 50) : QOwn (X.setCell ⟨b, i, none⟩ u) B Q :=
  h.kept (grown_set X b i u) (fun r e => by cases e; exact ⟨_, hb, fun cs f e => by cases e; exact ht rfl⟩)
theorem QOwn.app {X Y : World} {B B2 size n : Nat} {t : TypeId} {v : Value} {xs : List Value} {Q : QL} (h : QOwn X B Q) (ho : X.ownsRow B2 t size v n xs) (hg : X.grownBy Y v.ownBlock) (ht : t ≠ 50) : QOwn Y B Q :=
  h.kept hg (fun r e => by
    rcases ho.2 with ⟨rfl, _⟩ | ⟨g, cap, cur, rfl, _, hgb, _⟩
    · simp [Value.ownBlock] at e
    · obtain rfl : g = r := by simpa [Value.ownBlock] using e
      exact ⟨_, hgb, fun cs f e => by cases e; exact ht rfl⟩)
theorem row_far {X : World} {B b i size n : Nat} {u v : Value} {t : TypeId} {xs : List Value} (h : X.ownsRow B t size v n xs) (hb : b < B) : (X.setCell ⟨b, i, none⟩ u).ownsRow B t size v n xs :=
  h.kept (grown_set X b i u) (by
    cases hv : v.ownBlock with
    | none => exact .inl rfl
    | some g => exact .inr (fun e => by cases e; have := row_base h b hv; omega))
theorem QOwn.far {X : World} {B b i : Nat} {u : Value} {Q : QL} (h : QOwn X B Q) (hb : b < B) : QOwn (X.setCell ⟨b, i, none⟩ u) B Q := fun q hq => ⟨row_far (h q hq).1 hb, (h q hq).2⟩
theorem pls_of_own {W : World} {B B2 n : Nat} {v : Value} {Q : QL} (h : W.ownsRow B2 24 2 v n (qcells Q)) (hn : Q.length = n) (hq : QOwn W B Q) : ∃ A c, v = .slice A n c ∧ Pls W A n c (qPL Q) := by
  obtain ⟨A, c, rfl, h1, h2, h3, h4⟩ := SlA.of_own h
  refine ⟨A, c, rfl, by unfold qPL; simp [hn], h1, h2, fun hp => ?_⟩
  obtain ⟨b, o, rfl, hb, hx⟩ := h4 hp
  refine ⟨b, o, rfl, hb, fun k hk => ?_⟩
  have hk' : k < Q.length := by omega
  obtain ⟨g0, g1⟩ := qcells_get Q k hk'
  have e : (qPL Q).getD k pl0 = (Q[k].2.2.1, Q[k].2.2.2) := by
    unfold qPL
    rw [List.getD_eq_getElem?_getD, List.getElem?_eq_getElem (by simpa using hk')]
    simp
  obtain ⟨q1, q2⟩ := hq Q[k] (List.getElem_mem _)
  obtain ⟨A', c', e', hP⟩ := Pts.of_own q1 rfl q2
  cases e'
  refine ⟨_, _, _, (hx (k * 2) (by omega)).trans g0, ?_, ?_⟩
  · rw [e]; exact (hx (k * 2 + 1) (by omega)).trans g1
  · rw [e]; exact hP
theorem KpX.box {n : Nat} {E : List Nat} {X Y : World} (h : KpX n E X Y) {B : Nat} {t : TypeId} {cs : Array Value} (hb : BoxN X B t cs) (h1 : B < n) (h2 : B ∉ E) : BoxN Y B t cs := (h.2 B h1 h2).trans hb
theorem poly_info : (Try.prog.info? 24).map (fun i => (i.zero, i.size, i.bytes)) = some (some (.agg #[.slice none 0 0, .bool false]), 2, 32) := by kernel_rfl
theorem poly_new (w : World) (a b : Value) (t : TypeId) (H : Nat) (hH : w.heap.size = H) : ∀ j x, [a, b][j]? = some x → (w.alloc (.cells #[a, b] t)).cell? ((⟨H, 0, none⟩ : Addr).add j) = some x := by
  subst hH
  intro j x hx
  match j, hx with
  | 0, hx => simp at hx; subst hx; simp [Addr.add]
  | 1, hx => simp at hx; subst hx; simp [Addr.add]
theorem trimC_ok : ∀ (f : Nat) (L : List Pt), (∀ p ∈ L, okP p) → ∀ p ∈ trimC f L, okP p
  | 0, L, h => by unfold trimC; exact h
  | f + 1, L, h => by
    unfold trimC
    split
    · exact trimC_ok f _ (fun p hp => h p (List.mem_of_mem_take hp))
    · exact h
theorem dedC_ok (cl : Bool) (L : List Pt) (h : ∀ p ∈ L, okP p) : ∀ p ∈ dedC cl L, okP p := by
  have h1 := dedTo_ok L h L.length (Nat.le_refl _)
  unfold dedC
  split
  · exact trimC_ok _ _ h1
  · exact h1
theorem cnt_snoc (PL : List (Bool × List Pt)) (p : Bool × List Pt) : cnt (PL ++ [p]) = cnt PL + p.2.length := by simp [cnt]
theorem cnt_pre {P Q : List (Bool × List Pt)} (h : P <+: Q) : cnt P ≤ cnt Q := by
  obtain ⟨r, rfl⟩ := h
  simp [cnt]
/-- Between two rounds of Apply's loop. -/
def ApI (cl : Bool) (M : List Pt) (B : Nat) (W0 W1 : World) (pre : List (IvT (lng (segs cl M)))) (W : World) : Prop := ∃ v Q, BoxN W (B + 1) 40 #[v] ∧ BoxN W (B + 1 + 1) 3 #[.int .i64 (cnt (qPL Q))] ∧ W.ownsRow (B + 5) 24 2 v Q.length (qcells Q) ∧ QOwn W (B + 5) Q ∧ qPL Q = pre.map (fun x => one cl (segs cl M) M x.1) ∧ (cnt (qPL Q) ≤ 4096 ∧ Q.length ≤ cnt (qPL Q)) ∧ Keeps W0 W ∧ KpX (B + 5) [B + 1, B + 1 + 1] W1 W
/-- A round that has left with an error. -/
def ApX (cl : Bool) (M : List Pt) (w : World) (c : Code) (pre : List (IvT (lng (segs cl M)))) (W : World) : Prop := c = .ret ∧ W.cell? ⟨w.heap.size + 1 + 1, 0, none⟩ = some (.slice none 0 0) ∧ W.cell? ⟨w.heap.size + 1 + 1 + 1, 0, none⟩ = some (.int .i64 5) ∧ 4096 < cnt (pre.map (fun x => one cl (segs cl M) M x.1)) ∧ Keeps w W
section
attribute [local go_sem ↓] Go.wp_at_zero Go.wp_at_succ
attribute [local go_sem] Oper.semAt_some
set_option maxRecDepth 100000 in
set_option maxHeartbeats 4000000 in
theorem apply_long (cl : Bool) (A : Option Addr) (n c : Nat) (L : List Pt) (wd jn cp ml ph : Int) (Ad : Option Addr) (nd cd : Nat) (D : List Int) (w : World) (h : Pts w A n c L) (hI : Ins w Ad nd cd D) (hn : n ≤ 4096)
    (hs : stB wd jn cp ml ph D = true) (hv : L.all vP = true) (hnd : 0 < nd) :
    Calls Try.prog 19 #[.agg #[.slice A n c, .bool cl], .agg #[.int .i64 wd, .int .i64 jn, .int .i64 cp, .int .i64 ml, .slice Ad nd cd, .int .i64 ph]] w (ApR w (apV cl L wd jn cp ml ph D)) := by
  have hl := h.1
  have hdl := hI.1
  have HS := Lib.hid (show ∀ w', Keeps ((((w.alloc (.cells #[.slice A n c, .bool cl] 24)).alloc (.cells #[.int .i64 wd, .int .i64 jn, .int .i64 cp, .int .i64 ml, .slice Ad nd cd, .int .i64 ph] 27)).alloc (.cells #[.slice none 0 0] 40)).alloc (.cells #[.int .i64 0] 41)) w' → w'.cell? ⟨w.heap.size, 0, none⟩ = some (.slice A n c) ∧ w'.frozen? ⟨w.heap.size, 0, none⟩ = false ∧ w'.cell? ⟨w.heap.size, 1, none⟩ = some (.bool cl) ∧ w'.frozen? ⟨w.heap.size, 1, none⟩ = false ∧ w'.cell? ⟨w.heap.size + 1, 0, none⟩ = some (.int .i64 wd) ∧ w'.frozen? ⟨w.heap.size + 1, 0, none⟩ = false ∧ w'.cell? ⟨w.heap.size + 1, 1, none⟩ = some (.int .i64 jn) ∧ w'.frozen? ⟨w.heap.size + 1, 1, none⟩ = false ∧ w'.cell? ⟨w.heap.size + 1, 2, none⟩ = some (.int .i64 cp) ∧ w'.frozen? ⟨w.heap.size + 1, 2, none⟩ = false ∧ w'.cell? ⟨w.heap.size + 1, 3, none⟩ = some (.int .i64 ml) ∧ w'.frozen? ⟨w.heap.size + 1, 3, none⟩ = false ∧ w'.cell? ⟨w.heap.size + 1, 4, none⟩ = some (.slice Ad nd cd) ∧ w'.frozen? ⟨w.heap.size + 1, 4, none⟩ = false ∧ w'.cell? ⟨w.heap.size + 1, 5, none⟩ = some (.int .i64 ph) ∧ w'.frozen? ⟨w.heap.size + 1, 5, none⟩ = false ∧ w'.cell? ⟨w.heap.size + 1 + 1, 0, none⟩ = some (.slice none 0 0) ∧ w'.frozen? ⟨w.heap.size + 1 + 1, 0, none⟩ = false ∧ w'.cell? ⟨w.heap.size + 1 + 1 + 1, 0, none⟩ = some (.int .i64 0) ∧ w'.frozen? ⟨w.heap.size + 1 + 1 + 1, 0, none⟩ = false from fun w' hk => ⟨(hk.cell (p := ⟨w.heap.size, 0, none⟩) (by first | (simp; done) | (simp; omega))).trans (by simp [go_sem]), (hk.frozen (p := ⟨w.heap.size, 0, none⟩) (by first | (simp; done) | (simp; omega))).trans (by simp [go_sem]), (hk.cell (p := ⟨w.heap.size, 1, none⟩) (by first | (simp; done) | (simp; omega))).trans (by simp [go_sem]), (hk.frozen (p := ⟨w.heap.size, 1, none⟩) (by first | (simp; done) | (simp; omega))).trans (by simp [go_sem]), (hk.cell (p := ⟨w.heap.size + 1, 0, none⟩) (by first | (simp; done) | (simp; omega))).trans (by simp [go_sem]), (hk.frozen (p := ⟨w.heap.size + 1, 0, none⟩) (by first | (simp; done) | (simp; omega))).trans (by simp [go_sem]), (hk.cell (p := ⟨w.heap.size + 1, 1, none⟩) (by first | (simp; done) | (simp; omega))).trans (by simp [go_sem]), (hk.frozen (p := ⟨w.heap.size + 1, 1, none⟩) (by first | (simp; done) | (simp; omega))).trans (by simp [go_sem]), (hk.cell (p := ⟨w.heap.size + 1, 2, none⟩) (by first | (simp; done) | (simp; omega))).trans (by simp [go_sem]), (hk.frozen (p := ⟨w.heap.size + 1, 2, none⟩) (by first | (simp; done) | (simp; omega))).trans (by simp [go_sem]), (hk.cell (p := ⟨w.heap.size + 1, 3, none⟩) (by first | (simp; done) | (simp; omega))).trans (by simp [go_sem]), (hk.frozen (p := ⟨w.heap.size + 1, 3, none⟩) (by first | (simp; done) | (simp; omega))).trans (by simp [go_sem]), (hk.cell (p := ⟨w.heap.size + 1, 4, none⟩) (by first | (simp; done) | (simp; omega))).trans (by simp [go_sem]), (hk.frozen (p := ⟨w.heap.size + 1, 4, none⟩) (by first | (simp; done) | (simp; omega))).trans (by simp [go_sem]), (hk.cell (p := ⟨w.heap.size + 1, 5, none⟩) (by first | (simp; done) | (simp; omega))).trans (by simp [go_sem]), (hk.frozen (p := ⟨w.heap.size + 1, 5, none⟩) (by first | (simp; done) | (simp; omega))).trans (by simp [go_sem]), (hk.cell (p := ⟨w.heap.size + 1 + 1, 0, none⟩) (by first | (simp; done) | (simp; omega))).trans (by simp [go_sem]), (hk.frozen (p := ⟨w.heap.size + 1 + 1, 0, none⟩) (by first | (simp; done) | (simp; omega))).trans (by simp [go_sem]), (hk.cell (p := ⟨w.heap.size + 1 + 1 + 1, 0, none⟩) (by first | (simp; done) | (simp; omega))).trans (by simp [go_sem]), (hk.frozen (p := ⟨w.heap.size + 1 + 1 + 1, 0, none⟩) (by first | (simp; done) | (simp; omega))).trans (by simp [go_sem])⟩)
  have HB := Lib.hid (show Keeps w ((((w.alloc (.cells #[.slice A n c, .bool cl] 24)).alloc (.cells #[.int .i64 wd, .int .i64 jn, .int .i64 cp, .int .i64 ml, .slice Ad nd cd, .int .i64 ph] 27)).alloc (.cells #[.slice none 0 0] 40)).alloc (.cells #[.int .i64 0] 41)) from (by (repeat (first | (with_reducible exact Keeps.refl _) | (with_reducible assumption) | (with_reducible refine Keeps.drewN ?_ _) | (with_reducible refine Keeps.drew ?_) | (with_reducible refine Keeps.alloc ?_ _) | (with_reducible refine Keeps.setNew ?_ ?_ _))) <;> (dsimp only; omega)))
  have hk0 := Keeps.refl ((((w.alloc (.cells #[.slice A n c, .bool cl] 24)).alloc (.cells #[.int .i64 wd, .int .i64 jn, .int .i64 cp, .int .i64 ml, .slice Ad nd cd, .int .i64 ph] 27)).alloc (.cells #[.slice none 0 0] 40)).alloc (.cells #[.int .i64 0] 41))
  have KV := Lib.hid (fun w' (hk : Keeps w w') => style_any wd jn cp ml ph Ad nd cd D w' (hI.keep hk))
  rw [hs] at KV
  have KM := Lib.hid (fun w' (hk : Keeps w w') => measure_yes cl A n c L w' (h.keep hk) (by omega) hv)
  have KD := Lib.hid (fun w' (hk : Keeps w w') => dedup_any cl A n c L w' (h.keep hk) (by omega))
  have HII := Lib.hid hI
  have hn2 : ¬ (4096 : Int) < n := by omega
  have hndz : ((nd : Int) == 0) = false := by simp only [beq_eq_false_iff_ne]; omega
  have hR := Lib.hid (show apV cl L wd jn cp ml ph D = if 4096 < cnt ((onL wd jn cp ml ph D (lng (segs cl (dedC cl L)))).map (one cl (segs cl (dedC cl L)) (dedC cl L))) then ([], 5)
      else ((onL wd jn cp ml ph D (lng (segs cl (dedC cl L)))).map (one cl (segs cl (dedC cl L)) (dedC cl L)), 0) by
    unfold apV; rw [if_neg (by rw [hs]; simp), if_neg (by rw [hv]; simp), if_neg (by omega)])
  have hPo := Lib.hid (show ∀ p ∈ L, okP p from h.2.2.2.1)
  clear hs h hI hv
  refine (callsIn_wide (n := 9)).1 ?_
  refine callsIn_of_wp_marks Try.func19 rfl trivial ?_ rfl
  simp only [Try.ntmps19, List.size_toArray, List.length_cons, List.length_nil, Nat.reduceAdd, Nat.reduceSub, Array.replicate_succ, Array.replicate_zero, List.push_toArray, List.append_toArray, List.nil_append, List.cons_append]
  refine wpIn_wide.2 ?_
  obtain ⟨y0, y1, y2, y3, y4, y5, y6, y7, y8, y9, y10, y11, y12, y13, y14, y15, y16, y17, y18, y19⟩ := HS.out _ hk0
  go_wp2_with (first | (go_at_call 31; (with_reducible refine (KV.out _ HB.out).mono ?_); rintro e w1 ⟨rfl, hk1⟩; obtain ⟨z0, z1, z2, z3, z4, z5, z6, z7, z8, z9, z10, z11, z12, z13, z14, z15, z16, z17, z18, z19⟩ := HS.out _ hk1) | (go_at_call 27; (with_reducible refine (KM.out _ (HB.out.trans hk1)).mono ?_); rintro e w2 ⟨hk2, A1, c1, A2, c2, rfl, hP, hJ⟩; replace hP := Lib.hid hP; replace hJ := Lib.hid hJ; have hk3 := hk1.trans hk2; clear y0 y1 y2 y3 y4 y5 y6 y7 y8 y9 y10 y11 y12 y13 y14 y15 y16 y17 y18 y19 z0 z1 z2 z3 z4 z5 z6 z7 z8 z9 z10 z11 z12 z13 z14 z15 z16 z17 z18 z19; obtain ⟨y0, y1, y2, y3, y4, y5, y6, y7, y8, y9, y10, y11, y12, y13, y14, y15, y16, y17, y18, y19⟩ := HS.out _ hk3; have hs3 := hk3.size; simp only [World.size_alloc] at hs3; have hs4a : w.heap.size + 1 + 1 + 1 < w2.heap.size := hs3; have hs4b : w.heap.size + 1 + 1 < w2.heap.size := (by omega); have hs4c : w.heap.size + 1 < w2.heap.size := (by omega); have hs4d : w.heap.size < w2.heap.size := (by omega)) | (go_at_call 34; (with_reducible refine (oni_any _ _ _ _ _ _ _ _ _ _).mono ?_); rintro e w5 ⟨rfl, hw5⟩))
  have hkB : Keeps w w2 := HB.out.trans hk3
  have b6 := (((((BoxN.new w2 54 #[.slice A1 (dedC cl L).length c1, .slice A2 (segs cl (dedC cl L)).length c2, .int .i64 (lng (segs cl (dedC cl L)))]).alloc (.cells #[.slice none 0 0] 40)).alloc (.cells #[.int .i64 0] 3)).alloc (.cells #[.int .i64 wd, .int .i64 jn, .int .i64 cp, .int .i64 ml, .slice Ad nd cd, .int .i64 ph] 27)).alloc (.cells #[.int .i64 (lng (segs cl (dedC cl L)))] 3))
  have b8 := ((((BoxN.new (w2.alloc (.cells #[.slice A1 (dedC cl L).length c1, .slice A2 (segs cl (dedC cl L)).length c2, .int .i64 (lng (segs cl (dedC cl L)))] 54)) 40 #[.slice none 0 0]).alloc (.cells #[.int .i64 0] 3)).alloc (.cells #[.int .i64 wd, .int .i64 jn, .int .i64 cp, .int .i64 ml, .slice Ad nd cd, .int .i64 ph] 27)).alloc (.cells #[.int .i64 (lng (segs cl (dedC cl L)))] 3))
  have b9 := (((BoxN.new ((w2.alloc (.cells #[.slice A1 (dedC cl L).length c1, .slice A2 (segs cl (dedC cl L)).length c2, .int .i64 (lng (segs cl (dedC cl L)))] 54)).alloc (.cells #[.slice none 0 0] 40)) 3 #[.int .i64 0]).alloc (.cells #[.int .i64 wd, .int .i64 jn, .int .i64 cp, .int .i64 ml, .slice Ad nd cd, .int .i64 ph] 27)).alloc (.cells #[.int .i64 (lng (segs cl (dedC cl L)))] 3))
  have bs := ((BoxN.new (((w2.alloc (.cells #[.slice A1 (dedC cl L).length c1, .slice A2 (segs cl (dedC cl L)).length c2, .int .i64 (lng (segs cl (dedC cl L)))] 54)).alloc (.cells #[.slice none 0 0] 40)).alloc (.cells #[.int .i64 0] 3)) 27 #[.int .i64 wd, .int .i64 jn, .int .i64 cp, .int .i64 ml, .slice Ad nd cd, .int .i64 ph]).alloc (.cells #[.int .i64 (lng (segs cl (dedC cl L)))] 3))
  have bl := (BoxN.new ((((w2.alloc (.cells #[.slice A1 (dedC cl L).length c1, .slice A2 (segs cl (dedC cl L)).length c2, .int .i64 (lng (segs cl (dedC cl L)))] 54)).alloc (.cells #[.slice none 0 0] 40)).alloc (.cells #[.int .i64 0] 3)).alloc (.cells #[.int .i64 wd, .int .i64 jn, .int .i64 cp, .int .i64 ml, .slice Ad nd cd, .int .i64 ph] 27)) 3 #[.int .i64 (lng (segs cl (dedC cl L)))])
  simp only [World.size_alloc] at b6 b8 b9 bs bl
  have hkW := (((((hk3.alloc (.cells #[.slice A1 (dedC cl L).length c1, .slice A2 (segs cl (dedC cl L)).length c2, .int .i64 (lng (segs cl (dedC cl L)))] 54)).alloc (.cells #[.slice none 0 0] 40)).alloc (.cells #[.int .i64 0] 3)).alloc (.cells #[.int .i64 wd, .int .i64 jn, .int .i64 cp, .int .i64 ml, .slice Ad nd cd, .int .i64 ph] 27)).alloc (.cells #[.int .i64 (lng (segs cl (dedC cl L)))] 3))
  have hkA := ((((((Keeps.refl w2).alloc (.cells #[.slice A1 (dedC cl L).length c1, .slice A2 (segs cl (dedC cl L)).length c2, .int .i64 (lng (segs cl (dedC cl L)))] 54)).alloc (.cells #[.slice none 0 0] 40)).alloc (.cells #[.int .i64 0] 3)).alloc (.cells #[.int .i64 wd, .int .i64 jn, .int .i64 cp, .int .i64 ml, .slice Ad nd cd, .int .i64 ph] 27)).alloc (.cells #[.int .i64 (lng (segs cl (dedC cl L)))] 3))
  have hP3 := hP.out.keep hkA
  have hJ3 := hJ.out.keep hkA
  have hsz : (((((w2.alloc (.cells #[.slice A1 (dedC cl L).length c1, .slice A2 (segs cl (dedC cl L)).length c2, .int .i64 (lng (segs cl (dedC cl L)))] 54)).alloc (.cells #[.slice none 0 0] 40)).alloc (.cells #[.int .i64 0] 3)).alloc (.cells #[.int .i64 wd, .int .i64 jn, .int .i64 cp, .int .i64 ml, .slice Ad nd cd, .int .i64 ph] 27)).alloc (.cells #[.int .i64 (lng (segs cl (dedC cl L)))] 3)).heap.size = w2.heap.size + 5 := by simp
  have hW0s : ((((w.alloc (.cells #[.slice A n c, .bool cl] 24)).alloc (.cells #[.int .i64 wd, .int .i64 jn, .int .i64 cp, .int .i64 ml, .slice Ad nd cd, .int .i64 ph] 27)).alloc (.cells #[.slice none 0 0] 40)).alloc (.cells #[.int .i64 0] 41)).heap.size = w.heap.size + 4 := by simp
  have hnu := dedC_len cl L
  have hII3 := HII.out.keep (hkB.trans hkA)
  obtain ⟨W1, hW1⟩ : ∃ W1, (((((w2.alloc (.cells #[.slice A1 (dedC cl L).length c1, .slice A2 (segs cl (dedC cl L)).length c2, .int .i64 (lng (segs cl (dedC cl L)))] 54)).alloc (.cells #[.slice none 0 0] 40)).alloc (.cells #[.int .i64 0] 3)).alloc (.cells #[.int .i64 wd, .int .i64 jn, .int .i64 cp, .int .i64 ml, .slice Ad nd cd, .int .i64 ph] 27)).alloc (.cells #[.int .i64 (lng (segs cl (dedC cl L)))] 3)) = W1 := ⟨_, rfl⟩
  rw [hW1] at b6 b8 b9 bs bl hkW hP3 hJ3 hsz hII3 ⊢
  have hb9 : 0 < nd → ∀ b o, Ad = some ⟨b, o, none⟩ → b < w2.heap.size + 5 ∧ b ∉ [w2.heap.size + 1, w2.heap.size + 1 + 1] := fun h0 b o e => by
    obtain ⟨b', o', e', hb', _⟩ := HII.out.2.2.2.2 h0
    rw [e] at e'; cases e'
    have := hkB.size
    exact ⟨by omega, by simp; omega⟩
  have hbM : 0 < (dedC cl L).length → ∀ b o, A1 = some ⟨b, o, none⟩ → b < w2.heap.size + 5 ∧ b ∉ [w2.heap.size + 1, w2.heap.size + 1 + 1] := fun h0 b o e => by
    obtain ⟨b', o', e', hb', _⟩ := hP.out.2.2.2.2 h0
    rw [e] at e'; cases e'
    exact ⟨by omega, by simp; omega⟩
  have hbJ : 0 < (segs cl (dedC cl L)).length → ∀ b o, A2 = some ⟨b, o, none⟩ → b < w2.heap.size + 5 ∧ b ∉ [w2.heap.size + 1, w2.heap.size + 1 + 1] := fun h0 b o e => by
    obtain ⟨b', o', e', hb', _⟩ := hJ.out.2.2.2.2 h0
    rw [e] at e'; cases e'
    exact ⟨by omega, by simp; omega⟩
  have hMo : ∀ p ∈ dedC cl L, okP p := dedC_ok cl L hPo.out
  clear hW1 hP hJ hkA KV KM hk1 hk2 hw5 y0 y1 y2 y3 y4 y5 y6 y7 y8 y9 y10 y11 y12 y13 y14 y15 y16 y17 y18 y19 hs3
  generalize hW0 : ((((w.alloc (.cells #[.slice A n c, .bool cl] 24)).alloc (.cells #[.int .i64 wd, .int .i64 jn, .int .i64 cp, .int .i64 ml, .slice Ad nd cd, .int .i64 ph] 27)).alloc (.cells #[.slice none 0 0] 40)).alloc (.cells #[.int .i64 0] 41)) = W0 at *
  clear hW0 hk3 hk0
  generalize w2.heap.size = B at *
  clear hkB w2
  have hNS : (segs cl (dedC cl L)).length ≤ 4096 := by unfold segs segN; rw [upS_len]; split <;> (try split) <;> omega
  generalize hM : dedC cl L = M at *
  replace hM := Lib.hid hM
  have hlb := lng_bd (segs cl M)
  refine (wpIn_wide (n := 9)).1 ?_
  refine wpIn_rangeFunc_ownH rfl (by omega) (gf := 53) (lb := #[.pointer (some ⟨B + 1 + 1 + 1, 0, none⟩), .pointer (some ⟨B + 1 + 1 + 1 + 1, 0, none⟩)]) rfl trivial (enters_of Try.func53 (by kernel_rfl) rfl)
    (oni_stops 8 (by omega) (B + 1 + 1 + 1) (B + 1 + 1 + 1 + 1) (B + 5) [B + 1, B + 1 + 1] wd jn cp ml ph (lng (segs cl M)) Ad nd cd D W1 (by omega) (by omega) (by simp; omega) (by omega) (by simp; omega) (by omega) bs bl hII3 hb9)
    (fun h k => KpX.trans h k) (fun W l o o' hl _ _ _ => KpX.put W l o' (by omega)) (Below.refl _ _) (fun _ => rfl)
    (ApI cl M B W0 W1) (ApX cl M w)
    ?hI ?hIx
    ⟨.slice none 0 0, [], b8, b9, ⟨rfl, .inl ⟨rfl, rfl⟩⟩, (fun q hq => by cases hq), rfl, ⟨by simp [cnt, qPL], by simp⟩, hkW, KpX.refl _ _ _⟩
    (fun x a' W => a' = { tmps := #[.agg #[.slice A n c, .bool cl], .agg #[.int .i64 wd, .int .i64 jn, .int .i64 cp, .int .i64 ml, .slice Ad nd cd, .int .i64 ph], .pointer (some ⟨w.heap.size, 0, none⟩), .pointer (some ⟨w.heap.size + 1, 0, none⟩), .pointer (some ⟨w.heap.size + 1 + 1, 0, none⟩), .pointer (some ⟨w.heap.size + 1 + 1 + 1, 0, none⟩), .pointer (some ⟨B, 0, none⟩), .bool true, .pointer (some ⟨B + 1, 0, none⟩), .pointer (some ⟨B + 1 + 1, 0, none⟩), .int .i64 x.1.1, .int .i64 x.1.2, undef, .agg #[.int .i64 wd, .int .i64 jn, .int .i64 cp, .int .i64 ml, .slice Ad nd cd, .int .i64 ph], .bool true, .bool false, .tuple #[.agg #[.slice A1 M.length c1, .slice A2 (segs cl M).length c2, .int .i64 (lng (segs cl M))], .bool true], .agg #[.slice A n c, .bool cl], .tuple #[.agg #[.slice A1 M.length c1, .slice A2 (segs cl M).length c2, .int .i64 (lng (segs cl M))], .bool true], .agg #[.slice A1 M.length c1, .slice A2 (segs cl M).length c2, .int .i64 (lng (segs cl M))], .bool true, .bool false, .bool true, .bool false, .bool (decide ((4096 : Int) < n)), .pointer (some ⟨w.heap.size, 0, none⟩), .slice A n c, .int .i64 n, .bool (decide ((4096 : Int) < n)), .bool false, .pointer (some ⟨w.heap.size + 1, 4, none⟩), .slice Ad nd cd, .int .i64 nd, .bool false, undef, undef, undef, .agg #[.int .i64 wd, .int .i64 jn, .int .i64 cp, .int .i64 ml, .slice Ad nd cd, .int .i64 ph], .pointer (some ⟨B, 2, none⟩), .int .i64 (lng (segs cl M)), .func (.func 53) #[] #[.pointer (some ⟨B + 1 + 1 + 1, 0, none⟩), .pointer (some ⟨B + 1 + 1 + 1 + 1, 0, none⟩)], .int .i64 x.1.1, .int .i64 x.1.2, undef, undef, undef, undef, undef, undef, undef, undef, undef, undef, undef, undef, undef, undef, undef, undef, undef, undef, undef, undef, undef, undef, undef, undef, undef, undef, undef, undef, undef, undef, undef, undef], defers := [] })
    ?hAx ?assign ?body ?done ?stop
  case hI =>
    rintro s X Y row ⟨v, Q, h1, h2, h3, h4, h5, h6, h7, h8⟩ hg hrow
    have hr := fun r e => (hrow r e).2
    refine ⟨v, Q, h1.own hg hr, h2.own hg hr, row_own h3 hg hr, h4.kept hg (fun r e => ?_), h5, h6, Below.grown h7 hg h7.size (fun k e => by have := (hrow k e).1; omega), h8.trans (KpX.grown hg (by have := h8.1; omega) (fun k e => .inr (by have := (hrow k e).1; omega)))⟩
    obtain ⟨o, ho, hc⟩ := (hrow r e).2
    exact ⟨o, ho, fun cs f e => by rw [e] at hc; cases hc⟩
  case hIx =>
    rintro c s X Y row ⟨h0, h1, h2, h3, h4⟩ hg hrow
    have hr := fun r e => (hrow r e).2
    exact ⟨h0, cell_kept h1 hg hr, cell_kept h2 hg hr, h3, Below.grown h4 hg h4.size (fun k e => by have := (hrow k e).1; have := HB.out.size; omega)⟩
  case hAx => exact fun _ _ _ _ _ _ hs _ _ => hs
  case assign =>
    rintro l pre x W K hi hK
    gi_wp2
    exact hK _ _ (KeepsFrom.refl _ _) (KpX.refl _ _ _) hi rfl
  case body =>
    rintro l pre x a' W hl ⟨r, hr0⟩ ⟨v, Q, q8, q9, hrow, hQ, hq, ⟨hc1, hc2⟩, hK, hX⟩ rfl hlt
    have hWs : B + 5 ≤ W.heap.size := by have := hX.1; omega
    obtain ⟨hx0, hx1, hx2⟩ := x.2
    have hS0 : 0 < (segs cl M).length := by
      rcases Nat.eq_zero_or_pos (segs cl M).length with e | e
      · have e8 : lng (segs cl M) = 0 := by rw [List.eq_nil_of_length_eq_zero e]; rfl
        omega
      · exact e
    obtain ⟨hm1, hkm⟩ := segs_pos hS0
    obtain ⟨i0, hi, hz0, hz1, hz2⟩ := info_parts poly_info
    have d6 := hX.box b6 (by omega) (by simp; omega)
    have hPW := Lib.hid (hX.pts hP3 hbM)
    have hJW := Lib.hid (hX.ins hJ3 hbJ)
    obtain ⟨y0, y1, y2, y3, y4, y5, y6, y7, y8, y9, y10, y11, y12, y13, y14, y15, y16, y17, y18, y19⟩ := HS.out _ hK
    have v0 : W.cell? ⟨B, 0, none⟩ = some (.slice A1 M.length c1) := (d6.cell 0).trans rfl
    have v1 : W.cell? ⟨B, 1, none⟩ = some (.slice A2 (segs cl M).length c2) := (d6.cell 1).trans rfl
    have v2 : W.cell? ⟨B, 2, none⟩ = some (.int .i64 (lng (segs cl M))) := (d6.cell 2).trans rfl
    have hB1 : B < W.heap.size := by omega
    have hB2 : w.heap.size < W.heap.size := by omega
    have hkA := (Keeps.refl W).alloc (.cells #[.slice none 0 0, .bool false] 24)
    have b12 := BoxN.new W 24 #[.slice none 0 0, .bool false]
    have hKd := Lib.hid (KD.out _ ((HB.out.trans hK).alloc (.cells #[.slice none 0 0, .bool false] 24)))
    have hKc := Lib.hid (cut_any cl M A1 A2 c1 c2 x.1.1 x.1.2 _ (hPW.out.keep hkA) (hJW.out.keep hkA) hS0 (by omega) hx0 (by omega) (by omega) (by omega))
    have hc2i : (cnt (qPL Q) : Int) ≤ 4096 := by omega
    clear b6 b8 b9 bs bl hkW hP3 hJ3 hII3 hb9 hbM hbJ hr0 d6 hPW hJW KD HII
    by_cases hwh : cl = true ∧ x.1.1 = 0 ∧ x.1.2 = lng (segs cl M)
    · have hone : one cl (segs cl M) M x.1 = (true, M) := by unfold one; rw [if_pos hwh, hwh.1]
      have te1 : (x.1.1 == 0) = true := by rw [hwh.2.1]; rfl
      have te2 : (x.1.2 == lng (segs cl M)) = true := by rw [hwh.2.2]; simp
      have te3 : cl = true := hwh.1
      have hLL : 0 < M.length ∧ M.length ≤ 100000 := by omega
      subst te3
      clear hwh
      gi_upto_region 19 with ((try refine ⟨trivial, ?_⟩); gi_at_call 39; refine (CallsIn.inRound l (callsIn_wide.2 hKd.out)).mono ?_; rintro e w4 ⟨A4, c4, rfl, hP4, hk4, ho4⟩; clear hP4; have f0 := (b12.keep hk4).frozen 0; have f1 := (b12.keep hk4).frozen 1; have e0 := ((b12.keep hk4).cell 0).trans rfl; have e1 := ((b12.keep hk4).cell 1).trans rfl)
      clear f0 f1 e0 e1
      have hob := own_base ho4 (B2 := W.heap.size) (by simp)
      have bx5 := (((b12.keep hk4).set 0 (.slice A4 M.length c4)).set 1 (.bool true))
      simp only [List.setIfInBounds_toArray, List.set_cons_succ, List.set_cons_zero] at bx5
      have k5 := (((hkA.trans hk4).setNew (p := ⟨W.heap.size, 0, none⟩) (Nat.le_refl _) (.slice A4 M.length c4)).setNew (p := ⟨W.heap.size, 1, none⟩) (Nat.le_refl _) (.bool true))
      have o5 := ((hob.kept (grown_set w4 W.heap.size 0 (.slice A4 M.length c4)) (.inr ((b12.keep hk4).not_row (by decide) hob).symm)).kept (grown_set (w4.setCell ⟨W.heap.size, 0, none⟩ (.slice A4 M.length c4)) W.heap.size 1 (.bool true)) (.inr (((b12.keep hk4).set 0 (.slice A4 M.length c4)).not_row (by decide) (hob.kept (grown_set w4 W.heap.size 0 (.slice A4 M.length c4)) (.inr ((b12.keep hk4).not_row (by decide) hob).symm))).symm))
      clear hob ho4 hk4 b12 hkA hKd hKc v0 v1 v2 y0 y1 y2 y3 y4 y5 y6 y7 y8 y9 y10 y11 y12 y13 y14 y15 y16 y17 y18 y19 hB1 hB2
      generalize ((w4.setCell ⟨W.heap.size, 0, none⟩ (.slice A4 M.length c4)).setCell ⟨W.heap.size, 1, none⟩ (.bool true)) = W5 at *
      have hqq : qPL (Q ++ [(A4, c4, true, M)]) = (pre ++ [x]).map (fun x => one true (segs true M) M x.1) := by
        rw [List.map_append, ← hq]; simp only [qPL, List.map_append, List.map_cons, List.map_nil, hone]
      have hcc : cnt (qPL (Q ++ [(A4, c4, true, M)])) = cnt (qPL Q) + (M).length := by
        have : qPL (Q ++ [(A4, c4, true, M)]) = qPL Q ++ [(true, M)] := by simp [qPL]
        rw [this, cnt_snoc]
      have hcc2 : cnt ((pre ++ [x]).map (fun x => one true (segs true M) M x.1)) = cnt (qPL Q) + (M).length := by rw [← hqq, hcc]
      replace hqq := Lib.hid hqq
      replace hcc := Lib.hid hcc
      replace hcc2 := Lib.hid hcc2
      replace hq := Lib.hid hq
      replace hone := Lib.hid hone
      have u9 := q9.keep k5
      have u8 := q8.keep k5
      have r5 := row_keep hrow k5
      have Q5 := hQ.keep k5
      have hK5 := hK.trans k5
      have hX5 : KpX (B + 5) [B + 1, B + 1 + 1] W W5 := KpX.of k5 hWs
      have hs5 := k5.size
      obtain ⟨y0, y1, y2, y3, y4, y5, y6, y7, y8, y9, y10, y11, y12, y13, y14, y15, y16, y17, y18, y19⟩ := HS.out _ hK5
      have x9 : W5.cell? ⟨B + 1 + 1, 0, none⟩ = some (.int .i64 (cnt (qPL Q))) := (u9.cell 0).trans rfl
      have g9 := u9.frozen 0
      have x8 : W5.cell? ⟨B + 1, 0, none⟩ = some v := (u8.cell 0).trans rfl
      have g8 := u8.frozen 0
      have x0 : W5.cell? ⟨W.heap.size, 0, none⟩ = some (.slice A4 (M).length c4) := (bx5.cell 0).trans rfl
      have x1 : W5.cell? ⟨W.heap.size, 1, none⟩ = some (.bool true) := (bx5.cell 1).trans rfl
      have n1 := fun (w' : World) (u : Value) => setFar w' (B + 1 + 1) 0 (w.heap.size + 1 + 1) 0 u (by omega)
      have n2 := fun (w' : World) (u : Value) => setFar w' (B + 1 + 1) 0 (w.heap.size + 1 + 1 + 1) 0 u (by omega)
      have n3 := fun (w' : World) (u : Value) => setFar w' (B + 1 + 1) 0 W.heap.size 0 u (by omega)
      have n4 := fun (w' : World) (u : Value) => setFar w' (B + 1 + 1) 0 W.heap.size 1 u (by omega)
      have n5 := fun (w' : World) (u : Value) => setFar w' (B + 1 + 1) 0 (B + 1) 0 u (by omega)
      have hll : ((M).length : Int) ≤ 100000 := by omega
      generalize hm0 : cnt (qPL Q) = m0 at *
      replace hm0 := Lib.hid hm0
      by_cases hbig : 4096 < m0 + (M).length
      · have hbi : (4096 : Int) < (m0 : Int) + ((M).length : Int) := by omega
        gi_wp2
        refine ⟨((((ko_keeps k5).trans (KeepsOthers.setCell _ _ _)).trans (KeepsOthers.setCell _ _ _)).trans (KeepsOthers.setCell _ _ _)).from _, rfl, by simp [go_sem, y16, y18], by simp [go_sem, y16, y18], by rw [hcc2.out]; exact hbig, (((HB.out.trans hK5).setNew (by dsimp only; omega) _).setNew (by dsimp only; omega) _).setNew (by dsimp only; omega) _⟩
      · have hbi : ¬ (4096 : Int) < (m0 : Int) + ((M).length : Int) := by omega
        have hq9 : Q.length ≤ 4096 := by omega
        have hu6 := u9.set 0 (.int .i64 ((m0 : Int) + ((M).length : Int)))
        simp only [List.setIfInBounds_toArray, List.set_cons_succ, List.set_cons_zero] at hu6
        have r6 := r5.kept (grown_set W5 (B + 1 + 1) 0 (.int .i64 ((m0 : Int) + ((M).length : Int)))) (.inr (u9.not_row (by decide) r5).symm)
        have u86 := u8.other (by omega : B + 1 ≠ B + 1 + 1) 0 (.int .i64 ((m0 : Int) + ((M).length : Int)))
        have Q6 := Q5.set (i := 0) (u := .int .i64 ((m0 : Int) + ((M).length : Int))) u9 (by decide)
        have o6 := o5.kept (grown_set W5 (B + 1 + 1) 0 (.int .i64 ((m0 : Int) + ((M).length : Int)))) (.inr (u9.not_row (by decide) o5).symm)
        have hs6 : (W5.setCell ⟨B + 1 + 1, 0, none⟩ (.int .i64 ((m0 : Int) + ((M).length : Int)))).heap.size = W5.heap.size := by simp
        have hv6 : W5.heap.size ≠ B + 1 := by omega
        have hv7 : B + 1 < W5.heap.size := by omega
        have hv8 : W.heap.size < W5.heap.size := bx5.lt
        gi_wp2_with (gi_at_builtin; refine wpListIn_append_own _ rfl _ _ 40 rfl (B + 5) 24 i0 (.agg #[.slice none 0 0, .bool false]) 2 32 Try.underlying40 hi hz0 hz1 hz2 rfl (by decide) _ _ _ rfl (row_keep r6 ((Keeps.refl _).alloc _)) ⟨W5.heap.size, 0, none⟩ 1 1 [.slice A4 (M).length c4, .bool true] rfl rfl (poly_new _ _ _ _ _ hs6) (by simp [Value.oneCell']) (by unfold maxLen; omega) (by omega) (by simp; omega) ?_; intro v' w7 hown hgrow hz9; clear hz9; obtain ⟨g', cap', rfl⟩ := ownsRow_succ hown; have u87 := (u86.alloc _).kept hgrow (u86.not_row (by decide) r6); have g87 := u87.frozen 0; have e87 := (u87.cell 0).trans rfl)
        have hs7 : W5.heap.size + 1 ≤ w7.heap.size := by have := hgrow.size; simpa using this
        have hu8 := u87.set 0 (.slice (some ⟨g', 0, none⟩) (Q.length + 1) cap')
        simp only [List.setIfInBounds_toArray, List.set_cons_succ, List.set_cons_zero] at hu8
        have hu9 := ((hu6.alloc (.cells #[.slice A4 (M).length c4, .bool true] 24)).kept hgrow (hu6.not_row (by decide) r6)).other (by omega : B + 1 + 1 ≠ B + 1) 0 (.slice (some ⟨g', 0, none⟩) (Q.length + 1) cap')
        have r8 := hown.kept (grown_set w7 (B + 1) 0 (.slice (some ⟨g', 0, none⟩) (Q.length + 1) cap')) (.inr (u87.not_row (by decide) hown).symm)
        have hra := row_keep r6 ((Keeps.refl _).alloc (.cells #[.slice A4 (M).length c4, .bool true] 24))
        have Q7 := (Q6.keep ((Keeps.refl _).alloc (.cells #[.slice A4 (M).length c4, .bool true] 24))).app hra hgrow (by decide)
        have Q8 := Q7.set (i := 0) (u := .slice (some ⟨g', 0, none⟩) (Q.length + 1) cap') u87 (by decide)
        have o7 : QOwn _ W.heap.size [(A4, c4, true, M)] := fun q hq => by rw [List.mem_singleton.1 hq]; exact ⟨o6, hMo⟩
        have o8 := ((o7.keep ((Keeps.refl _).alloc (.cells #[.slice A4 (M).length c4, .bool true] 24))).app hra hgrow (by decide)).set (i := 0) (u := .slice (some ⟨g', 0, none⟩) (Q.length + 1) cap') u87 (by decide)
        have hvb := row_base hra
        have hsA : (W5.setCell ⟨B + 1 + 1, 0, none⟩ (.int .i64 ((m0 : Int) + ((M).length : Int)))).heap.size + 1 ≤ w7.heap.size := by rw [hs6]; exact hs7
        have hX8 : KpX (B + 5) [B + 1, B + 1 + 1] W (w7.setCell ⟨B + 1, 0, none⟩ (.slice (some ⟨g', 0, none⟩) (Q.length + 1) cap')) := (((hX5.trans (KpX.set W5 (B + 1 + 1) 0 _ (by omega) (.inl (by simp)))).trans (KpX.of ((Keeps.refl _).alloc _) (by rw [hs6]; omega))).trans (KpX.grown hgrow (by simp; omega) (fun k e => .inr (hvb k e)))).trans (KpX.set _ _ _ _ (by omega) (.inl (by simp)))
        have hK8 : Keeps W0 w7 := Below.grown ((hK5.setNew (p := ⟨B + 1 + 1, 0, none⟩) (by dsimp only; omega) _).alloc _) hgrow (by have := hK5.size; simp; omega) (fun k e => by have := hvb k e; omega)
        refine ⟨((((ko_keeps k5).trans (KeepsOthers.setCell _ _ _)).trans (KeepsOthers.alloc _ _)).trans ((ko_append hra hgrow).trans (KeepsOthers.setCell _ _ _))).from _, hX8, .slice (some ⟨g', 0, none⟩) (Q.length + 1) cap', Q ++ [(A4, c4, true, M)], hu8, ?_, ?_, ?_, hqq.out, ?_, hK8.setNew (by dsimp only; omega) _, hX.trans hX8⟩
        · rw [hcc.out]; exact hu9
        · rw [List.length_append, qcells_append]; exact r8
        · intro q hq'
          rcases List.mem_append.1 hq' with h9 | h9
          · exact Q8 q h9
          · exact (o8.base (by omega)) q h9
        · rw [hcc.out, List.length_append]
          simp only [List.length_singleton]
          omega
    · have hone : one cl (segs cl M) M x.1 = (false, cutL (segs cl M) M x.1.1 x.1.2) := by unfold one; rw [if_neg hwh]
      have hLL : 0 < (cutL (segs cl M) M x.1.1 x.1.2).length ∧ (cutL (segs cl M) M x.1.1 x.1.2).length ≤ 100000 := by
        have h1 := cutTo_len (segs cl M) M x.1.1 x.1.2 (segs cl M).length
        have h2 := addL_len (cutTo (segs cl M) M x.1.1 x.1.2 (segs cl M).length) (ptF (segs cl M) x.1.2)
        have h3 := addL_pos (p := ptF (segs cl M) x.1.2) h1.1
        unfold cutL
        omega
      have hLo : ∀ p ∈ cutL (segs cl M) M x.1.1 x.1.2, okP p := cutL_ok _ M hMo _ _
      generalize cutL (segs cl M) M x.1.1 x.1.2 = LL at *
      replace hLo := Lib.hid hLo
      clear hKd
      have hdec : (cl = false) ∨ (cl = true ∧ (x.1.1 == 0) = false) ∨ (cl = true ∧ (x.1.1 == 0) = true ∧ (x.1.2 == lng (segs cl M)) = false) := by
        rcases Bool.eq_false_or_eq_true cl with hcl | hcl
        · by_cases h0 : x.1.1 = 0
          · refine .inr (.inr ⟨hcl, by rw [h0]; rfl, ?_⟩)
            simp only [beq_eq_false_iff_ne]
            intro h9
            exact hwh ⟨hcl, h0, h9⟩
          · exact .inr (.inl ⟨hcl, by simpa using h0⟩)
        · exact .inl hcl
      clear hwh
      rcases hdec with rfl | ⟨rfl, te1⟩ | ⟨rfl, te1, te2⟩
      · gi_upto_region 19 with ((try refine ⟨trivial, ?_⟩); gi_at_call 40; refine (CallsIn.inRound l (callsIn_wide.2 hKc.out)).mono ?_; rintro e w4 ⟨A4, c4, rfl, ho4, hk4⟩; have f0 := (b12.keep hk4).frozen 0; have e0 := ((b12.keep hk4).cell 0).trans rfl)
        clear f0 e0
        have hob := own_base ho4 (B2 := W.heap.size) (by simp)
        have bx5 := ((b12.keep hk4).set 0 (.slice A4 LL.length c4))
        simp only [List.setIfInBounds_toArray, List.set_cons_succ, List.set_cons_zero] at bx5
        have k5 := (hkA.trans hk4).setNew (p := ⟨W.heap.size, 0, none⟩) (Nat.le_refl _) (.slice A4 LL.length c4)
        have o5 := (hob.kept (grown_set w4 W.heap.size 0 (.slice A4 LL.length c4)) (.inr ((b12.keep hk4).not_row (by decide) hob).symm))
        clear hob ho4 hk4 b12 hkA hKc v0 v1 v2 y0 y1 y2 y3 y4 y5 y6 y7 y8 y9 y10 y11 y12 y13 y14 y15 y16 y17 y18 y19 hB1 hB2
        generalize (w4.setCell ⟨W.heap.size, 0, none⟩ (.slice A4 LL.length c4)) = W5 at *
        have hqq : qPL (Q ++ [(A4, c4, false, LL)]) = (pre ++ [x]).map (fun x => one false (segs false M) M x.1) := by
          rw [List.map_append, ← hq]; simp only [qPL, List.map_append, List.map_cons, List.map_nil, hone]
        have hcc : cnt (qPL (Q ++ [(A4, c4, false, LL)])) = cnt (qPL Q) + LL.length := by
          have : qPL (Q ++ [(A4, c4, false, LL)]) = qPL Q ++ [(false, LL)] := by simp [qPL]
          rw [this, cnt_snoc]
        have hcc2 : cnt ((pre ++ [x]).map (fun x => one false (segs false M) M x.1)) = cnt (qPL Q) + LL.length := by rw [← hqq, hcc]
        replace hqq := Lib.hid hqq
        replace hcc := Lib.hid hcc
        replace hcc2 := Lib.hid hcc2
        replace hq := Lib.hid hq
        replace hone := Lib.hid hone
        have u9 := q9.keep k5
        have u8 := q8.keep k5
        have r5 := row_keep hrow k5
        have Q5 := hQ.keep k5
        have hK5 := hK.trans k5
        have hX5 : KpX (B + 5) [B + 1, B + 1 + 1] W W5 := KpX.of k5 hWs
        have hs5 := k5.size
        obtain ⟨y0, y1, y2, y3, y4, y5, y6, y7, y8, y9, y10, y11, y12, y13, y14, y15, y16, y17, y18, y19⟩ := HS.out _ hK5
        have x9 : W5.cell? ⟨B + 1 + 1, 0, none⟩ = some (.int .i64 (cnt (qPL Q))) := (u9.cell 0).trans rfl
        have g9 := u9.frozen 0
        have x8 : W5.cell? ⟨B + 1, 0, none⟩ = some v := (u8.cell 0).trans rfl
        have g8 := u8.frozen 0
        have x0 : W5.cell? ⟨W.heap.size, 0, none⟩ = some (.slice A4 LL.length c4) := (bx5.cell 0).trans rfl
        have x1 : W5.cell? ⟨W.heap.size, 1, none⟩ = some (.bool false) := (bx5.cell 1).trans rfl
        have n1 := fun (w' : World) (u : Value) => setFar w' (B + 1 + 1) 0 (w.heap.size + 1 + 1) 0 u (by omega)
        have n2 := fun (w' : World) (u : Value) => setFar w' (B + 1 + 1) 0 (w.heap.size + 1 + 1 + 1) 0 u (by omega)
        have n3 := fun (w' : World) (u : Value) => setFar w' (B + 1 + 1) 0 W.heap.size 0 u (by omega)
        have n4 := fun (w' : World) (u : Value) => setFar w' (B + 1 + 1) 0 W.heap.size 1 u (by omega)
        have n5 := fun (w' : World) (u : Value) => setFar w' (B + 1 + 1) 0 (B + 1) 0 u (by omega)
        have hll : (LL.length : Int) ≤ 100000 := by omega
        generalize hm0 : cnt (qPL Q) = m0 at *
        replace hm0 := Lib.hid hm0
        by_cases hbig : 4096 < m0 + LL.length
        · have hbi : (4096 : Int) < (m0 : Int) + (LL.length : Int) := by omega
          gi_wp2
          refine ⟨((((ko_keeps k5).trans (KeepsOthers.setCell _ _ _)).trans (KeepsOthers.setCell _ _ _)).trans (KeepsOthers.setCell _ _ _)).from _, rfl, by simp [go_sem, y16, y18], by simp [go_sem, y16, y18], by rw [hcc2.out]; exact hbig, (((HB.out.trans hK5).setNew (by dsimp only; omega) _).setNew (by dsimp only; omega) _).setNew (by dsimp only; omega) _⟩
        · have hbi : ¬ (4096 : Int) < (m0 : Int) + (LL.length : Int) := by omega
          have hq9 : Q.length ≤ 4096 := by omega
          have hu6 := u9.set 0 (.int .i64 ((m0 : Int) + (LL.length : Int)))
          simp only [List.setIfInBounds_toArray, List.set_cons_succ, List.set_cons_zero] at hu6
          have r6 := r5.kept (grown_set W5 (B + 1 + 1) 0 (.int .i64 ((m0 : Int) + (LL.length : Int)))) (.inr (u9.not_row (by decide) r5).symm)
          have u86 := u8.other (by omega : B + 1 ≠ B + 1 + 1) 0 (.int .i64 ((m0 : Int) + (LL.length : Int)))
          have Q6 := Q5.set (i := 0) (u := .int .i64 ((m0 : Int) + (LL.length : Int))) u9 (by decide)
          have o6 := o5.kept (grown_set W5 (B + 1 + 1) 0 (.int .i64 ((m0 : Int) + (LL.length : Int)))) (.inr (u9.not_row (by decide) o5).symm)
          have hs6 : (W5.setCell ⟨B + 1 + 1, 0, none⟩ (.int .i64 ((m0 : Int) + (LL.length : Int)))).heap.size = W5.heap.size := by simp
          have hv6 : W5.heap.size ≠ B + 1 := by omega
          have hv7 : B + 1 < W5.heap.size := by omega
          have hv8 : W.heap.size < W5.heap.size := bx5.lt
          gi_wp2_with (gi_at_builtin; refine wpListIn_append_own _ rfl _ _ 40 rfl (B + 5) 24 i0 (.agg #[.slice none 0 0, .bool false]) 2 32 Try.underlying40 hi hz0 hz1 hz2 rfl (by decide) _ _ _ rfl (row_keep r6 ((Keeps.refl _).alloc _)) ⟨W5.heap.size, 0, none⟩ 1 1 [.slice A4 LL.length c4, .bool false] rfl rfl (poly_new _ _ _ _ _ hs6) (by simp [Value.oneCell']) (by unfold maxLen; omega) (by omega) (by simp; omega) ?_; intro v' w7 hown hgrow hz9; clear hz9; obtain ⟨g', cap', rfl⟩ := ownsRow_succ hown; have u87 := (u86.alloc _).kept hgrow (u86.not_row (by decide) r6); have g87 := u87.frozen 0; have e87 := (u87.cell 0).trans rfl)
          have hs7 : W5.heap.size + 1 ≤ w7.heap.size := by have := hgrow.size; simpa using this
          have hu8 := u87.set 0 (.slice (some ⟨g', 0, none⟩) (Q.length + 1) cap')
          simp only [List.setIfInBounds_toArray, List.set_cons_succ, List.set_cons_zero] at hu8
          have hu9 := ((hu6.alloc (.cells #[.slice A4 LL.length c4, .bool false] 24)).kept hgrow (hu6.not_row (by decide) r6)).other (by omega : B + 1 + 1 ≠ B + 1) 0 (.slice (some ⟨g', 0, none⟩) (Q.length + 1) cap')
          have r8 := hown.kept (grown_set w7 (B + 1) 0 (.slice (some ⟨g', 0, none⟩) (Q.length + 1) cap')) (.inr (u87.not_row (by decide) hown).symm)
          have hra := row_keep r6 ((Keeps.refl _).alloc (.cells #[.slice A4 LL.length c4, .bool false] 24))
          have Q7 := (Q6.keep ((Keeps.refl _).alloc (.cells #[.slice A4 LL.length c4, .bool false] 24))).app hra hgrow (by decide)
          have Q8 := Q7.set (i := 0) (u := .slice (some ⟨g', 0, none⟩) (Q.length + 1) cap') u87 (by decide)
          have o7 : QOwn _ W.heap.size [(A4, c4, false, LL)] := fun q hq => by rw [List.mem_singleton.1 hq]; exact ⟨o6, hLo.out⟩
          have o8 := ((o7.keep ((Keeps.refl _).alloc (.cells #[.slice A4 LL.length c4, .bool false] 24))).app hra hgrow (by decide)).set (i := 0) (u := .slice (some ⟨g', 0, none⟩) (Q.length + 1) cap') u87 (by decide)
          have hvb := row_base hra
          have hsA : (W5.setCell ⟨B + 1 + 1, 0, none⟩ (.int .i64 ((m0 : Int) + (LL.length : Int)))).heap.size + 1 ≤ w7.heap.size := by rw [hs6]; exact hs7
          have hX8 : KpX (B + 5) [B + 1, B + 1 + 1] W (w7.setCell ⟨B + 1, 0, none⟩ (.slice (some ⟨g', 0, none⟩) (Q.length + 1) cap')) := (((hX5.trans (KpX.set W5 (B + 1 + 1) 0 _ (by omega) (.inl (by simp)))).trans (KpX.of ((Keeps.refl _).alloc _) (by rw [hs6]; omega))).trans (KpX.grown hgrow (by simp; omega) (fun k e => .inr (hvb k e)))).trans (KpX.set _ _ _ _ (by omega) (.inl (by simp)))
          have hK8 : Keeps W0 w7 := Below.grown ((hK5.setNew (p := ⟨B + 1 + 1, 0, none⟩) (by dsimp only; omega) _).alloc _) hgrow (by have := hK5.size; simp; omega) (fun k e => by have := hvb k e; omega)
          refine ⟨((((ko_keeps k5).trans (KeepsOthers.setCell _ _ _)).trans (KeepsOthers.alloc _ _)).trans ((ko_append hra hgrow).trans (KeepsOthers.setCell _ _ _))).from _, hX8, .slice (some ⟨g', 0, none⟩) (Q.length + 1) cap', Q ++ [(A4, c4, false, LL)], hu8, ?_, ?_, ?_, hqq.out, ?_, hK8.setNew (by dsimp only; omega) _, hX.trans hX8⟩
          · rw [hcc.out]; exact hu9
          · rw [List.length_append, qcells_append]; exact r8
          · intro q hq'
            rcases List.mem_append.1 hq' with h9 | h9
            · exact Q8 q h9
            · exact (o8.base (by omega)) q h9
          · rw [hcc.out, List.length_append]
            simp only [List.length_singleton]
            omega
      · gi_upto_region 19 with ((try refine ⟨trivial, ?_⟩); gi_at_call 40; refine (CallsIn.inRound l (callsIn_wide.2 hKc.out)).mono ?_; rintro e w4 ⟨A4, c4, rfl, ho4, hk4⟩; have f0 := (b12.keep hk4).frozen 0; have e0 := ((b12.keep hk4).cell 0).trans rfl)
        clear f0 e0
        have hob := own_base ho4 (B2 := W.heap.size) (by simp)
        have bx5 := ((b12.keep hk4).set 0 (.slice A4 LL.length c4))
        simp only [List.setIfInBounds_toArray, List.set_cons_succ, List.set_cons_zero] at bx5
        have k5 := (hkA.trans hk4).setNew (p := ⟨W.heap.size, 0, none⟩) (Nat.le_refl _) (.slice A4 LL.length c4)
        have o5 := (hob.kept (grown_set w4 W.heap.size 0 (.slice A4 LL.length c4)) (.inr ((b12.keep hk4).not_row (by decide) hob).symm))
        clear hob ho4 hk4 b12 hkA hKc v0 v1 v2 y0 y1 y2 y3 y4 y5 y6 y7 y8 y9 y10 y11 y12 y13 y14 y15 y16 y17 y18 y19 hB1 hB2
        generalize (w4.setCell ⟨W.heap.size, 0, none⟩ (.slice A4 LL.length c4)) = W5 at *
        have hqq : qPL (Q ++ [(A4, c4, false, LL)]) = (pre ++ [x]).map (fun x => one true (segs true M) M x.1) := by
          rw [List.map_append, ← hq]; simp only [qPL, List.map_append, List.map_cons, List.map_nil, hone]
        have hcc : cnt (qPL (Q ++ [(A4, c4, false, LL)])) = cnt (qPL Q) + LL.length := by
          have : qPL (Q ++ [(A4, c4, false, LL)]) = qPL Q ++ [(false, LL)] := by simp [qPL]
          rw [this, cnt_snoc]
        have hcc2 : cnt ((pre ++ [x]).map (fun x => one true (segs true M) M x.1)) = cnt (qPL Q) + LL.length := by rw [← hqq, hcc]
        replace hqq := Lib.hid hqq
        replace hcc := Lib.hid hcc
        replace hcc2 := Lib.hid hcc2
        replace hq := Lib.hid hq
        replace hone := Lib.hid hone
        have u9 := q9.keep k5
        have u8 := q8.keep k5
        have r5 := row_keep hrow k5
        have Q5 := hQ.keep k5
        have hK5 := hK.trans k5
        have hX5 : KpX (B + 5) [B + 1, B + 1 + 1] W W5 := KpX.of k5 hWs
        have hs5 := k5.size
        obtain ⟨y0, y1, y2, y3, y4, y5, y6, y7, y8, y9, y10, y11, y12, y13, y14, y15, y16, y17, y18, y19⟩ := HS.out _ hK5
        have x9 : W5.cell? ⟨B + 1 + 1, 0, none⟩ = some (.int .i64 (cnt (qPL Q))) := (u9.cell 0).trans rfl
        have g9 := u9.frozen 0
        have x8 : W5.cell? ⟨B + 1, 0, none⟩ = some v := (u8.cell 0).trans rfl
        have g8 := u8.frozen 0
        have x0 : W5.cell? ⟨W.heap.size, 0, none⟩ = some (.slice A4 LL.length c4) := (bx5.cell 0).trans rfl
        have x1 : W5.cell? ⟨W.heap.size, 1, none⟩ = some (.bool false) := (bx5.cell 1).trans rfl
        have n1 := fun (w' : World) (u : Value) => setFar w' (B + 1 + 1) 0 (w.heap.size + 1 + 1) 0 u (by omega)
        have n2 := fun (w' : World) (u : Value) => setFar w' (B + 1 + 1) 0 (w.heap.size + 1 + 1 + 1) 0 u (by omega)
        have n3 := fun (w' : World) (u : Value) => setFar w' (B + 1 + 1) 0 W.heap.size 0 u (by omega)
        have n4 := fun (w' : World) (u : Value) => setFar w' (B + 1 + 1) 0 W.heap.size 1 u (by omega)
        have n5 := fun (w' : World) (u : Value) => setFar w' (B + 1 + 1) 0 (B + 1) 0 u (by omega)
        have hll : (LL.length : Int) ≤ 100000 := by omega
        generalize hm0 : cnt (qPL Q) = m0 at *
        replace hm0 := Lib.hid hm0
        by_cases hbig : 4096 < m0 + LL.length
        · have hbi : (4096 : Int) < (m0 : Int) + (LL.length : Int) := by omega
          gi_wp2
          refine ⟨((((ko_keeps k5).trans (KeepsOthers.setCell _ _ _)).trans (KeepsOthers.setCell _ _ _)).trans (KeepsOthers.setCell _ _ _)).from _, rfl, by simp [go_sem, y16, y18], by simp [go_sem, y16, y18], by rw [hcc2.out]; exact hbig, (((HB.out.trans hK5).setNew (by dsimp only; omega) _).setNew (by dsimp only; omega) _).setNew (by dsimp only; omega) _⟩
        · have hbi : ¬ (4096 : Int) < (m0 : Int) + (LL.length : Int) := by omega
          have hq9 : Q.length ≤ 4096 := by omega
          have hu6 := u9.set 0 (.int .i64 ((m0 : Int) + (LL.length : Int)))
          simp only [List.setIfInBounds_toArray, List.set_cons_succ, List.set_cons_zero] at hu6
          have r6 := r5.kept (grown_set W5 (B + 1 + 1) 0 (.int .i64 ((m0 : Int) + (LL.length : Int)))) (.inr (u9.not_row (by decide) r5).symm)
          have u86 := u8.other (by omega : B + 1 ≠ B + 1 + 1) 0 (.int .i64 ((m0 : Int) + (LL.length : Int)))
          have Q6 := Q5.set (i := 0) (u := .int .i64 ((m0 : Int) + (LL.length : Int))) u9 (by decide)
          have o6 := o5.kept (grown_set W5 (B + 1 + 1) 0 (.int .i64 ((m0 : Int) + (LL.length : Int)))) (.inr (u9.not_row (by decide) o5).symm)
          have hs6 : (W5.setCell ⟨B + 1 + 1, 0, none⟩ (.int .i64 ((m0 : Int) + (LL.length : Int)))).heap.size = W5.heap.size := by simp
          have hv6 : W5.heap.size ≠ B + 1 := by omega
          have hv7 : B + 1 < W5.heap.size := by omega
          have hv8 : W.heap.size < W5.heap.size := bx5.lt
          gi_wp2_with (gi_at_builtin; refine wpListIn_append_own _ rfl _ _ 40 rfl (B + 5) 24 i0 (.agg #[.slice none 0 0, .bool false]) 2 32 Try.underlying40 hi hz0 hz1 hz2 rfl (by decide) _ _ _ rfl (row_keep r6 ((Keeps.refl _).alloc _)) ⟨W5.heap.size, 0, none⟩ 1 1 [.slice A4 LL.length c4, .bool false] rfl rfl (poly_new _ _ _ _ _ hs6) (by simp [Value.oneCell']) (by unfold maxLen; omega) (by omega) (by simp; omega) ?_; intro v' w7 hown hgrow hz9; clear hz9; obtain ⟨g', cap', rfl⟩ := ownsRow_succ hown; have u87 := (u86.alloc _).kept hgrow (u86.not_row (by decide) r6); have g87 := u87.frozen 0; have e87 := (u87.cell 0).trans rfl)
          have hs7 : W5.heap.size + 1 ≤ w7.heap.size := by have := hgrow.size; simpa using this
          have hu8 := u87.set 0 (.slice (some ⟨g', 0, none⟩) (Q.length + 1) cap')
          simp only [List.setIfInBounds_toArray, List.set_cons_succ, List.set_cons_zero] at hu8
          have hu9 := ((hu6.alloc (.cells #[.slice A4 LL.length c4, .bool false] 24)).kept hgrow (hu6.not_row (by decide) r6)).other (by omega : B + 1 + 1 ≠ B + 1) 0 (.slice (some ⟨g', 0, none⟩) (Q.length + 1) cap')
          have r8 := hown.kept (grown_set w7 (B + 1) 0 (.slice (some ⟨g', 0, none⟩) (Q.length + 1) cap')) (.inr (u87.not_row (by decide) hown).symm)
          have hra := row_keep r6 ((Keeps.refl _).alloc (.cells #[.slice A4 LL.length c4, .bool false] 24))
          have Q7 := (Q6.keep ((Keeps.refl _).alloc (.cells #[.slice A4 LL.length c4, .bool false] 24))).app hra hgrow (by decide)
          have Q8 := Q7.set (i := 0) (u := .slice (some ⟨g', 0, none⟩) (Q.length + 1) cap') u87 (by decide)
          have o7 : QOwn _ W.heap.size [(A4, c4, false, LL)] := fun q hq => by rw [List.mem_singleton.1 hq]; exact ⟨o6, hLo.out⟩
          have o8 := ((o7.keep ((Keeps.refl _).alloc (.cells #[.slice A4 LL.length c4, .bool false] 24))).app hra hgrow (by decide)).set (i := 0) (u := .slice (some ⟨g', 0, none⟩) (Q.length + 1) cap') u87 (by decide)
          have hvb := row_base hra
          have hsA : (W5.setCell ⟨B + 1 + 1, 0, none⟩ (.int .i64 ((m0 : Int) + (LL.length : Int)))).heap.size + 1 ≤ w7.heap.size := by rw [hs6]; exact hs7
          have hX8 : KpX (B + 5) [B + 1, B + 1 + 1] W (w7.setCell ⟨B + 1, 0, none⟩ (.slice (some ⟨g', 0, none⟩) (Q.length + 1) cap')) := (((hX5.trans (KpX.set W5 (B + 1 + 1) 0 _ (by omega) (.inl (by simp)))).trans (KpX.of ((Keeps.refl _).alloc _) (by rw [hs6]; omega))).trans (KpX.grown hgrow (by simp; omega) (fun k e => .inr (hvb k e)))).trans (KpX.set _ _ _ _ (by omega) (.inl (by simp)))
          have hK8 : Keeps W0 w7 := Below.grown ((hK5.setNew (p := ⟨B + 1 + 1, 0, none⟩) (by dsimp only; omega) _).alloc _) hgrow (by have := hK5.size; simp; omega) (fun k e => by have := hvb k e; omega)
          refine ⟨((((ko_keeps k5).trans (KeepsOthers.setCell _ _ _)).trans (KeepsOthers.alloc _ _)).trans ((ko_append hra hgrow).trans (KeepsOthers.setCell _ _ _))).from _, hX8, .slice (some ⟨g', 0, none⟩) (Q.length + 1) cap', Q ++ [(A4, c4, false, LL)], hu8, ?_, ?_, ?_, hqq.out, ?_, hK8.setNew (by dsimp only; omega) _, hX.trans hX8⟩
          · rw [hcc.out]; exact hu9
          · rw [List.length_append, qcells_append]; exact r8
          · intro q hq'
            rcases List.mem_append.1 hq' with h9 | h9
            · exact Q8 q h9
            · exact (o8.base (by omega)) q h9
          · rw [hcc.out, List.length_append]
            simp only [List.length_singleton]
            omega
      · gi_upto_region 19 with ((try refine ⟨trivial, ?_⟩); gi_at_call 40; refine (CallsIn.inRound l (callsIn_wide.2 hKc.out)).mono ?_; rintro e w4 ⟨A4, c4, rfl, ho4, hk4⟩; have f0 := (b12.keep hk4).frozen 0; have e0 := ((b12.keep hk4).cell 0).trans rfl)
        clear f0 e0
        have hob := own_base ho4 (B2 := W.heap.size) (by simp)
        have bx5 := ((b12.keep hk4).set 0 (.slice A4 LL.length c4))
        simp only [List.setIfInBounds_toArray, List.set_cons_succ, List.set_cons_zero] at bx5
        have k5 := (hkA.trans hk4).setNew (p := ⟨W.heap.size, 0, none⟩) (Nat.le_refl _) (.slice A4 LL.length c4)
        have o5 := (hob.kept (grown_set w4 W.heap.size 0 (.slice A4 LL.length c4)) (.inr ((b12.keep hk4).not_row (by decide) hob).symm))
        clear hob ho4 hk4 b12 hkA hKc v0 v1 v2 y0 y1 y2 y3 y4 y5 y6 y7 y8 y9 y10 y11 y12 y13 y14 y15 y16 y17 y18 y19 hB1 hB2
        generalize (w4.setCell ⟨W.heap.size, 0, none⟩ (.slice A4 LL.length c4)) = W5 at *
        have hqq : qPL (Q ++ [(A4, c4, false, LL)]) = (pre ++ [x]).map (fun x => one true (segs true M) M x.1) := by
          rw [List.map_append, ← hq]; simp only [qPL, List.map_append, List.map_cons, List.map_nil, hone]
        have hcc : cnt (qPL (Q ++ [(A4, c4, false, LL)])) = cnt (qPL Q) + LL.length := by
          have : qPL (Q ++ [(A4, c4, false, LL)]) = qPL Q ++ [(false, LL)] := by simp [qPL]
          rw [this, cnt_snoc]
        have hcc2 : cnt ((pre ++ [x]).map (fun x => one true (segs true M) M x.1)) = cnt (qPL Q) + LL.length := by rw [← hqq, hcc]
        replace hqq := Lib.hid hqq
        replace hcc := Lib.hid hcc
        replace hcc2 := Lib.hid hcc2
        replace hq := Lib.hid hq
        replace hone := Lib.hid hone
        have u9 := q9.keep k5
        have u8 := q8.keep k5
        have r5 := row_keep hrow k5
        have Q5 := hQ.keep k5
        have hK5 := hK.trans k5
        have hX5 : KpX (B + 5) [B + 1, B + 1 + 1] W W5 := KpX.of k5 hWs
        have hs5 := k5.size
        obtain ⟨y0, y1, y2, y3, y4, y5, y6, y7, y8, y9, y10, y11, y12, y13, y14, y15, y16, y17, y18, y19⟩ := HS.out _ hK5
        have x9 : W5.cell? ⟨B + 1 + 1, 0, none⟩ = some (.int .i64 (cnt (qPL Q))) := (u9.cell 0).trans rfl
        have g9 := u9.frozen 0
        have x8 : W5.cell? ⟨B + 1, 0, none⟩ = some v := (u8.cell 0).trans rfl
        have g8 := u8.frozen 0
        have x0 : W5.cell? ⟨W.heap.size, 0, none⟩ = some (.slice A4 LL.length c4) := (bx5.cell 0).trans rfl
        have x1 : W5.cell? ⟨W.heap.size, 1, none⟩ = some (.bool false) := (bx5.cell 1).trans rfl
        have n1 := fun (w' : World) (u : Value) => setFar w' (B + 1 + 1) 0 (w.heap.size + 1 + 1) 0 u (by omega)
        have n2 := fun (w' : World) (u : Value) => setFar w' (B + 1 + 1) 0 (w.heap.size + 1 + 1 + 1) 0 u (by omega)
        have n3 := fun (w' : World) (u : Value) => setFar w' (B + 1 + 1) 0 W.heap.size 0 u (by omega)
        have n4 := fun (w' : World) (u : Value) => setFar w' (B + 1 + 1) 0 W.heap.size 1 u (by omega)
        have n5 := fun (w' : World) (u : Value) => setFar w' (B + 1 + 1) 0 (B + 1) 0 u (by omega)
        have hll : (LL.length : Int) ≤ 100000 := by omega
        generalize hm0 : cnt (qPL Q) = m0 at *
        replace hm0 := Lib.hid hm0
        by_cases hbig : 4096 < m0 + LL.length
        · have hbi : (4096 : Int) < (m0 : Int) + (LL.length : Int) := by omega
          gi_wp2
          refine ⟨((((ko_keeps k5).trans (KeepsOthers.setCell _ _ _)).trans (KeepsOthers.setCell _ _ _)).trans (KeepsOthers.setCell _ _ _)).from _, rfl, by simp [go_sem, y16, y18], by simp [go_sem, y16, y18], by rw [hcc2.out]; exact hbig, (((HB.out.trans hK5).setNew (by dsimp only; omega) _).setNew (by dsimp only; omega) _).setNew (by dsimp only; omega) _⟩
        · have hbi : ¬ (4096 : Int) < (m0 : Int) + (LL.length : Int) := by omega
          have hq9 : Q.length ≤ 4096 := by omega
          have hu6 := u9.set 0 (.int .i64 ((m0 : Int) + (LL.length : Int)))
          simp only [List.setIfInBounds_toArray, List.set_cons_succ, List.set_cons_zero] at hu6
          have r6 := r5.kept (grown_set W5 (B + 1 + 1) 0 (.int .i64 ((m0 : Int) + (LL.length : Int)))) (.inr (u9.not_row (by decide) r5).symm)
          have u86 := u8.other (by omega : B + 1 ≠ B + 1 + 1) 0 (.int .i64 ((m0 : Int) + (LL.length : Int)))
          have Q6 := Q5.set (i := 0) (u := .int .i64 ((m0 : Int) + (LL.length : Int))) u9 (by decide)
          have o6 := o5.kept (grown_set W5 (B + 1 + 1) 0 (.int .i64 ((m0 : Int) + (LL.length : Int)))) (.inr (u9.not_row (by decide) o5).symm)
          have hs6 : (W5.setCell ⟨B + 1 + 1, 0, none⟩ (.int .i64 ((m0 : Int) + (LL.length : Int)))).heap.size = W5.heap.size := by simp
          have hv6 : W5.heap.size ≠ B + 1 := by omega
          have hv7 : B + 1 < W5.heap.size := by omega
          have hv8 : W.heap.size < W5.heap.size := bx5.lt
          gi_wp2_with (gi_at_builtin; refine wpListIn_append_own _ rfl _ _ 40 rfl (B + 5) 24 i0 (.agg #[.slice none 0 0, .bool false]) 2 32 Try.underlying40 hi hz0 hz1 hz2 rfl (by decide) _ _ _ rfl (row_keep r6 ((Keeps.refl _).alloc _)) ⟨W5.heap.size, 0, none⟩ 1 1 [.slice A4 LL.length c4, .bool false] rfl rfl (poly_new _ _ _ _ _ hs6) (by simp [Value.oneCell']) (by unfold maxLen; omega) (by omega) (by simp; omega) ?_; intro v' w7 hown hgrow hz9; clear hz9; obtain ⟨g', cap', rfl⟩ := ownsRow_succ hown; have u87 := (u86.alloc _).kept hgrow (u86.not_row (by decide) r6); have g87 := u87.frozen 0; have e87 := (u87.cell 0).trans rfl)
          have hs7 : W5.heap.size + 1 ≤ w7.heap.size := by have := hgrow.size; simpa using this
          have hu8 := u87.set 0 (.slice (some ⟨g', 0, none⟩) (Q.length + 1) cap')
          simp only [List.setIfInBounds_toArray, List.set_cons_succ, List.set_cons_zero] at hu8
          have hu9 := ((hu6.alloc (.cells #[.slice A4 LL.length c4, .bool false] 24)).kept hgrow (hu6.not_row (by decide) r6)).other (by omega : B + 1 + 1 ≠ B + 1) 0 (.slice (some ⟨g', 0, none⟩) (Q.length + 1) cap')
          have r8 := hown.kept (grown_set w7 (B + 1) 0 (.slice (some ⟨g', 0, none⟩) (Q.length + 1) cap')) (.inr (u87.not_row (by decide) hown).symm)
          have hra := row_keep r6 ((Keeps.refl _).alloc (.cells #[.slice A4 LL.length c4, .bool false] 24))
          have Q7 := (Q6.keep ((Keeps.refl _).alloc (.cells #[.slice A4 LL.length c4, .bool false] 24))).app hra hgrow (by decide)
          have Q8 := Q7.set (i := 0) (u := .slice (some ⟨g', 0, none⟩) (Q.length + 1) cap') u87 (by decide)
          have o7 : QOwn _ W.heap.size [(A4, c4, false, LL)] := fun q hq => by rw [List.mem_singleton.1 hq]; exact ⟨o6, hLo.out⟩
          have o8 := ((o7.keep ((Keeps.refl _).alloc (.cells #[.slice A4 LL.length c4, .bool false] 24))).app hra hgrow (by decide)).set (i := 0) (u := .slice (some ⟨g', 0, none⟩) (Q.length + 1) cap') u87 (by decide)
          have hvb := row_base hra
          have hsA : (W5.setCell ⟨B + 1 + 1, 0, none⟩ (.int .i64 ((m0 : Int) + (LL.length : Int)))).heap.size + 1 ≤ w7.heap.size := by rw [hs6]; exact hs7
          have hX8 : KpX (B + 5) [B + 1, B + 1 + 1] W (w7.setCell ⟨B + 1, 0, none⟩ (.slice (some ⟨g', 0, none⟩) (Q.length + 1) cap')) := (((hX5.trans (KpX.set W5 (B + 1 + 1) 0 _ (by omega) (.inl (by simp)))).trans (KpX.of ((Keeps.refl _).alloc _) (by rw [hs6]; omega))).trans (KpX.grown hgrow (by simp; omega) (fun k e => .inr (hvb k e)))).trans (KpX.set _ _ _ _ (by omega) (.inl (by simp)))
          have hK8 : Keeps W0 w7 := Below.grown ((hK5.setNew (p := ⟨B + 1 + 1, 0, none⟩) (by dsimp only; omega) _).alloc _) hgrow (by have := hK5.size; simp; omega) (fun k e => by have := hvb k e; omega)
          refine ⟨((((ko_keeps k5).trans (KeepsOthers.setCell _ _ _)).trans (KeepsOthers.alloc _ _)).trans ((ko_append hra hgrow).trans (KeepsOthers.setCell _ _ _))).from _, hX8, .slice (some ⟨g', 0, none⟩) (Q.length + 1) cap', Q ++ [(A4, c4, false, LL)], hu8, ?_, ?_, ?_, hqq.out, ?_, hK8.setNew (by dsimp only; omega) _, hX.trans hX8⟩
          · rw [hcc.out]; exact hu9
          · rw [List.length_append, qcells_append]; exact r8
          · intro q hq'
            rcases List.mem_append.1 hq' with h9 | h9
            · exact Q8 q h9
            · exact (o8.base (by omega)) q h9
          · rw [hcc.out, List.length_append]
            simp only [List.length_singleton]
            omega
  case done =>
    rintro D9 ys W hD hys ⟨v, Q, q8, q9, hrow, hQ, hq, ⟨hc1, hc2⟩, hK, hX⟩ hKd
    obtain ⟨y0, y1, y2, y3, y4, y5, y6, y7, y8, y9, y10, y11, y12, y13, y14, y15, y16, y17, y18, y19⟩ := HS.out _ hK
    have x8 : W.cell? ⟨B + 1, 0, none⟩ = some v := (q8.cell 0).trans rfl
    obtain ⟨A9, c9, rfl, hPl⟩ := pls_of_own hrow rfl hQ
    go_wp2_with fail
    have f0 : ((W.setCell ⟨w.heap.size + 1 + 1, 0, none⟩ (.slice A9 Q.length c9)).setCell ⟨w.heap.size + 1 + 1 + 1, 0, none⟩ (.int .i64 0)).cell? ⟨w.heap.size + 1 + 1, 0, none⟩ = some (.slice A9 Q.length c9) := by simp [go_sem, y16, y18]
    have f1 : ((W.setCell ⟨w.heap.size + 1 + 1, 0, none⟩ (.slice A9 Q.length c9)).setCell ⟨w.heap.size + 1 + 1 + 1, 0, none⟩ (.int .i64 0)).cell? ⟨w.heap.size + 1 + 1 + 1, 0, none⟩ = some (.int .i64 0) := by simp [go_sem, y16, y18]
    have hk5 := ((HB.out.trans hK).setNew (p := ⟨w.heap.size + 1 + 1, 0, none⟩) (by dsimp only; omega) (.slice A9 Q.length c9)).setNew (p := ⟨w.heap.size + 1 + 1 + 1, 0, none⟩) (by dsimp only; omega) (.int .i64 0)
    have hd5 := ((KeepsOthers.setCell W ⟨w.heap.size + 1 + 1, 0, none⟩ (.slice A9 Q.length c9)).trans (KeepsOthers.setCell _ ⟨w.heap.size + 1 + 1 + 1, 0, none⟩ (.int .i64 0))).same D9 _ hKd rfl
    have hr5 := row_far (b := w.heap.size + 1 + 1 + 1) (i := 0) (u := .int .i64 0) (row_far (b := w.heap.size + 1 + 1) (i := 0) (u := .slice A9 Q.length c9) hrow (by omega)) (by omega)
    have hQ5 := (hQ.far (b := w.heap.size + 1 + 1) (i := 0) (u := .slice A9 Q.length c9) (by omega)).far (b := w.heap.size + 1 + 1 + 1) (i := 0) (u := .int .i64 0) (by omega)
    generalize ((W.setCell ⟨w.heap.size + 1 + 1, 0, none⟩ (.slice A9 Q.length c9)).setCell ⟨w.heap.size + 1 + 1 + 1, 0, none⟩ (.int .i64 0)) = W5 at *
    have g9 := fun r (e : some D9 = some r) => (show ∃ o : Obj, W5.heap[r]? = some o ∧ o.isCells = false by cases e; exact ⟨_, hd5, rfl⟩)
    have g0 := cell_kept f0 (grownBy_putObj' W5 D9 (.deferred none)) g9
    have g1 := cell_kept f1 (grownBy_putObj' W5 D9 (.deferred none)) g9
    have hkz : Keeps w (W5.putObj D9 (.deferred none)) := Below.grown hk5 (grownBy_putObj' W5 D9 (.deferred none)) hk5.size (fun k e => by cases e; have := HB.out.size; omega)
    have hrz := row_own hr5 (grownBy_putObj' W5 D9 (.deferred none)) g9
    have hQz := hQ5.kept (grownBy_putObj' W5 D9 (.deferred none)) (fun r e => by cases e; exact ⟨_, hd5, fun cs f e => by cases e⟩)
    obtain ⟨A8, c8, e8, hPz⟩ := pls_of_own hrz rfl hQz
    cases e8
    have hqe : (onL wd jn cp ml ph D (lng (segs cl M))).map (one cl (segs cl M) M) = qPL Q := by rw [← hys, List.map_map, hq]; rfl
    have hql : (qPL Q).length = Q.length := by simp [qPL]
    refine ⟨by simp, .inl ⟨_, _, rfl, run_takeDeferred hd5, ?_⟩⟩
    refine ⟨.tuple #[.slice A9 Q.length c9, .int .i64 0], by simp [results, Try.results19, go_sem, *], ?_⟩
    rw [hR.out, hqe, if_neg (by omega)]
    exact ⟨A9, c9, by rw [hql], by rw [hql]; exact hPz, hkz⟩
  case stop =>
    rintro D9 c9 pre W hD hp ⟨rfl, h1, h2, h3, h4⟩ hKd
    gi_wp2
    have g9 := fun r (e : some D9 = some r) => (show ∃ o : Obj, W.heap[r]? = some o ∧ o.isCells = false by cases e; exact ⟨_, hKd, rfl⟩)
    have g0 := cell_kept h1 (grownBy_putObj' W D9 (.deferred none)) g9
    have g1 := cell_kept h2 (grownBy_putObj' W D9 (.deferred none)) g9
    have hkz : Keeps w (W.putObj D9 (.deferred none)) := Below.grown h4 (grownBy_putObj' W D9 (.deferred none)) h4.size (fun k e => by cases e; have := HB.out.size; omega)
    have hbig : 4096 < cnt ((onL wd jn cp ml ph D (lng (segs cl M))).map (one cl (segs cl M) M)) := by
      have hpp : pre.map (fun x => one cl (segs cl M) M x.1) <+: (onL wd jn cp ml ph D (lng (segs cl M))).map (one cl (segs cl M) M) := by
        obtain ⟨r9, hr9⟩ := hp
        exact ⟨r9.map (one cl (segs cl M) M), by rw [← hr9, List.map_append, List.map_map]; rfl⟩
      have := cnt_pre hpp
      omega
    refine ⟨by simp, .inl ⟨_, _, rfl, run_takeDeferred hKd, ?_⟩⟩
    refine ⟨.tuple #[.slice none 0 0, .int .i64 5], by simp [results, Try.results19, go_sem, *], ?_⟩
    rw [hR.out, if_pos hbig]
    exact ⟨none, 0, rfl, Pls.nil _, hkz⟩
end
end Go.Proofs.Ytihmhpleiefodaa
