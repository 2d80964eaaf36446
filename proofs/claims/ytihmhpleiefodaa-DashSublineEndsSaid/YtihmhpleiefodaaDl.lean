/- dash.OnIntervals: the function and its iterator as a sequence that stops. -/
import Derived.Test.YtihmhpleiefodaaDk
namespace Go.Proofs.Ytihmhpleiefodaa
open Go.RowKit Go.Shelf
attribute [local go_sem ↓] Go.wp_at_zero Go.wp_at_succ
set_option linter.unusedVariables false
set_option linter.unusedSimpArgs false
set_option maxHeartbeats 1000000 in
theorem oni_any (wd jn cp ml ph long : Int) (A : Option Addr) (n c : Nat) (w : World) :
    Calls Try.prog 34 #[.agg #[.int .i64 wd, .int .i64 jn, .int .i64 cp, .int .i64 ml, .slice A n c, .int .i64 ph], .int .i64 long] w fun e w' => e = .returned (.func (.func 53) #[] #[.pointer (some ⟨w.heap.size, 0, none⟩), .pointer (some ⟨w.heap.size + 1, 0, none⟩)]) ∧
      w' = (w.alloc (.cells #[.int .i64 wd, .int .i64 jn, .int .i64 cp, .int .i64 ml, .slice A n c, .int .i64 ph] 27)).alloc (.cells #[.int .i64 long] 3) := by
  go_enter Try.func34, Try.ntmps34
  go_wp2_with fail
  go_ret
  exact ⟨rfl, rfl⟩
theorem KpX.ins {n : Nat} {E : List Nat} {X Y : World} (h : KpX n E X Y) {A : Option Addr} {m c : Nat} {L : List Int} (hP : Ins X A m c L) (hb : 0 < m → ∀ b o, A = some ⟨b, o, none⟩ → b < n ∧ b ∉ E) : Ins Y A m c L := by
  obtain ⟨h1, h2, h3, h5, h4⟩ := hP
  refine ⟨h1, h2, h3, h5, fun hn => ?_⟩
  obtain ⟨b, o, e, hb', hc⟩ := h4 hn
  obtain ⟨q1, q2⟩ := hb hn b o e
  exact ⟨b, o, e, Nat.lt_of_lt_of_le hb' h.1, fun k hk' => (h.cell (p := ⟨b, _, none⟩) q1 q2).trans (hc k hk')⟩
/-- An interval within the length. -/
abbrev IvT (long : Int) := { x : Int × Int // 0 ≤ x.1 ∧ x.1 < x.2 ∧ x.2 ≤ long }
theorem oni_stops (q : Nat) (h1 : 1 ≤ q) (Bs Bl N : Nat) (E : List Nat) (wd jn cp ml ph long : Int) (A : Option Addr) (n c : Nat) (D : List Int) (w : World) (hlong : long ≤ 4611686018427387904)
    (hBs : Bs < N) (hE : Bs ∉ E) (hBl : Bl < N) (hE2 : Bl ∉ E) (hN : N ≤ w.heap.size)
    (b1 : BoxN w Bs 27 #[.int .i64 wd, .int .i64 jn, .int .i64 cp, .int .i64 ml, .slice A n c, .int .i64 ph]) (b2 : BoxN w Bl 3 #[.int .i64 long])
    (hI : Ins w A n c D) (hb : 0 < n → ∀ b o, A = some ⟨b, o, none⟩ → b < N ∧ b ∉ E) :
    SeqStopsK Fence.wide q Try.prog 53 #[.pointer (some ⟨Bs, 0, none⟩), .pointer (some ⟨Bl, 0, none⟩)] (fun x : IvT long => #[Value.int .i64 x.1.1, .int .i64 x.1.2]) (KpX N E) (fun ys => ys.map (·.1) = onL wd jn cp ml ph D long) (fun pre => pre.map (·.1) <+: onL wd jn cp ml ph D long) (onL wd jn cp ml ph D long).length w := fun l J Jx W hW hJ _ hY h0 => by
  have cel : ∀ W', KpX N E W W' → ∀ i v, (BoxN w Bs 27 #[.int .i64 wd, .int .i64 jn, .int .i64 cp, .int .i64 ml, .slice A n c, .int .i64 ph]) → w.cell? ⟨Bs, i, none⟩ = some v → W'.cell? ⟨Bs, i, none⟩ = some v := fun W' hk i v _ hc => (hk.cell (p := ⟨Bs, i, none⟩) hBs hE).trans ((hW.cell (p := ⟨Bs, i, none⟩) (by dsimp only; omega)).trans hc)
  refine (oni1_in q h1 l Bs Bl wd jn cp ml ph long A n c D (KpX N E) (fun h k => h.trans k) (fun pre W => ∃ ys : List (IvT long), ys.map (·.1) = pre ∧ J ys W) (fun pre W => ∃ ys : List (IvT long), ys.map (·.1) = pre ∧ Jx ys W)
    (fun pre x W2 hj hlen hx => ?_) W (fun s X Y row hs hg hr => by obtain ⟨ys, e, h⟩ := hs; exact ⟨ys, e, hJ ys X Y row h hg hr⟩)
    (fun h k => h.trans (KpX.of k (by have := h.1; have := hW.size; omega))) (KpX.refl N E W)
    (fun W' hk => ⟨⟨cel W' hk 0 _ b1 (b1.cell 0), cel W' hk 1 _ b1 (b1.cell 1), cel W' hk 2 _ b1 (b1.cell 2), cel W' hk 3 _ b1 (b1.cell 3), cel W' hk 4 _ b1 (b1.cell 4), cel W' hk 5 _ b1 (b1.cell 5),
      (hk.cell (p := ⟨Bl, 0, none⟩) hBl hE2).trans ((hW.cell (p := ⟨Bl, 0, none⟩) (by dsimp only; omega)).trans (b2.cell 0))⟩, hk.ins (hI.keep hW) hb⟩) ⟨[], rfl, h0⟩ hlong).mono ?_
  · obtain ⟨ys, rfl, h⟩ := hj
    obtain ⟨fn, tmps, assign, body, hy, hR⟩ := hY ys ⟨x, hx⟩ W2 h (by simpa using hlen)
    refine ⟨fn, tmps, assign, body, hy, hR.mono fun e w' hq => ?_⟩
    rcases hq with ⟨he, h1, h2⟩ | ⟨he, h1⟩
    · exact .inl ⟨he, ⟨_, by simp, h1⟩, h2⟩
    · exact .inr ⟨he, ⟨_, by simp, h1⟩⟩
  · rintro e w' ⟨he, ⟨ys, rfl, zs, hz, hj⟩ | ⟨pre, hp, zs, hz, hj⟩⟩
    · exact ⟨he, .inl ⟨zs, hz, hj⟩⟩
    · exact ⟨he, .inr ⟨zs, (show zs.map (·.1) <+: _ by rw [hz]; exact hp), hj⟩⟩
end Go.Proofs.Ytihmhpleiefodaa
