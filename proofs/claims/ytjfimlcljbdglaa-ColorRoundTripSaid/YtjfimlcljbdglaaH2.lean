/- Contracts of the hexadecimal functions: EncodeHex. -/
import Derived.Test.YtjfimlcljbdglaaH1
import Derived.Deep.RegionHeld3
namespace Go.Proofs.Ytjfimlcljbdglaa
open Go.RowKit
set_option linter.unusedVariables false
set_option linter.unusedSimpArgs false
theorem u8_info : (Try.prog.info? 5).map (fun i => (i.zero, i.size, i.bytes)) = some (some (.int .u8 0), 1, 1) := by kernel_rfl
theorem and15 (c : Nat) (h : c < 256) : bits .and .u8 (c : Int) 15 = ((c % 16 : Nat) : Int) := by
  have := u8_and_nat c 15 h (by omega)
  rw [show ((15 : Nat) : Int) = 15 from rfl] at this
  rw [this, show (15 : Nat) = 2 ^ 4 - 1 from rfl, Nat.and_two_pow_sub_one_eq_mod]
theorem two_new (w : World) (u v : Value) (t : TypeId) : ∀ j x, [u, v][j]? = some x → (w.alloc (.cells #[u, v] t)).cell? ((⟨w.heap.size, 0, none⟩ : Addr).add j) = some x := by
  intro j x hx
  match j, hx with
  | 0, hx => simp at hx; subst hx; simp [Addr.add]
  | 1, hx => simp at hx; subst hx; simp [Addr.add]
theorem d8_snoc2 (a : List Nat) (d e : Nat) : d8 a ++ [Value.int .u8 (d : Int), Value.int .u8 (e : Int)] = d8 (a ++ [d, e]) := by simp [d8]
theorem hexS_snoc {D : List Nat} {j n : Nat} (hl : D.length = n) (h : j < n) : hexS (D.take (j + 1)) = hexS (D.take j) ++ [hexD (D.getD j 0 / 16), hexD (D.getD j 0 % 16)] := by
  rw [take_snoc' hl h, hexS_append]; rfl

theorem step_append_own {P : Program} (w : World) {ops : Array Oper} {o : Oper} {a : Act} {K : Act → World → Prop} {Q : Exit → Act → World → Prop} {E : Prop} (hgd : o.guard = none) (s x : Operand) (t : TypeId)
    (ho : o.op = .call { callee := .builtin .append, args := #[s, x], argTypes := #[t, t] })
    (base : Nat) (e : TypeId) (i : TypeInfo) (z : Value) (size bytes : Nat) (ht : P.underlying t = some (.slice e)) (hi : P.info? e = some i) (hz : i.zero = some z)
    (hsize : i.size = size) (hby : i.bytes = bytes) (hzs : z.cells.size = size) (hsz : 0 < size)
    (v : Value) (n : Nat) (xs : List Value) (hs : a.eval s = v) (hown : w.ownsRow base e size v n xs)
    (ad : Addr) (m c : Nat) (news : List Value) (hx : a.eval x = .slice (some ad) m c) (hl : news.length = m * size) (hnews : ∀ j u, news[j]? = some u → w.cell? (ad.add j) = some u) (h1 : ∀ u ∈ news, u.oneCell' = true)
    (h63 : n + m ≤ maxLen) (hbytes : (n + m) * bytes ≤ 140737488355328) (hbase : base ≤ w.heap.size)
    (h : ∀ v' w', w'.ownsRow base e size v' (n + m) (xs ++ news) → w.grownBy w' v.ownBlock → K (a.put o.dst v') w') : if Region.wanted o (yielded ops a.tmps) = true then Oper.wp P o a w K Q else E := by
  have hw : Region.wanted o (yielded ops a.tmps) = true := by simp [Region.wanted, hgd]
  rw [if_pos hw]
  exact wp_append_own w s x t ho base e i z size bytes ht hi hz hsize hby hzs hsz v n xs hs hown ad m c news hx hl hnews h1 h63 hbytes hbase fun v' w' h2 h3 _ => h v' w' h2 h3
theorem below_own' {w wr w0 w1 : World} {B : Nat} {e : TypeId} {size : Nat} {v : Value} {n : Nat} {xs : List Value} (hk : Below B w wr) (hw : B = w.heap.size) (hown : wr.ownsRow B e size v n xs) (hg : w0.grownBy w1 v.ownBlock) (h0 : Below wr.heap.size wr w0) : Below B w w1 := by
  subst hw
  exact (hk.trans (h0.mono hk.size)).grown hg (Nat.le_trans hk.size h0.size) (fun k hk' => (hown.lt k hk').1)
set_option maxRecDepth 100000 in
set_option maxHeartbeats 1000000 in
theorem encode_any (D : List Nat) (A : Option Addr) (n c : Nat) (w : World) (h : By w A n c D) (hsm : n ≤ 100000) :
    Calls Try.prog 42 #[.slice A n c] w fun e w' => e = .returned (.string (strB (hexS D))) ∧ Keeps w w' := by
  have hl := Lib.hid h.len
  have HD := Lib.hid h
  obtain ⟨i0, hi, hz0, hz1, hz2⟩ := info_parts u8_info
  have hK := Keeps.refl w
  clear h
  go_enter Try.func42, Try.ntmps42
  go_wp2_with ((with_reducible refine wpList_make_own _ rfl _ _ 55 rfl w.heap.size 5 i0 (.int .u8 0) 1 Try.underlying55 hi hz0 hz1 .i64 .i64 _ (2 * n) rfl rfl (by omega) (by rw [hz2]; omega) (by unfold maxLen; omega) (Nat.le_refl _) ?_); intro w1 hown1 hgrow1; have hk1 : Keeps w w1 := Below.grown (Below.refl _ _) hgrow1 (Nat.le_refl _) (fun k hk => by cases hk); clear hgrow1)
  go_loopw [3, 12] (fun v i wr => ∃ j : Nat, j ≤ n ∧ i = .int .i64 j ∧ wr.ownsRow w.heap.size 5 1 v (2 * j) (d8 (hexS (D.take j))) ∧ Keeps w wr) (fun _ i _ => n - (intOf i).toNat)
  case atStart => exact ⟨0, by omega, rfl, by assumption, by assumption⟩
  case round =>
    obtain ⟨j, hj, rfl, hown, hkw⟩ := hrel
    by_cases hlt : j < n
    · obtain ⟨b, o, rfl, hb, hc0⟩ := HD.out.at_ (k := j) hlt
      have hc := (hkw.cell (p := ⟨b, o + j, none⟩) hb).trans hc0
      have hT1 := Lib.hid (hexS_snoc hl.out hlt)
      have b1 := by_getD HD.out.2 j
      clear hc0
      generalize D.getD j 0 = d at *
      have a1 := and15 d b1
      have r1 := fun w => index_digit w .u8 (d / 16) (by omega)
      have r2 := fun w => index_digit w .u8 (d % 16) (by omega)
      rw [show ((d / 16 : Nat) : Int) = (d : Int) / 16 by omega] at r1
      rw [show ((d % 16 : Nat) : Int) = (d : Int) % 16 by omega] at r2
      go_wp2_with fail
      have hown' := World.ownsRow.drew hown
      go_region_held3 (fun _ => True) (trivial)
        (first | (refine step_append_own _ rfl (.tmp 16) (.tmp 23) 55 rfl w.heap.size 5 i0 (.int .u8 0) 1 1 Try.underlying55 hi hz0 hz1 hz2 rfl (by decide) _ _ _ rfl (hown'.alloc _) ⟨wr.heap.size, 0, none⟩ 2 2 [.int .u8 ((hexD (d / 16) : Nat) : Int), .int .u8 ((hexD (d % 16) : Nat) : Int)] rfl rfl (two_new wr.drew _ _ _) (by intro u hu; simp at hu; rcases hu with rfl | rfl <;> rfl) (by unfold maxLen; omega) (by omega) (by have := hkw.size; simp; omega) ?_; intro v1 w1 hown1 hgrow1; have hk1 := below_own' hkw rfl hown hgrow1 (Keeps.alloc (Keeps.drew (Keeps.refl wr)) _); clear hgrow1; rw [d8_snoc2, ← hT1.out, show 2 * j + 2 = 2 * (j + 1) by omega] at hown1) | fail "ARM")
      all_goals (go_wp2)
      all_goals (
        refine ⟨⟨j + 1, by omega, by go_num, by assumption, by assumption⟩, ?_⟩
        simp [intOf]; omega)
    · obtain rfl : j = n := by omega
      rw [List.take_of_length_le (by rw [hl.out]; exact Nat.le_refl _)] at hown
      obtain ⟨A', c', ev, hB⟩ := By.of_own hown (hexS_bd HD.out.2)
      subst ev
      have hcv := run_str (P := Try.prog) wr 55 5 9 Try.underlying55 Try.underlying5 Try.underlying9 hB
      clear hown hB HD
      go_wp2
      go_ret
      exact ⟨rfl, hkw⟩
end Go.Proofs.Ytjfimlcljbdglaa
