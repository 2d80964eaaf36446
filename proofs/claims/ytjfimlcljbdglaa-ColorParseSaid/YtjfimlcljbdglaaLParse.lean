/- ColorParse of grisaillelaw27 returns true for all its arguments: every string; no condition. -/
import Derived.Test.YtjfimlcljbdglaaE27
import Derived.ChangeMaps5
import Derived.Test.YtjfimlcljbdglaaOp
import Derived.Test.YtjfimlcljbdglaaKk
namespace Go.Proofs.Ytjfimlcljbdglaa.colorParse
open Go.RowKit Go.ChangeShapes Go.WideShapes Go.ChangeAt
set_option linter.unusedVariables false
open Go.Proofs.Ytjfimlcljbdglaa
set_option maxRecDepth 100000 in
set_option maxHeartbeats 1000000 in
theorem walk (s : ByteArray) (w : World) (hs : s.size ≤ maxLen) :
    Calls Try.prog 3 #[.string s] w fun e w' => e = .returned (.bool true) ∧ Below w.heap.size w w' := by
  obtain ⟨p, q, r, t, e, hP⟩ := parse_is (bytesOf s)
  have HX := Lib.hid (fun w => example27_any w)
  have g3 := coGuard
  have g4 := coEql
  have G1 := Lib.hid (fun w => parse_any s p q r t e w hP)
  have G2 := Lib.hid (fun w => parse27_any s p q r t e w hP)
  have q1 := eq4_refl (p : Int) q r t
  rcases hP with ⟨rfl, h0, h1, h2, h3, h4⟩ | ⟨rfl, rfl, rfl, rfl, rfl, h4⟩
  · have G3 := Lib.hid (fun w => format_any p q r t w h0 h1 h2 h3)
    rw [← h4, strB_bytesOf] at G3
    rw [show ((0 : Nat) : Int) = 0 from rfl] at G1 G2
    have t1 : (s.toList == s.toList) = true := beq_self_eq_true _
    clear h0 h1 h2 h3 h4
    go_enter Try.func3, Try.ntmps3
    go_wp2_with (first | (go_at_call 13; (with_reducible refine (G1.out _).mono ?_); rintro e w1 ⟨rfl, hk⟩; have HC := Lib.hid (box4 w1 (.int .u8 (p : Int)) (.int .u8 (q : Int)) (.int .u8 (r : Int)) (.int .u8 (t : Int)) 23 w1.heap.size rfl); have HK := Lib.hid (hk.alloc (.cells #[.int .u8 (p : Int), .int .u8 (q : Int), .int .u8 (r : Int), .int .u8 (t : Int)] 23)))       | (go_at_call 14; (with_reducible refine (G2.out _).mono ?_); rintro e w2 ⟨rfl, hk2⟩; have HD := Lib.hid (fun w' hk' => And.intro (HC.out w' ((hk2.alloc (.cells #[.int .u8 (p : Int), .int .u8 (q : Int), .int .u8 (r : Int), .int .u8 (t : Int)] 23)).trans hk')) (box4 w2 _ _ _ _ _ w2.heap.size rfl w' hk')); have HK2 := Lib.hid ((HK.out.trans hk2).alloc (.cells #[.int .u8 (p : Int), .int .u8 (q : Int), .int .u8 (r : Int), .int .u8 (t : Int)] 23)); obtain ⟨x0, x1, x2, x3⟩ := HC.out _ hk2; have hsz : w1.heap.size < w2.heap.size := (by have h := hk2.size; simp at h; omega))       | (go_at_call 15; (with_reducible refine (G3.out _).mono ?_); rintro e w3 ⟨rfl, hk3⟩)       | (go_at_call 16; (with_reducible refine (HX.out _).mono ?_); rintro e w4 ⟨rfl, hk4⟩))
    go_ret
    exact ⟨rfl, HK2.out.trans (hk3.trans hk4)⟩
  · rw [show ((0 : Nat) : Int) = 0 from rfl, show ((3 : Nat) : Int) = 3 from rfl] at G1 G2
    rw [show ((0 : Nat) : Int) = 0 from rfl] at q1
    clear h4
    go_enter Try.func3, Try.ntmps3
    go_wp2_with (first | (go_at_call 13; (with_reducible refine (G1.out _).mono ?_); rintro e w1 ⟨rfl, hk⟩; have HC := Lib.hid (box4 w1 (.int .u8 0) (.int .u8 0) (.int .u8 0) (.int .u8 0) 23 w1.heap.size rfl); have HK := Lib.hid (hk.alloc (.cells #[.int .u8 0, .int .u8 0, .int .u8 0, .int .u8 0] 23)))       | (go_at_call 14; (with_reducible refine (G2.out _).mono ?_); rintro e w2 ⟨rfl, hk2⟩; have HK2 := Lib.hid ((HK.out.trans hk2).alloc (.cells #[.int .u8 0, .int .u8 0, .int .u8 0, .int .u8 0] 23)); obtain ⟨x0, x1, x2, x3⟩ := HC.out _ hk2; have hsz : w1.heap.size < w2.heap.size := (by have h := hk2.size; simp at h; omega))       | (go_at_call 16; (with_reducible refine (HX.out _).mono ?_); rintro e w4 ⟨rfl, hk4⟩))
    go_ret
    exact ⟨rfl, HK2.out.trans hk4⟩

set_option maxRecDepth 100000 in
theorem lifted (os : Os) (started : os.Started) (H : Type) (enc : TypeId × Value → H) :
    ReturnsInHanded {} Try.checked os 3 .any (Rows.colorParseSpec.pre6 enc Try.prog Try.f3 Rows.colorParseRow.domain false) (Rows.colorParseSpec.post enc Try.prog Try.f3 false true false false) := by
  refine returnsInHanded_of_change (C := Try.checked) Try.own started (by kernel_rfl) Try.func3
    (ChangeSpec.witness6 (enc := enc) (C := Try.checked) false ⟨#[], #[.string ⟨#[]⟩], []⟩ 8 (by kernel_rfl) (by kernel_rfl) (by kernel_rfl) (by kernel_rfl)) ?_
  intro W base args ds gs before hval0 hW hcnd _
  have hval : ∀ (j : Nat) t v, Try.f3.params[j]? = some t → args[j]? = some v → Value.okWide Try.prog W .any base t v := hval0
  have hW' := hW
  obtain ⟨p, q, hA0, hV, rfl, hfz, hnd⟩ := hW
  have hA : DataW.TrodAll enc Try.prog W 0 (fun _ => true) true Try.f3.params.toList args.toList ds p := hA0
  have hAll := hA
  rw [Try.params3] at hA hval
  obtain ⟨v0, vs0, d0, ds0, p0, q0, hargs, rfl, rfl, h0, r0⟩ := trodAll_cons hA
  obtain ⟨rfl, rfl, rfl⟩ := trodAll_nil r0
  obtain rfl : args = #[v0] := by cases args; simp_all
  obtain ⟨rfl, rfl⟩ := trodVars_none hV
  obtain ⟨a0, rfl, _, _, w0⟩ := Go.ChangeMaps.open_string Try.underlying9 (hval 0 9 v0 rfl rfl) h0
  clear hA0 hval0
  refine (walk a0 W w0).mono fun e W' ⟨he, bel⟩ => ?_
  subst he
  exact ⟨_, rfl, _, _, _, [], _, [], hW', trodAll_mk1 (shut_bool Try.underlying4 _), below_trodAll Try.laidOut bel (reads_of (by kernel_rfl)) hAll, rfl, bel.frame _, fun h => by cases h⟩

theorem over : Rows.colorParseRow.holds Try.pinned (OpenSpec.ofChange Rows.colorParseSpec) :=
  OpenClaim.holds_of_wide 3 Try.f3 rfl rfl rfl rfl rfl rfl rfl ⟨rfl, rfl, rfl, rfl, rfl⟩ rfl rfl rfl rfl rfl (by kernel_rfl) Try.func3 (by kernel_rfl)
    (of_decide_eq_true (by kernel_rfl)) (by unfold Func.isWrapper; first | (rw [if_pos (by decide +kernel)]; kernel_rfl) | (rw [if_neg (by decide +kernel)]; exact ⟨rfl, rfl⟩))
    (fun os started H enc _ => lifted os started H enc)

/-- The statement. -/
theorem proved : Rows.ColorParseSaid := over
#print axioms proved
end Go.Proofs.Ytjfimlcljbdglaa.colorParse
