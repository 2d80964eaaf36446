/- Contracts of color.Format and of reference 27's Format. -/
import Derived.Test.YtjfimlcljbdglaaH5
import Derived.Laws.Concat
import Derived.StillTailTactics
namespace Go.Proofs.Ytjfimlcljbdglaa
open Go.RowKit
set_option linter.unusedVariables false
set_option linter.unusedSimpArgs false
theorem by_lit (w : World) (b t : Nat) (p q r u : Nat) (hb : b = w.heap.size) (h0 : p < 256) (h1 : q < 256) (h2 : r < 256) (h3 : u < 256) :
    By (w.alloc (.cells #[.int .u8 (p : Int), .int .u8 (q : Int), .int .u8 (r : Int), .int .u8 (u : Int)] t)) (some ⟨b, 0, none⟩) 4 4 [p, q, r, u] := by
  subst hb
  have h := World.ownsRow_lit (base := w.heap.size) (e := t) (size := 1) w #[.int .u8 (p : Int), .int .u8 (q : Int), .int .u8 (r : Int), .int .u8 (u : Int)] 4 (Nat.le_refl _) (by unfold maxLen; omega) (by simp)
  obtain ⟨A, c, e, hB⟩ := By.of_own (D := [p, q, r, u]) h (by intro d hd; simp at hd; omega)
  injection e with e1 e2 e3
  subst e1 e3
  exact hB
theorem strB_cons (a : Nat) (D : List Nat) : (⟨#[UInt8.ofNat a]⟩ : ByteArray) ++ strB D = strB (a :: D) := by
  unfold strB strOfNums
  rw [ByteArray.mk_append_mk]
  simp
theorem strB_size (D : List Nat) : (strB D).size = D.length := by
  unfold strB strOfNums
  simp [ByteArray.size]
def fmtL (p q r t : Nat) : List Nat := 35 :: hexS [p, q, r, t]
set_option maxRecDepth 100000 in
set_option maxHeartbeats 1000000 in
theorem format_any (p q r t : Nat) (w : World) (h0 : p < 256) (h1 : q < 256) (h2 : r < 256) (h3 : t < 256) :
    Calls Try.prog 15 #[.agg #[.int .u8 (p : Int), .int .u8 (q : Int), .int .u8 (r : Int), .int .u8 (t : Int)]] w fun e w' => e = .returned (.string (strB (fmtL p q r t))) ∧ Keeps w w' := by
  have HB := Lib.hid (fun w b k hb => by_lit w b k p q r t hb h0 h1 h2 h3)
  have hS := strB_size (hexS [p, q, r, t])
  have hC := Lib.hid (strB_cons 35 (hexS [p, q, r, t]))
  rw [hexS_length] at hS
  have hS2 : (((strB (hexS [p, q, r, t])).size : Nat) : Int) = 8 := by rw [hS]; rfl
  clear hS
  go_enter Try.func15, Try.ntmps15
  go_wp2_with (go_at_call 42; (with_reducible refine (encode_any [p, q, r, t] _ 4 4 _ (HB.out _ _ _ (by simp)) (by omega)).mono ?_); rintro e w1 ⟨rfl, hk⟩; generalize strB (hexS [p, q, r, t]) = S at *)
  go_ret
  exact ⟨by unfold fmtL; rw [← hC.out]; rfl, (((Keeps.refl w).alloc _).alloc _).trans hk⟩
set_option maxRecDepth 100000 in
set_option maxHeartbeats 1000000 in
theorem format27_any (p q r t : Nat) (w : World) (h0 : p < 256) (h1 : q < 256) (h2 : r < 256) (h3 : t < 256) :
    Calls Try.prog 20 #[.agg #[.int .u8 (p : Int), .int .u8 (q : Int), .int .u8 (r : Int), .int .u8 (t : Int)]] w fun e w' => e = .returned (.string (strB (fmtL p q r t))) ∧ Keeps w w' := by
  have HB := Lib.hid (fun w b k hb => by_lit w b k p q r t hb h0 h1 h2 h3)
  have hS := strB_size (hexS [p, q, r, t])
  have hC := Lib.hid (strB_cons 35 (hexS [p, q, r, t]))
  rw [hexS_length] at hS
  have hS2 : (((strB (hexS [p, q, r, t])).size : Nat) : Int) = 8 := by rw [hS]; rfl
  clear hS
  go_enter Try.func20, Try.ntmps20
  go_wp2_with (go_at_call 47; (with_reducible refine (encode4_any [p, q, r, t] _ 4 4 _ (HB.out _ _ _ (by simp)) (by omega)).mono ?_); rintro e w1 ⟨rfl, hk⟩; generalize strB (hexS [p, q, r, t]) = S at *)
  go_ret
  exact ⟨by unfold fmtL; rw [← hC.out]; rfl, (((Keeps.refl w).alloc _).alloc _).trans hk⟩
/-! Parsing. -/
/-- What Parse gives of these bytes. -/
def ParseIs (L : List Nat) (p q r t e : Nat) : Prop :=
  (e = 0 ∧ p < 256 ∧ q < 256 ∧ r < 256 ∧ t < 256 ∧ L = fmtL p q r t) ∨ (e = 3 ∧ p = 0 ∧ q = 0 ∧ r = 0 ∧ t = 0 ∧ ∀ p q r t, p < 256 → q < 256 → r < 256 → t < 256 → L ≠ fmtL p q r t)
theorem parse_is (L : List Nat) : ∃ p q r t e, ParseIs L p q r t e := by
  by_cases h : ∃ p q r t, p < 256 ∧ q < 256 ∧ r < 256 ∧ t < 256 ∧ L = fmtL p q r t
  · obtain ⟨p, q, r, t, h⟩ := h
    exact ⟨p, q, r, t, 0, Or.inl ⟨rfl, h⟩⟩
  · exact ⟨0, 0, 0, 0, 3, Or.inr ⟨rfl, rfl, rfl, rfl, rfl, fun p q r t a b c d e => h ⟨p, q, r, t, a, b, c, d, e⟩⟩⟩
theorem bytesOf_tail (s : ByteArray) (a : Nat) (m : List Nat) (h : bytesOf s = a :: m) : bytesOf (s.extract 1 s.size) = m := by
  unfold bytesOf at *
  rw [ByteArray.data_extract, Array.toList_extract]
  have h2 : s.size = s.data.toList.length := rfl
  rw [h2]
  cases hs : s.data.toList with
  | nil => rw [hs] at h; simp at h
  | cons x l =>
    rw [hs] at h
    simp at h
    simp [List.extract, h.2]
end Go.Proofs.Ytjfimlcljbdglaa
