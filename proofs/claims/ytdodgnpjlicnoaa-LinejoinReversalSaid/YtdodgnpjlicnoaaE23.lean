/- The example of chapter 23 holds. -/
import Derived.Test.YtdodgnpjlicnoaaJh
import Derived.Test.YtdodgnpjlicnoaaWe
namespace Go.Proofs.Ytdodgnpjlicnoaa
open Go.RowKit
set_option linter.unusedVariables false
set_option linter.unusedSimpArgs false
/-- one ring comes back -/
theorem RetJ.alone {w w' : World} {LL : List (List Pt)} {L : List Pt} {e : Ending} {k : Nat} (h : RetJ w LL e w') (hL : LL = [L]) (hk : L.length = k) :
    ∃ b o c Ak ck, e = .returned (.slice (some ⟨b, o, none⟩) 1 c) ∧ (∀ w2, Keeps w' w2 → w2.cell? ⟨b, o, none⟩ = some (.slice Ak k ck)) ∧ Keeps w w' := by
  subst hL
  obtain ⟨A, c, rfl, hR, hkk⟩ := h
  obtain ⟨b, o, rfl, hb, hc⟩ := hR.2.2.2 (by simp)
  obtain ⟨Ak, nk, ck, e1, hP, _⟩ := hc 0 (by simp)
  have e2 : nk = k := by rw [← hP.1, ← hk]; rfl
  subst e2
  exact ⟨b, o, c, Ak, ck, rfl, fun w2 h => (h.cell hb).trans e1, hkk⟩
def ring23 : List Pt := [(512, 0), (512, -128), (640, -128), (640, 0)]
set_option maxRecDepth 100000 in
set_option maxHeartbeats 2000000 in
theorem example23_any (w : World) : Calls Try.prog 15 #[] w fun e w' => e = .returned (.bool true) ∧ Keeps w w' := by
  have g3 := ptGuard
  have g4 := ptEql
  have hI : ∀ w, Ins w none 0 0 [] := fun w => ⟨rfl, Nat.le_refl _, Nat.zero_le _, (fun p hp => by cases hp), (fun h => absurd h (by omega))⟩
  have K1 := Lib.hid (fun w => lout_any (0, 0) (512, 0) (512, 512) 256 w)
  rw [show outN (0, 0) (512, 0) (512, 512) 256 = (0, -128) by decide +kernel, show outM (0, 0) (512, 0) (512, 512) 256 = (128, 0) by decide +kernel, show outB (0, 0) (512, 0) (512, 512) 256 = true by decide +kernel] at K1
  have K2 := Lib.hid (fun w => ltip_any (0, -128) (128, 0) 256 1024 w)
  rw [show tipP (0, -128) (128, 0) 256 1024 = (128, -128) by decide +kernel, show tipB (0, -128) (128, 0) 256 1024 = true by decide +kernel] at K2
  have K3 := Lib.hid (fun w => ltip_any (0, -128) (128, 0) 256 256 w)
  rw [show tipP (0, -128) (128, 0) 256 256 = (0, 0) by decide +kernel, show tipB (0, -128) (128, 0) 256 256 = false by decide +kernel] at K3
  have K4 := Lib.hid (fun w => (ljoin_any (0, 0) (512, 0) (512, 512) 256 1 4 1024 0 none 0 0 [] w (hI w)).mono fun e w' h => h.alone (L := ring23) (k := 4) (by decide +kernel) rfl)
  have K5 := Lib.hid (fun w => (ljoin_any (0, 0) (512, 0) (512, 512) 256 3 4 1024 0 none 0 0 [] w (hI w)).mono fun e w' h => h.alone (L := discL (512, 0) 256) (k := 16) (by decide +kernel) (by decide +kernel))
  dsimp only at K1 K2 K3 K4 K5
  have HS := Lib.hid (show ∀ w', Keeps (((w.alloc (.cells #[.int .i64 0, .int .i64 0] 23)).alloc (.cells #[.int .i64 512, .int .i64 0] 23)).alloc (.cells #[.int .i64 512, .int .i64 512] 23)) w' → w'.cell? ⟨w.heap.size, 0, none⟩ = some (.int .i64 0) ∧ w'.frozen? ⟨w.heap.size, 0, none⟩ = false ∧ w'.cell? ⟨w.heap.size, 1, none⟩ = some (.int .i64 0) ∧ w'.frozen? ⟨w.heap.size, 1, none⟩ = false ∧ w'.cell? ⟨w.heap.size + 1, 0, none⟩ = some (.int .i64 512) ∧ w'.frozen? ⟨w.heap.size + 1, 0, none⟩ = false ∧ w'.cell? ⟨w.heap.size + 1, 1, none⟩ = some (.int .i64 0) ∧ w'.frozen? ⟨w.heap.size + 1, 1, none⟩ = false ∧ w'.cell? ⟨w.heap.size + 1 + 1, 0, none⟩ = some (.int .i64 512) ∧ w'.frozen? ⟨w.heap.size + 1 + 1, 0, none⟩ = false ∧ w'.cell? ⟨w.heap.size + 1 + 1, 1, none⟩ = some (.int .i64 512) ∧ w'.frozen? ⟨w.heap.size + 1 + 1, 1, none⟩ = false from fun w' hk => ⟨(hk.cell (p := ⟨w.heap.size, 0, none⟩) (by first | (simp; done) | (simp; omega))).trans (by simp [go_sem]), (hk.frozen (p := ⟨w.heap.size, 0, none⟩) (by first | (simp; done) | (simp; omega))).trans (by simp [go_sem]), (hk.cell (p := ⟨w.heap.size, 1, none⟩) (by first | (simp; done) | (simp; omega))).trans (by simp [go_sem]), (hk.frozen (p := ⟨w.heap.size, 1, none⟩) (by first | (simp; done) | (simp; omega))).trans (by simp [go_sem]), (hk.cell (p := ⟨w.heap.size + 1, 0, none⟩) (by first | (simp; done) | (simp; omega))).trans (by simp [go_sem]), (hk.frozen (p := ⟨w.heap.size + 1, 0, none⟩) (by first | (simp; done) | (simp; omega))).trans (by simp [go_sem]), (hk.cell (p := ⟨w.heap.size + 1, 1, none⟩) (by first | (simp; done) | (simp; omega))).trans (by simp [go_sem]), (hk.frozen (p := ⟨w.heap.size + 1, 1, none⟩) (by first | (simp; done) | (simp; omega))).trans (by simp [go_sem]), (hk.cell (p := ⟨w.heap.size + 1 + 1, 0, none⟩) (by first | (simp; done) | (simp; omega))).trans (by simp [go_sem]), (hk.frozen (p := ⟨w.heap.size + 1 + 1, 0, none⟩) (by first | (simp; done) | (simp; omega))).trans (by simp [go_sem]), (hk.cell (p := ⟨w.heap.size + 1 + 1, 1, none⟩) (by first | (simp; done) | (simp; omega))).trans (by simp [go_sem]), (hk.frozen (p := ⟨w.heap.size + 1 + 1, 1, none⟩) (by first | (simp; done) | (simp; omega))).trans (by simp [go_sem])⟩)
  have HB := Lib.hid (show Keeps w (((w.alloc (.cells #[.int .i64 0, .int .i64 0] 23)).alloc (.cells #[.int .i64 512, .int .i64 0] 23)).alloc (.cells #[.int .i64 512, .int .i64 512] 23)) from (by (repeat (first | (with_reducible exact Keeps.refl _) | (with_reducible assumption) | (with_reducible refine Keeps.drewN ?_ _) | (with_reducible refine Keeps.drew ?_) | (with_reducible refine Keeps.alloc ?_ _) | (with_reducible refine Keeps.setNew ?_ ?_ _))) <;> (dsimp only; omega)))
  have hk0 := Keeps.refl (((w.alloc (.cells #[.int .i64 0, .int .i64 0] 23)).alloc (.cells #[.int .i64 512, .int .i64 0] 23)).alloc (.cells #[.int .i64 512, .int .i64 512] 23))
  clear hI
  go_enter Try.func15, Try.ntmps15
  go_wp2_with (first | (go_at_call 13; (with_reducible refine (K1.out _).mono ?_); rintro e w1 ⟨rfl, hk⟩; have hka := (hk.alloc (.cells #[.int .i64 0, .int .i64 (-128)] 23)).alloc (.cells #[.int .i64 128, .int .i64 0] 23); have H4 := Lib.hid (show ∀ w', Keeps ((w1.alloc (.cells #[.int .i64 0, .int .i64 (-128)] 23)).alloc (.cells #[.int .i64 128, .int .i64 0] 23)) w' → w'.cell? ⟨w1.heap.size, 0, none⟩ = some (.int .i64 0) ∧ w'.cell? ⟨w1.heap.size, 1, none⟩ = some (.int .i64 (-128)) ∧ w'.cell? ⟨w1.heap.size + 1, 0, none⟩ = some (.int .i64 128) ∧ w'.cell? ⟨w1.heap.size + 1, 1, none⟩ = some (.int .i64 0) from fun w' hq => ⟨(hq.cell (p := ⟨w1.heap.size, 0, none⟩) (by simp; omega)).trans (by simp [go_sem]), (hq.cell (p := ⟨w1.heap.size, 1, none⟩) (by simp; omega)).trans (by simp [go_sem]), (hq.cell (p := ⟨w1.heap.size + 1, 0, none⟩) (by simp)).trans (by simp [go_sem]), (hq.cell (p := ⟨w1.heap.size + 1, 1, none⟩) (by simp)).trans (by simp [go_sem])⟩))      | (go_at_call 16; (with_reducible refine (K2.out _).mono ?_); rintro e w2 ⟨rfl, hk2⟩; have hkb := hk2.alloc (.cells #[.int .i64 128, .int .i64 (-128)] 23); have H7 := Lib.hid (show ∀ w', Keeps (w2.alloc (.cells #[.int .i64 128, .int .i64 (-128)] 23)) w' → w'.cell? ⟨w2.heap.size, 0, none⟩ = some (.int .i64 128) ∧ w'.cell? ⟨w2.heap.size, 1, none⟩ = some (.int .i64 (-128)) from fun w' hq => ⟨(hq.cell (p := ⟨w2.heap.size, 0, none⟩) (by simp)).trans (by simp [go_sem]), (hq.cell (p := ⟨w2.heap.size, 1, none⟩) (by simp)).trans (by simp [go_sem])⟩); obtain ⟨f0, f1, f2, f3⟩ := H4.out _ hkb)      | (go_at_call 16; (with_reducible refine (K3.out _).mono ?_); rintro e w3 ⟨rfl, hk3⟩; have hkc := (hka.trans (hkb.trans hk3)).alloc (.cells #[.int .i64 0, .int .i64 0] 23); have hk3b := hk3.alloc (.cells #[.int .i64 0, .int .i64 0] 23); obtain ⟨x0, -, x1, -, x2, -, x3, -, x4, -, x5, -⟩ := HS.out _ hkc)      | (go_at_call 19; (with_reducible refine (K4.out _).mono ?_); rintro e w4 ⟨b1, o1, c1, A1, d1, rfl, hc1, hk4⟩; have hc1 := Lib.hid hc1; have hkd := hkc.trans hk4; obtain ⟨x0, -, x1, -, x2, -, x3, -, x4, -, x5, -⟩ := HS.out _ hkd)      | (go_at_call 19; (with_reducible refine (K5.out _).mono ?_); rintro e w5 ⟨b2, o2, c2, A2, d2, rfl, hc2, hk5⟩; have e2 := hc2 _ (Keeps.refl _); have e1 := hc1.out _ hk5; clear hc2; obtain ⟨f0, f1, f2, f3⟩ := H4.out _ (hkb.trans (hk3b.trans (hk4.trans hk5))); obtain ⟨f4, f5⟩ := H7.out _ (hk3b.trans (hk4.trans hk5))) | fail "ARM")
  go_ret
  exact ⟨rfl, HB.out.trans (hkd.trans hk5)⟩
end Go.Proofs.Ytdodgnpjlicnoaa
