/- Plain laws of orientation. -/
import Derived.Test.YtpmhmaiagjdpeaaRw
namespace Go.Proofs.Ytpmhmaiagjdpeaa
open Go.RowKit
def cr (a1 a2 b1 b2 p1 p2 : Int) : Int := (b1 - a1) * (p2 - a2) - (b2 - a2) * (p1 - a1)
theorem cr_exp (a1 a2 b1 b2 p1 p2 : Int) : cr a1 a2 b1 b2 p1 p2 = a1 * b2 - a2 * b1 + b1 * p2 - b2 * p1 + p1 * a2 - p2 * a1 := by
  unfold cr
  simp only [Int.sub_mul, Int.mul_sub]
  have c1 := Int.mul_comm a1 b2; have c2 := Int.mul_comm a2 b1; have c3 := Int.mul_comm b1 p2; have c4 := Int.mul_comm b2 p1; have c5 := Int.mul_comm p1 a2; have c6 := Int.mul_comm p2 a1; have c7 := Int.mul_comm a1 a2
  omega
theorem cr_ba (a1 a2 b1 b2 p1 p2 : Int) : cr b1 b2 a1 a2 p1 p2 = - cr a1 a2 b1 b2 p1 p2 := by
  rw [cr_exp, cr_exp]
  have c1 := Int.mul_comm a1 b2; have c2 := Int.mul_comm a2 b1; have c3 := Int.mul_comm b1 p2; have c4 := Int.mul_comm b2 p1; have c5 := Int.mul_comm p1 a2; have c6 := Int.mul_comm p2 a1
  omega
theorem cr_bpa (a1 a2 b1 b2 p1 p2 : Int) : cr b1 b2 p1 p2 a1 a2 = cr a1 a2 b1 b2 p1 p2 := by rw [cr_exp, cr_exp]; omega
theorem cr_pab (a1 a2 b1 b2 p1 p2 : Int) : cr p1 p2 a1 a2 b1 b2 = cr a1 a2 b1 b2 p1 p2 := by rw [cr_exp, cr_exp]; omega
theorem cr_apb (a1 a2 b1 b2 p1 p2 : Int) : cr a1 a2 p1 p2 b1 b2 = - cr a1 a2 b1 b2 p1 p2 := by rw [← cr_bpa, cr_ba, cr_bpa, cr_bpa]
theorem cr_perp (a1 a2 b1 b2 p1 p2 : Int) : cr (-a2) a1 (-b2) b1 (-p2) p1 = cr a1 a2 b1 b2 p1 p2 := by
  rw [cr_exp, cr_exp]; simp only [Int.neg_mul, Int.mul_neg]
  have c1 := Int.mul_comm a1 b2; have c2 := Int.mul_comm a2 b1; have c3 := Int.mul_comm b1 p2; have c4 := Int.mul_comm b2 p1; have c5 := Int.mul_comm p1 a2; have c6 := Int.mul_comm p2 a1
  omega
theorem cr_shift (a1 a2 b1 b2 p1 p2 u v : Int) : cr (a1 + u) (a2 + v) (b1 + u) (b2 + v) (p1 + u) (p2 + v) = cr a1 a2 b1 b2 p1 p2 := by
  unfold cr; congr 2 <;> omega

theorem cl1_neg (n : Int) : clI (-n) (-1) 1 = - clI n (-1) 1 := by unfold clI; (repeat' split) <;> omega
theorem cl1_bd (n : Int) : -1 ≤ clI n (-1) 1 ∧ clI n (-1) 1 ≤ 1 := by unfold clI; (repeat' split) <;> omega
theorem ori_cr (ax ay bx b_y px py : Int) : oriI ax ay bx b_y px py = clI (cr (hc ax) (hc ay) (hc bx) (hc b_y) (hc px) (hc py)) (-1) 1 := rfl
theorem ori_bd (ax ay bx b_y px py : Int) : -1 ≤ oriI ax ay bx b_y px py ∧ oriI ax ay bx b_y px py ≤ 1 := cl1_bd _
theorem ori_ba (ax ay bx b_y px py : Int) : oriI bx b_y ax ay px py = - oriI ax ay bx b_y px py := by rw [ori_cr, ori_cr, cr_ba, cl1_neg]
theorem ori_bpa (ax ay bx b_y px py : Int) : oriI bx b_y px py ax ay = oriI ax ay bx b_y px py := by rw [ori_cr, ori_cr, cr_bpa]
theorem ori_pab (ax ay bx b_y px py : Int) : oriI px py ax ay bx b_y = oriI ax ay bx b_y px py := by rw [ori_cr, ori_cr, cr_pab]
theorem ori_apb (ax ay bx b_y px py : Int) : oriI ax ay px py bx b_y = - oriI ax ay bx b_y px py := by rw [ori_cr, ori_cr, cr_apb, cl1_neg]
theorem on_a (ax ay bx b_y : Int) : onB ax ay bx b_y ax ay = true := by
  rw [onB_iff, ori_cr, cl1_zero, cr_exp]; simp only [hc_hc]
  have c1 := Int.mul_comm (hc ax) (hc b_y); have c2 := Int.mul_comm (hc ay) (hc bx)
  have c3 := Int.mul_comm (hc ax) (hc ay)
  omega
theorem on_b (ax ay bx b_y : Int) : onB ax ay bx b_y bx b_y = true := by
  rw [onB_iff, ori_cr, cl1_zero, cr_exp]; simp only [hc_hc]
  have c1 := Int.mul_comm (hc ax) (hc b_y); have c2 := Int.mul_comm (hc ay) (hc bx)
  have c3 := Int.mul_comm (hc bx) (hc b_y)
  omega
theorem on_swap (ax ay bx b_y px py : Int) : onB ax ay bx b_y px py = onB bx b_y ax ay px py := by
  rw [Bool.eq_iff_iff, onB_iff, onB_iff, ori_ba (hc ax) (hc ay) (hc bx) (hc b_y) (hc px) (hc py)]; omega
theorem on_ori (ax ay bx b_y px py : Int) (h : onB ax ay bx b_y px py = true) : oriI ax ay bx b_y px py = 0 := by
  have := (onB_iff ax ay bx b_y px py).1 h
  rw [ori_cr, cl1_zero] at this ⊢
  simp only [hc_hc] at this
  exact this.1
theorem hc_small {n : Int} (h : -1048576 ≤ n) (h1 : n ≤ 1048576) : hc n = n := hc_id ⟨h, h1⟩
theorem ori_shift (ax ay bx b_y px py u v : Int) (h1 : -100000 < ax) (h2 : ax < 100000) (h3 : -100000 < ay) (h4 : ay < 100000) (h5 : -100000 < bx) (h6 : bx < 100000) (h7 : -100000 < b_y) (h8 : b_y < 100000)
    (h9 : -100000 < px) (h10 : px < 100000) (h11 : -100000 < py) (h12 : py < 100000) (h13 : -100000 < u) (h14 : u < 100000) (h15 : -100000 < v) (h16 : v < 100000) :
    oriI (hc ax + hc u) (hc ay + hc v) (hc bx + hc u) (hc b_y + hc v) (hc px + hc u) (hc py + hc v) = oriI ax ay bx b_y px py := by
  rw [ori_cr, ori_cr, hc_small (n := ax) (by omega) (by omega), hc_small (n := ay) (by omega) (by omega), hc_small (n := bx) (by omega) (by omega), hc_small (n := b_y) (by omega) (by omega), hc_small (n := px) (by omega) (by omega), hc_small (n := py) (by omega) (by omega), hc_small (n := u) (by omega) (by omega), hc_small (n := v) (by omega) (by omega),
    hc_small (n := ax + u) (by omega) (by omega), hc_small (n := ay + v) (by omega) (by omega), hc_small (n := bx + u) (by omega) (by omega), hc_small (n := b_y + v) (by omega) (by omega), hc_small (n := px + u) (by omega) (by omega), hc_small (n := py + v) (by omega) (by omega), cr_shift]
theorem hc_neg (n : Int) (h : -1048576 ≤ n) (h1 : n ≤ 1048576) : hc (-n) = -n := hc_id ⟨by omega, by omega⟩
theorem ori_perp (ax ay bx b_y px py : Int) : oriI (-hc ay) (hc ax) (-hc b_y) (hc bx) (-hc py) (hc px) = oriI ax ay bx b_y px py := by
  rw [ori_cr, ori_cr, hc_hc, hc_hc, hc_hc, hc_neg _ (hc_bd ay).1 (hc_bd ay).2, hc_neg _ (hc_bd b_y).1 (hc_bd b_y).2, hc_neg _ (hc_bd py).1 (hc_bd py).2, cr_perp]
end Go.Proofs.Ytpmhmaiagjdpeaa
