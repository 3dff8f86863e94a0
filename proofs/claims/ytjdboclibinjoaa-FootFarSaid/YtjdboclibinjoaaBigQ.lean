/- Plain mathematics of the reference's quotients: rounding down by sizes and signs, trial digits, one digit after the other. -/
import Derived.Test.YtjdboclibinjoaaBig4
set_option linter.unusedVariables false
namespace Go.Proofs.Ytjdboclibinjoaa
theorem div_uniq {x y q : Int} (hy : 0 < y) (h1 : q * y ≤ x) (h2 : x < q * y + y) : x / y = q := by
  have h3 := Int.le_ediv_of_mul_le hy h1
  have h4 := Int.ediv_lt_of_lt_mul hy (show x < (q + 1) * y by rw [Int.add_mul, Int.one_mul]; exact h2)
  omega
/-- A quotient, rounded down; b isn't 0. -/
def flo (x y : Int) : Int := if 0 < y then x / y else (-x) / (-y)
theorem flo_pos (x : Int) {y : Int} (h : 0 < y) : flo x y = x / y := by unfold flo; rw [if_pos h]
theorem flo_same {x y : Int} (hy : y ≠ 0) (h : decide (x < 0) = decide (y < 0)) : flo x y = (x.natAbs : Int) / (y.natAbs : Int) := by
  unfold flo
  by_cases hx : x < 0
  · have hy2 : y < 0 := by simpa [hx] using h
    rw [if_neg (by omega), show ((x.natAbs : Int)) = -x by omega, show ((y.natAbs : Int)) = -y by omega]
  · have hy2 : ¬ y < 0 := by simpa [hx] using h
    rw [if_pos (by omega), show ((x.natAbs : Int)) = x by omega, show ((y.natAbs : Int)) = y by omega]
theorem flo_diff {x y q r : Int} (hy : y ≠ 0) (h : decide (x < 0) ≠ decide (y < 0)) (hq : (x.natAbs : Int) = q * (y.natAbs : Int) + r) (h0 : 0 ≤ r) (h1 : r < (y.natAbs : Int)) :
    flo x y = if r = 0 then -q else -(q + 1) := by
  have key : ∀ X Y : Int, 0 < Y → -X = q * Y + r → 0 ≤ r → r < Y → X / Y = if r = 0 then -q else -(q + 1) := by
    intro X Y hY e h0 h1
    split
    · rename_i hr
      refine div_uniq hY ?_ ?_ <;> rw [Int.neg_mul] <;> omega
    · rename_i hr
      refine div_uniq hY ?_ ?_ <;> rw [Int.neg_mul, Int.add_mul, Int.one_mul] <;> omega
  unfold flo
  by_cases hx : x < 0
  · have hy2 : ¬ y < 0 := by intro hh; apply h; simp [hx, hh]
    rw [if_pos (by omega)]
    have e1 : ((x.natAbs : Int)) = -x := by omega
    have e2 : ((y.natAbs : Int)) = y := by omega
    rw [e1, e2] at hq
    rw [e2] at h1
    exact key x y (by omega) hq h0 h1
  · have hy2 : y < 0 := by
      rcases Int.lt_or_le y 0 with hh | hh
      · exact hh
      · exfalso; apply h; simp [hx]; omega
    rw [if_neg (by omega)]
    have e1 : ((x.natAbs : Int)) = x := by omega
    have e2 : ((y.natAbs : Int)) = -y := by omega
    rw [e1, e2] at hq
    rw [e2] at h1
    exact key (-x) (-y) (by omega) (by rw [Int.neg_neg]; exact hq) h0 h1
theorem flo_zero {x y : Int} (hy : y ≠ 0) : (flo x y).natAbs ≤ x.natAbs := by
  by_cases h : decide (x < 0) = decide (y < 0)
  · rw [flo_same hy h]
    have := Int.ediv_le_self (a := (x.natAbs : Int)) (y.natAbs : Int) (by omega)
    have h2 := Int.ediv_nonneg (show (0:Int) ≤ x.natAbs by omega) (show (0:Int) ≤ y.natAbs by omega)
    omega
  · have h3 := Int.mul_ediv_add_emod (x.natAbs : Int) (y.natAbs : Int)
    have h4 := Int.emod_nonneg (x.natAbs : Int) (show (y.natAbs : Int) ≠ 0 by omega)
    have h5 := Int.emod_lt_of_pos (x.natAbs : Int) (show 0 < (y.natAbs : Int) by omega)
    rw [Int.mul_comm] at h3
    rw [flo_diff hy h h3.symm h4 h5]
    have h6 := Int.ediv_nonneg (show (0:Int) ≤ x.natAbs by omega) (show (0:Int) ≤ y.natAbs by omega)
    have h7 := Int.mul_le_mul_of_nonneg_left (show (1:Int) ≤ y.natAbs by omega) h6
    split <;> omega
/-- A digit by its whole-numbered place; none below 0. -/
def dgi (l : List Int) (i : Int) : Int := if 0 ≤ i then dgt l i.toNat else 0
theorem dgi_ok {l : List Int} (h : okd l) (i : Int) : 0 ≤ dgi l i ∧ dgi l i ≤ 32767 := by
  unfold dgi; split
  · exact dgt_ok h _
  · omega
theorem vd_top (l : List Int) (hl : okd l) (k : Nat) (hk : 1 ≤ k) (hlen : l.length ≤ k) : ∃ e, 0 ≤ e ∧ e < Bp (k - 1) ∧ 32768 * vd l = (dgi l ((k : Int) - 1) * 32768 + dgi l ((k : Int) - 2)) * Bp (k - 1) + e := by
  obtain ⟨j, rfl⟩ : ∃ j, k = j + 1 := ⟨k - 1, by omega⟩
  have e1 : dgi l (((j + 1 : Nat) : Int) - 1) = dgt l j := by unfold dgi; rw [if_pos (by omega)]; congr 1; omega
  have hv : vd l = vd (l.take j) + Bp j * dgt l j := by rw [← vd_take_succ, List.take_of_length_le hlen]
  cases j with
  | zero =>
    have e2 : dgi l (((0 + 1 : Nat) : Int) - 2) = 0 := by unfold dgi; rw [if_neg (by omega)]
    rw [e1, e2]
    refine ⟨0, by omega, by simp [Bp], ?_⟩
    simp [Bp, vd] at hv ⊢
    omega
  | succ i =>
    have e2 : dgi l (((i + 1 + 1 : Nat) : Int) - 2) = dgt l i := by unfold dgi; rw [if_pos (by omega)]; congr 1; omega
    rw [e1, e2]
    rw [vd_take_succ] at hv
    have ht := vd_lt (okd_take hl i)
    have ht0 := vd_nonneg (okd_take hl i)
    have hb : Bp (l.take i).length ≤ Bp i := Bp_mono (by simp; omega)
    refine ⟨32768 * vd (l.take i), by omega, ?_, ?_⟩
    · rw [Nat.add_sub_cancel, Bp]; omega
    · rw [hv, Nat.add_sub_cancel, Bp, Int.add_mul, Int.mul_add, Int.mul_add]
      have a1 : 32768 * (Bp i * dgt l i) = dgt l i * (32768 * Bp i) := by rw [Int.mul_comm (Bp i), Int.mul_left_comm]
      have a2 : 32768 * (32768 * Bp i * dgt l (i + 1)) = dgt l (i + 1) * 32768 * (32768 * Bp i) := by
        rw [Int.mul_comm (32768 * Bp i) (dgt l (i + 1)), ← Int.mul_assoc, Int.mul_comm 32768 (dgt l (i + 1))]
      omega
theorem tq1 {q Y T P e F f R : Int} (hq : 0 ≤ q) (h : q * (T + 1) ≤ F) (hY : 32768 * Y = T * P + e) (he : e < P) (hR : 32768 * R = F * P + f) (hf : 0 ≤ f) (hP : 1 ≤ P) : q * Y ≤ R := by
  have h1 : q * (32768 * Y) ≤ q * ((T + 1) * P) := Int.mul_le_mul_of_nonneg_left (by rw [hY, Int.add_mul, Int.one_mul]; omega) hq
  have h2 : q * (T + 1) * P ≤ F * P := Int.mul_le_mul_of_nonneg_right h (by omega)
  rw [Int.mul_assoc] at h2
  rw [Int.mul_left_comm] at h1
  omega
theorem tq2 {q Y T P e F f R : Int} (hq : 0 ≤ q) (h : q * Y ≤ R) (hY : 32768 * Y = T * P + e) (he : 0 ≤ e) (hR : 32768 * R = F * P + f) (hf : f < P) (hP : 1 ≤ P) : q * T ≤ F + 1 := by
  rcases Int.lt_or_le (F + 1) (q * T) with h3 | h3
  · exfalso
    have h1 : q * (T * P) ≤ q * (32768 * Y) := Int.mul_le_mul_of_nonneg_left (by omega) hq
    have h2 : (F + 1) * P ≤ q * T * P := Int.mul_le_mul_of_nonneg_right (by omega) (by omega)
    rw [Int.mul_assoc, Int.add_mul, Int.one_mul] at h2
    rw [Int.mul_left_comm q 32768] at h1
    omega
  · exact h3
theorem trial {b r : List Int} {k : Nat} (hb : Norm b) (hr : okd r) (hk : b.length = k) (hk1 : 1 ≤ k) (hlr : r.length ≤ k + 1) (hR : vd r < 32768 * vd b) {top first : Int}
    (htp : top = dgi b ((k : Int) - 1) * 32768 + dgi b ((k : Int) - 2)) (hfs : first = (dgi r k * 32768 + dgi r ((k : Int) - 1)) * 32768 + dgi r ((k : Int) - 2)) :
    32768 ≤ top ∧ first / (top + 1) ≤ vd r / vd b ∧ vd r / vd b ≤ min 32767 ((first + 1) / top) := by
  obtain ⟨e, he0, he1, he⟩ := vd_top b hb.1 k hk1 (by omega)
  obtain ⟨f, hf0, hf1, hf⟩ : ∃ f, 0 ≤ f ∧ f < Bp (k - 1) ∧ 32768 * vd r = first * Bp (k - 1) + f := by
    have hsp := vd_take_succ r k
    rw [List.take_of_length_le hlr] at hsp
    have hlen : (r.take k).length ≤ k := by simp; omega
    obtain ⟨f, h0, h1, h2⟩ := vd_top (r.take k) (okd_take hr k) k hk1 hlen
    refine ⟨f, h0, h1, ?_⟩
    have d1 : ∀ i : Int, i < k → dgi (r.take k) i = dgi r i := fun i hi => by
      unfold dgi
      split
      · unfold dgt; rw [List.getElem?_take, if_pos (by omega)]
      · rfl
    rw [d1 _ (by omega), d1 _ (by omega)] at h2
    have e3 : dgi r k = dgt r k := by unfold dgi; rw [if_pos (by omega), Int.toNat_natCast]
    have hB : Bp k = 32768 * Bp (k - 1) := by
      obtain ⟨j, rfl⟩ : ∃ j, k = j + 1 := ⟨k - 1, by omega⟩
      exact Bp1s j
    rw [hsp, hB, hfs, e3]
    have a1 : (dgt r k * 32768 + dgi r ((k : Int) - 1)) * 32768 + dgi r ((k : Int) - 2) = dgt r k * 1073741824 + (dgi r ((k : Int) - 1) * 32768 + dgi r ((k : Int) - 2)) := by omega
    rw [a1]
    generalize dgi r ((k : Int) - 1) * 32768 + dgi r ((k : Int) - 2) = T at *
    rw [Int.add_mul, Int.mul_add, h2]
    have a2 : 32768 * (32768 * Bp (k - 1) * dgt r k) = dgt r k * 1073741824 * Bp (k - 1) := by
      rw [Int.mul_comm (32768 * Bp (k - 1)) (dgt r k), Int.mul_left_comm, Int.mul_assoc, ← Int.mul_assoc 32768 32768]
      rfl
    omega
  have hP := Bp_pos (k - 1)
  have hbne : b ≠ [] := by rintro rfl; simp at hk; omega
  have hY : 1 ≤ vd b := by have := norm_pos hb hbne; have := Bp_pos (b.length - 1); omega
  have hR0 := vd_nonneg hr
  have hk1' := dgi_ok hb.1 ((k : Int) - 1)
  have hk2' := dgi_ok hb.1 ((k : Int) - 2)
  have htop : 32768 ≤ top := by
    have : dgi b ((k : Int) - 1) ≠ 0 := by
      obtain ⟨m, d, rfl⟩ := list_snoc b hbne
      have hd := hb.2 d (by simp)
      have hkk : k = m.length + 1 := by rw [← hk]; simp
      unfold dgi
      rw [if_pos (by omega)]
      have : ((k : Int) - 1).toNat = m.length := by omega
      rw [this]
      simpa [dgt] using hd
    omega
  have hF0 : 0 ≤ first := by
    have h1 := dgi_ok hr k
    have h2 := dgi_ok hr ((k : Int) - 1)
    have h3 := dgi_ok hr ((k : Int) - 2)
    omega
  rw [← htp] at he
  clear htp hfs hk1' hk2'
  refine ⟨htop, ?_, ?_⟩
  · refine Int.le_ediv_of_mul_le (by omega) ?_
    exact tq1 (Int.ediv_nonneg hF0 (by omega)) (Int.ediv_mul_le first (by omega)) he he1 hf hf0 hP
  · have hq := Int.ediv_mul_le (vd r) (show vd b ≠ 0 by omega)
    have hq0 := Int.ediv_nonneg hR0 (show 0 ≤ vd b by omega)
    have hlt := Int.ediv_lt_of_lt_mul (show 0 < vd b by omega) hR
    have h3 : vd r / vd b ≤ (first + 1) / top := Int.le_ediv_of_mul_le (by omega) (tq2 hq0 hq he he0 hf hf1 hP)
    omega
end Go.Proofs.Ytjdboclibinjoaa
