/- One digit of a long quotient, by a guess that is mended: plain arithmetic. -/
import Derived.Test.YtlbiiljncacdoaaGreatWd6
set_option linter.unusedVariables false
namespace Go.Proofs.YtlbiiljncacdoaaGreat
/-- The divisor's two digits, what is divided, the next digit. -/
structure Dg (D d1 d0 U l : Int) : Prop where
  e : D = d1 * 4294967296 + d0
  a1 : 2147483648 ≤ d1
  a2 : d1 < 4294967296
  b1 : 0 ≤ d0
  b2 : d0 < 4294967296
  u1 : 0 ≤ U
  u2 : U < D
  l1 : 0 ≤ l
  l2 : l < 4294967296
/-- The digit. -/
def dgq (D U l : Int) : Int := (U * 4294967296 + l) / D
/-- A guess of the digit that may be too great, and what is left by it. -/
structure Gs (D d1 U l q r : Int) : Prop where
  lo : dgq D U l ≤ q
  hi : q ≤ 4294967297
  re : r = U - q * d1
  r0 : 0 ≤ r
  r1 : r < 4294967296
section
variable {D d1 d0 U l q r : Int}
theorem Dg.pos (h : Dg D d1 d0 U l) : 0 < D := by have := h.e; have := h.a1; have := h.b1; omega
theorem Dg.lt (h : Dg D d1 d0 U l) : dgq D U l < 4294967296 := by
  unfold dgq
  have h0 := h.pos; have h1 := h.u2; have h2 := h.l2
  exact Int.ediv_lt_of_lt_mul h0 (by omega)
theorem Dg.ge (h : Dg D d1 d0 U l) : 0 ≤ dgq D U l := by
  unfold dgq
  have h0 := h.pos; have h1 := h.u1; have h2 := h.l1
  exact Int.ediv_nonneg (by omega) (by omega)
theorem Gs.start (h : Dg D d1 d0 U l) : Gs D d1 U l (U / d1) (U - U / d1 * d1) := by
  have h0 := h.pos
  have hd : 0 < d1 := by have := h.a1; omega
  have hm := Int.emod_add_mul_ediv U d1
  have hm2 := Int.emod_nonneg U (by omega : d1 ≠ 0)
  have hm3 := Int.emod_lt_of_pos U hd
  have ec : d1 * (U / d1) = U / d1 * d1 := Int.mul_comm _ _
  refine ⟨?_, ?_, rfl, by omega, by have := h.a2; omega⟩
  · apply Int.le_ediv_of_mul_le hd
    have k1 : dgq D U l * D ≤ U * 4294967296 + l := Int.ediv_mul_le _ (by omega)
    have k2 : dgq D U l * D = dgq D U l * d1 * 4294967296 + dgq D U l * d0 := by rw [h.e, Int.mul_add, Int.mul_assoc]
    have k3 : 0 ≤ dgq D U l * d0 := Int.mul_nonneg h.ge h.b1
    have := h.l2
    generalize dgq D U l * d1 = p at *
    generalize dgq D U l * d0 = p' at *
    omega
  · have k1 : U < d1 * 4294967298 := by have := h.e; have := h.u2; have := h.b2; have := h.a1; omega
    have k2 : U / d1 < 4294967298 := Int.ediv_lt_of_lt_mul hd (by rw [Int.mul_comm]; exact k1)
    omega
theorem Gs.step (h : Dg D d1 d0 U l) (g : Gs D d1 U l q r) (hc : 4294967296 ≤ q ∨ 4294967296 * r + l < q * d0) : dgq D U l ≤ q - 1 := by
  rcases hc with hc | hc
  · have := h.lt; omega
  · have k : dgq D U l < q := by
      unfold dgq
      apply Int.ediv_lt_of_lt_mul h.pos
      have k2 : q * D = q * d1 * 4294967296 + q * d0 := by rw [h.e, Int.mul_add, Int.mul_assoc]
      have := g.re
      rw [k2]
      generalize q * d1 = p at *
      generalize q * d0 = p' at *
      omega
    omega
theorem Gs.next (h : Dg D d1 d0 U l) (g : Gs D d1 U l q r) (hc : 4294967296 ≤ q ∨ 4294967296 * r + l < q * d0) (hr : r + d1 < 4294967296) : Gs D d1 U l (q - 1) (r + d1) := by
  have h1 := g.step h hc
  have h2 := g.hi; have h3 := g.re; have h4 := g.r0; have h5 := h.a1
  refine ⟨h1, by omega, ?_, by omega, hr⟩
  rw [Int.sub_mul]; omega
theorem Gs.far (h : Dg D d1 d0 U l) (g : Gs D d1 U l q r) (hc : 4294967296 ≤ q ∨ 4294967296 * r + l < q * d0) (hr : 4294967296 ≤ r + d1) : q - 1 = dgq D U l := by
  have h1 := g.step h hc
  have h0 := h.ge
  have h2 := g.hi
  have h3 : r + d1 = U - (q - 1) * d1 := by rw [Int.sub_mul, g.re]; omega
  have k : q - 1 ≤ dgq D U l := by
    unfold dgq
    apply Int.le_ediv_of_mul_le h.pos
    have k2 : (q - 1) * D = (q - 1) * d1 * 4294967296 + (q - 1) * d0 := by rw [h.e, Int.mul_add, Int.mul_assoc]
    have k3 : (q - 1) * d0 ≤ 4294967296 * 4294967295 := Int.mul_le_mul (by omega) (by have := h.b2; omega) h.b1 (by omega)
    have := h.l1
    rw [k2]
    generalize (q - 1) * d1 = p at *
    generalize (q - 1) * d0 = p' at *
    omega
  omega
theorem Gs.done (h : Dg D d1 d0 U l) (g : Gs D d1 U l q r) (hq : q < 4294967296) (hc : ¬ 4294967296 * r + l < q * d0) : q = dgq D U l := by
  have h1 := g.lo
  have k : q ≤ dgq D U l := by
    unfold dgq
    apply Int.le_ediv_of_mul_le h.pos
    have k2 : q * D = q * d1 * 4294967296 + q * d0 := by rw [h.e, Int.mul_add, Int.mul_assoc]
    have := g.re
    rw [k2]
    generalize q * d1 = p at *
    generalize q * d0 = p' at *
    omega
  omega
theorem Gs.bd (h : Dg D d1 d0 U l) (g : Gs D d1 U l q r) : 0 ≤ q := by have := g.lo; have := h.ge; omega
theorem Gs.mulbd (h : Dg D d1 d0 U l) (g : Gs D d1 U l q r) (hq : q < 4294967296) : 0 ≤ q * d0 ∧ q * d0 < 18446744073709551616 := by
  have h0 := g.bd h
  constructor
  · exact Int.mul_nonneg h0 h.b1
  · have := Int.mul_le_mul (show q ≤ 4294967295 by omega) (show d0 ≤ 4294967295 by have := h.b2; omega) h.b1 (by omega)
    omega
/-- What is left behind the digit. -/
def lft (D U l : Int) : Int := U * 4294967296 + l - dgq D U l * D
theorem Dg.left (h : Dg D d1 d0 U l) : 0 ≤ lft D U l ∧ lft D U l < D := by
  have h0 := h.pos
  have e := Int.emod_add_mul_ediv (U * 4294967296 + l) D
  have e2 := Int.emod_nonneg (U * 4294967296 + l) (by omega : D ≠ 0)
  have e3 := Int.emod_lt_of_pos (U * 4294967296 + l) h0
  unfold lft dgq
  rw [Int.mul_comm ((U * 4294967296 + l) / D) D]
  omega
end
/-- Two digits make the quotient. -/
theorem two_dgt {D d1 d0 U l1 l0 y hi lo : Int} {s : Nat} (h : Dg D d1 d0 U l1) (h2 : Dg D d1 d0 (lft D U l1) l0) (hy : 0 < y) (hD : D = y * 2 ^ s) (hN : U * 18446744073709551616 + (l1 * 4294967296 + l0) = (hi * 18446744073709551616 + lo) * 2 ^ s) :
    dgq D U l1 * 4294967296 + dgq D (lft D U l1) l0 = (hi * 18446744073709551616 + lo) / y ∧ lft D (lft D U l1) l0 / 2 ^ s = (hi * 18446744073709551616 + lo) % y := by
  have hp : (0 : Int) < 2 ^ s := Int.pow_pos (by omega)
  have e1 : lft D U l1 = U * 4294967296 + l1 - dgq D U l1 * D := rfl
  have e2 : lft D (lft D U l1) l0 = lft D U l1 * 4294967296 + l0 - dgq D (lft D U l1) l0 * D := rfl
  obtain ⟨k1, k2⟩ := h2.left
  generalize hR : lft D (lft D U l1) l0 = R at *
  generalize hX : lft D U l1 = X at *
  generalize dgq D X l0 = q0 at *
  generalize dgq D U l1 = q1 at *
  have e3 : (hi * 18446744073709551616 + lo) * 2 ^ s = (q1 * 4294967296 + q0) * D + R := by
    rw [← hN, Int.add_mul, Int.mul_right_comm, e2, e1]
    generalize q1 * D = p at *
    generalize q0 * D = p' at *
    omega
  generalize hi * 18446744073709551616 + lo = N at *
  have e4 : N * 2 ^ s = ((q1 * 4294967296 + q0) * y) * 2 ^ s + R := by rw [e3, hD, Int.mul_assoc]
  have e5 : R = (N - (q1 * 4294967296 + q0) * y) * 2 ^ s := by rw [Int.sub_mul]; omega
  generalize hr : N - (q1 * 4294967296 + q0) * y = r at *
  have r0 : 0 ≤ r := by
    rcases Int.lt_or_le r 0 with h | h
    · have := Int.mul_neg_of_neg_of_pos h hp; omega
    · exact h
  have r1 : r < y := by
    rcases Int.lt_or_le r y with h | h
    · exact h
    · have := Int.mul_le_mul_of_nonneg_right h (show (0:Int) ≤ 2 ^ s by omega); omega
  have hN2 : N = r + y * (q1 * 4294967296 + q0) := by rw [Int.mul_comm y]; omega
  constructor
  · rw [hN2, Int.add_mul_ediv_left _ _ (by omega : y ≠ 0), Int.ediv_eq_zero_of_lt r0 r1, Int.zero_add]
  · rw [e5, Int.mul_ediv_cancel _ (by omega : (2:Int) ^ s ≠ 0), hN2, Int.add_mul_emod_self_left, Int.emod_eq_of_lt r0 r1]
open Go.RowKit in
theorem dv_facts {hi lo y : Int} {s : Nat} (hy : 0 < y) (hs : s ≤ 63) (h1 : y * 2 ^ s < 18446744073709551616) (h2 : 9223372036854775808 ≤ y * 2 ^ s) (hh : 0 < hi) (hh2 : hi < y) (hl : 0 ≤ lo) (hl2 : lo < 18446744073709551616) :
    ∃ D d1 d0 U l1 l0 L : Int, IntKind.u64.wrap (y * 2 ^ s) = D ∧ D / 4294967296 = d1 ∧ bits BinOp.and IntKind.u64 D 4294967295 = d0 ∧ bits BinOp.or IntKind.u64 (IntKind.u64.wrap (hi * 2 ^ s)) (lo / 2 ^ (64 - s)) = U ∧
      IntKind.u64.wrap (lo * 2 ^ s) = L ∧ L / 4294967296 = l1 ∧ bits BinOp.and IntKind.u64 L 4294967295 = l0 ∧ Dg D d1 d0 U l1 ∧ 0 ≤ l0 ∧ l0 < 4294967296 ∧ D = y * 2 ^ s ∧ U * 18446744073709551616 + (l1 * 4294967296 + l0) = (hi * 18446744073709551616 + lo) * 2 ^ s := by
  have hp : (0 : Int) < 2 ^ s := Int.pow_pos (by omega)
  have hp2 : (0 : Int) < 2 ^ (64 - s) := Int.pow_pos (by omega)
  have hpp : (2 : Int) ^ s * 2 ^ (64 - s) = 18446744073709551616 := by rw [← Int.pow_add, show s + (64 - s) = 64 by omega]; rfl
  have hh3 : (hi + 1) * 2 ^ s ≤ y * 2 ^ s := Int.mul_le_mul_of_nonneg_right (by omega) (by omega)
  rw [Int.add_mul, Int.one_mul] at hh3
  have hh4 : 0 < hi * 2 ^ s := Int.mul_pos hh hp
  have ea := Int.emod_add_mul_ediv lo (2 ^ (64 - s))
  have eb := Int.emod_nonneg lo (by omega : (2 : Int) ^ (64 - s) ≠ 0)
  have ec := Int.emod_lt_of_pos lo hp2
  have ha0 : 0 ≤ lo / 2 ^ (64 - s) := Int.ediv_nonneg hl (by omega)
  have ha1 : lo / 2 ^ (64 - s) < 2 ^ s := Int.ediv_lt_of_lt_mul hp2 (by rw [hpp]; exact hl2)
  have hb0 : 0 ≤ lo % 2 ^ (64 - s) * 2 ^ s := Int.mul_nonneg eb (by omega)
  have hb1 : lo % 2 ^ (64 - s) * 2 ^ s < 18446744073709551616 := by rw [← hpp, Int.mul_comm]; exact Int.mul_lt_mul_of_pos_left ec hp
  have hlo : lo * 2 ^ s = lo / 2 ^ (64 - s) * 18446744073709551616 + lo % 2 ^ (64 - s) * 2 ^ s := by
    have e : lo = lo / 2 ^ (64 - s) * 2 ^ (64 - s) + lo % 2 ^ (64 - s) := by rw [Int.mul_comm]; omega
    calc lo * 2 ^ s = (lo / 2 ^ (64 - s) * 2 ^ (64 - s) + lo % 2 ^ (64 - s)) * 2 ^ s := by rw [← e]
      _ = lo / 2 ^ (64 - s) * 2 ^ (64 - s) * 2 ^ s + lo % 2 ^ (64 - s) * 2 ^ s := Int.add_mul _ _ _
      _ = _ := by rw [Int.mul_assoc, Int.mul_comm (2 ^ (64 - s)) (2 ^ s), hpp]
  have w1 : IntKind.u64.wrap (y * 2 ^ s) = y * 2 ^ s := by rw [uw]; exact Int.emod_eq_of_lt (by omega) h1
  have w2 : IntKind.u64.wrap (hi * 2 ^ s) = hi * 2 ^ s := by rw [uw]; exact Int.emod_eq_of_lt (by omega) (by omega)
  have w3 : IntKind.u64.wrap (lo * 2 ^ s) = lo % 2 ^ (64 - s) * 2 ^ s := by rw [uw, hlo]; omega
  have hU := or_add (X := hi * 2 ^ s) (b := lo / 2 ^ (64 - s)) (k := hi) (i := 2 ^ s) s rfl (Int.mul_comm _ _) (by omega) ha0 ha1 (by omega) (by omega)
  generalize hA : lo / 2 ^ (64 - s) = a at *
  generalize hBm : lo % 2 ^ (64 - s) * 2 ^ s = L at *
  generalize hDm : y * 2 ^ s = D at *
  generalize hHm : hi * 2 ^ s = H at *
  have msk : ∀ x : Int, 0 ≤ x → x < 18446744073709551616 → bits BinOp.and IntKind.u64 x 4294967295 = x % 4294967296 := fun x k1 k2 => by
    obtain ⟨x, rfl⟩ := Int.eq_ofNat_of_zero_le k1
    rw [Mul64.maskN x (by omega)]
    omega
  refine ⟨D, _, _, H + a, _, _, L, w1, rfl, msk D (by omega) h1, by rw [w2]; exact hU, w3, rfl, msk L hb0 hb1, ?_, by omega, by omega, rfl, ?_⟩
  · exact ⟨by omega, by omega, by omega, by omega, by omega, by omega, by omega, by omega, by omega⟩
  · rw [Int.add_mul (hi * 18446744073709551616), Int.mul_right_comm hi, hHm, hlo]
    omega
end Go.Proofs.YtlbiiljncacdoaaGreat
