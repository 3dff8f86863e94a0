/- Several texts in one: A quotient of 128 bits by 64. Quotients of wide numbers: sizes, digits. Quotients of wide numbers, rounded down; as places. A quotient as a place. quot: the nearer quotient; weight: sums as bytes. linear: a channel; By, of a source's image. (Printed by wip/tools/gensp8.py.) -/
import Derived.Test.YtibmhabipghjlaaGreatPlanHoldsZz12
import Derived.Deep.CutBlock
import Derived.Test.YtibmhabipghjlaaGreatPlanHoldsZz2
import Derived.Lib.QuietBelow
import Derived.Test.YtibmhabipghjlaaGreatPlanHoldsZz8
section
set_option linter.unusedVariables false
namespace Go.Proofs.YtibmhabipghjlaaGreat
open Go.RowKit
theorem div64_0 (lo y : Int) (w : World) (hy : 0 < y) (hy2 : y < 18446744073709551616) (hl : 0 ≤ lo) (hl2 : lo < 18446744073709551616) :
    Calls Tryz.prog 182 #[.int .u64 0, .int .u64 lo, .int .u64 y] w fun e w' => e = .returned (.tuple #[.int .u64 (lo / y), .int .u64 (lo % y)]) ∧ ∃ n, w' = w.drewN n := by
  have h0 : (y == 0) = false := beq_eq_false_iff_ne.2 (by omega)
  go_enter Tryz.func182, Tryz.ntmps182
  go_wp2
  go_quiet (fail)
  go_wp2
  go_returns
  exact ⟨rfl, _, rfl⟩
theorem un_wrap {D d1 d0 U l : Int} (h : Dg D d1 d0 U l) (hD : D < 18446744073709551616) : IntKind.u64.wrap (IntKind.u64.wrap (IntKind.u64.wrap (U * 4294967296) + l) - IntKind.u64.wrap (dgq D U l * D)) = lft D U l := by
  have k := h.left
  rw [uw, uw, uw, uw]
  unfold lft at *
  generalize dgq D U l * D = p at *
  omega
theorem q_wrap {a b : Int} (h1 : 0 ≤ a) (h2 : a < 4294967296) (h3 : 0 ≤ b) (h4 : b < 4294967296) : IntKind.u64.wrap (IntKind.u64.wrap (a * 4294967296) + b) = a * 4294967296 + b := by
  rw [uw, uw]; omega
set_option maxRecDepth 100000 in
set_option maxHeartbeats 8000000 in
theorem div64_1 (hi lo y : Int) (s : Nat) (w : World) (hy : 0 < y) (hy2 : y < 18446744073709551616) (hl : 0 ≤ lo) (hl2 : lo < 18446744073709551616) (hh : 0 < hi) (hh2 : hi < y) (hs : s ≤ 63)
    (hLz : ∀ w : World, Calls Tryz.prog 183 #[.int .u64 y] w fun e w' => e = .returned (.int .i64 s) ∧ w = w') (hs1 : y * 2 ^ s < 18446744073709551616) (hs2 : 9223372036854775808 ≤ y * 2 ^ s) :
    Calls Tryz.prog 182 #[.int .u64 hi, .int .u64 lo, .int .u64 y] w fun e w' => e = .returned (.tuple #[.int .u64 ((hi * 18446744073709551616 + lo) / y), .int .u64 ((hi * 18446744073709551616 + lo) % y)]) ∧ w = w' := by
  have h0 : (y == 0) = false := beq_eq_false_iff_ne.2 (by omega)
  have h1 : (hi == 0) = false := beq_eq_false_iff_ne.2 (by omega)
  obtain ⟨D, d1, d0, U, l1, l0, L, e1, e2, e3, e4, e5, e6, e7, dg', hl0, hl0', eD, eN⟩ := dv_facts hy hs hs1 hs2 hh hh2 hl hl2
  have dg := Lib.hid dg'
  have hUM := Gs.start dg'
  have HG := Lib.hid hUM
  obtain ⟨_, _, _, gs4, gs5⟩ := hUM
  obtain ⟨dg1, dg2, dg3, dg4, dg5, dg6, dg7, dg8, dg9⟩ := dg'
  clear dg1
  have hd1 : (d1 == 0) = false := beq_eq_false_iff_ne.2 (by omega)
  have ED := Lib.hid eD
  have EN := Lib.hid eN
  have hu0 : 0 ≤ U / d1 := Int.ediv_nonneg dg6 (by omega)
  have hu1 : U / d1 * d1 ≤ U := Int.ediv_mul_le _ (by omega)
  have hu2 : 0 ≤ U / d1 * d1 := Int.mul_nonneg hu0 (by omega)
  have f1 : IntKind.u64.wrap (U / d1 * d1) = U / d1 * d1 := by rw [uw]; omega
  have f2 : IntKind.u64.wrap (U - U / d1 * d1) = U - U / d1 * d1 := by rw [uw]; omega
  have hDM : D < 18446744073709551616 := by omega
  clear hu0 hu1 hu2 eD eN gs4 gs5
  have hX1 := un_wrap dg.out hDM
  obtain ⟨hX2, hX3⟩ := dg.out.left
  have dgx' : Dg D d1 d0 (lft D U l1) l0 := ⟨dg.out.e, dg2, dg3, dg4, dg5, hX2, hX3, hl0, hl0'⟩
  have hT := two_dgt dg.out dgx' hy ED.out EN.out
  have hR1 := un_wrap dgx' hDM
  have hR2 := q_wrap dg.out.ge dg.out.lt dgx'.ge dgx'.lt
  generalize hX : lft D U l1 = X at *
  have dgx := Lib.hid dgx'
  have HG2 := Lib.hid (Gs.start dgx')
  obtain ⟨_, _, _, gs4, gs5⟩ := Gs.start dgx'
  have hu0 : 0 ≤ X / d1 := Int.ediv_nonneg hX2 (by omega)
  have hu1 : X / d1 * d1 ≤ X := Int.ediv_mul_le _ (by omega)
  have hu2 : 0 ≤ X / d1 * d1 := Int.mul_nonneg hu0 (by omega)
  have g1 : IntKind.u64.wrap (X / d1 * d1) = X / d1 * d1 := by rw [uw]; omega
  have g2 : IntKind.u64.wrap (X - X / d1 * d1) = X - X / d1 * d1 := by rw [uw]; omega
  have hT1 := Lib.hid hT.1
  have hT2 := Lib.hid hT.2
  clear hu0 hu1 hu2 gs4 gs5 dgx' hT hX
  go_enter Tryz.func182, Tryz.ntmps182
  go_wp2_with fail
  refine (hLz _).mono ?_
  rintro e w1 ⟨rfl, rfl⟩
  go_upto_block 0 with fail
  go_cut [15, 16] (fun qv rv wx => qv = .int .u64 (dgq D U l1) ∧ w = wx)
  case first =>
    go_wp2_with fail
    go_loop [15, 16] (fun qv rv => ∃ a b : Int, qv = .int .u64 a ∧ rv = .int .u64 b ∧ Hid (Gs D d1 U l1 a b)) (fun qv _ => (intOf qv).toNat)
    case atStart => exact ⟨_, _, rfl, rfl, HG⟩
    case round =>
      obtain ⟨a, b, rfl, rfl, g⟩ := hrel
      have ga := g.out.bd dg.out
      have gh := g.out.hi
      have gb0 := g.out.r0
      have gb1 := g.out.r1
      have w1 : IntKind.u64.wrap (b + d1) = b + d1 := by rw [uw]; omega
      have w3 : IntKind.u64.wrap (4294967296 * b) = 4294967296 * b := by rw [uw]; omega
      have w4 : IntKind.u64.wrap (4294967296 * b + l1) = 4294967296 * b + l1 := by rw [uw]; omega
      by_cases hq : 4294967296 ≤ a
      · have w2 : IntKind.u64.wrap (a - 1) = a - 1 := by rw [uw]; omega
        by_cases hr : 4294967296 ≤ b + d1
        · have hf := Lib.hid (g.out.far dg.out (.inl hq) hr)
          go_wp2_with fail
          go_meet
          exact ⟨by rw [hf.out], rfl⟩
        · have hn := Lib.hid (g.out.next dg.out (.inl hq) (by omega))
          go_wp2_with fail
          exact ⟨⟨_, _, rfl, rfl, hn⟩, by simp [intOf]; omega⟩
      · have hm := g.out.mulbd dg.out (by omega)
        obtain ⟨p, hp⟩ : ∃ p, a * d0 = p := ⟨_, rfl⟩
        rw [hp] at hm
        obtain ⟨hm0, hm1⟩ := hm
        have w5 : IntKind.u64.wrap p = p := by rw [uw]; omega
        by_cases hc : 4294967296 * b + l1 < p
        · have hc2 := Lib.hid (show 4294967296 * b + l1 < a * d0 by rw [hp]; exact hc)
          have ga1 : 1 ≤ a := by
            have h1 := g.out.step dg.out (.inr hc2.out)
            have h2 := dg.out.ge
            omega
          have w2 : IntKind.u64.wrap (a - 1) = a - 1 := by rw [uw]; omega
          by_cases hr : 4294967296 ≤ b + d1
          · have hf := Lib.hid (g.out.far dg.out (.inr hc2.out) hr)
            go_wp2_with fail
            go_meet
            exact ⟨by rw [hf.out], rfl⟩
          · have hn := Lib.hid (g.out.next dg.out (.inr hc2.out) (by omega))
            go_wp2_with fail
            exact ⟨⟨_, _, rfl, rfl, hn⟩, by simp [intOf]; omega⟩
        · have hf := Lib.hid (g.out.done dg.out (by omega) (by rw [hp]; exact hc))
          go_wp2_with fail
          go_meet
          exact ⟨by rw [← hf.out], rfl⟩
  case rest =>
    obtain ⟨rfl, rfl⟩ := hcut
    go_upto_block 2 with fail
    go_cut [18, 16] (fun qv rv wx => qv = .int .u64 (dgq D X l0) ∧ w = wx)
    case first =>
      go_wp2_with fail
      go_loop [18, 16] (fun qv rv => ∃ a b : Int, qv = .int .u64 a ∧ rv = .int .u64 b ∧ Hid (Gs D d1 X l0 a b)) (fun qv _ => (intOf qv).toNat)
      case atStart => exact ⟨_, _, rfl, rfl, HG2⟩
      case round =>
        obtain ⟨a, b, rfl, rfl, g⟩ := hrel
        have ga := g.out.bd dgx.out
        have gh := g.out.hi
        have gb0 := g.out.r0
        have gb1 := g.out.r1
        have w1 : IntKind.u64.wrap (b + d1) = b + d1 := by rw [uw]; omega
        have w3 : IntKind.u64.wrap (4294967296 * b) = 4294967296 * b := by rw [uw]; omega
        have w4 : IntKind.u64.wrap (4294967296 * b + l0) = 4294967296 * b + l0 := by rw [uw]; omega
        by_cases hq : 4294967296 ≤ a
        · have w2 : IntKind.u64.wrap (a - 1) = a - 1 := by rw [uw]; omega
          by_cases hr : 4294967296 ≤ b + d1
          · have hf := Lib.hid (g.out.far dgx.out (.inl hq) hr)
            go_wp2_with fail
            go_meet
            exact ⟨by rw [hf.out], rfl⟩
          · have hn := Lib.hid (g.out.next dgx.out (.inl hq) (by omega))
            go_wp2_with fail
            exact ⟨⟨_, _, rfl, rfl, hn⟩, by simp [intOf]; omega⟩
        · have hm := g.out.mulbd dgx.out (by omega)
          obtain ⟨p, hp⟩ : ∃ p, a * d0 = p := ⟨_, rfl⟩
          rw [hp] at hm
          obtain ⟨hm0, hm1⟩ := hm
          have w5 : IntKind.u64.wrap p = p := by rw [uw]; omega
          by_cases hc : 4294967296 * b + l0 < p
          · have hc2 := Lib.hid (show 4294967296 * b + l0 < a * d0 by rw [hp]; exact hc)
            have ga1 : 1 ≤ a := by
              have h1 := g.out.step dgx.out (.inr hc2.out)
              have h2 := dgx.out.ge
              omega
            have w2 : IntKind.u64.wrap (a - 1) = a - 1 := by rw [uw]; omega
            by_cases hr : 4294967296 ≤ b + d1
            · have hf := Lib.hid (g.out.far dgx.out (.inr hc2.out) hr)
              go_wp2_with fail
              go_meet
              exact ⟨by rw [hf.out], rfl⟩
            · have hn := Lib.hid (g.out.next dgx.out (.inr hc2.out) (by omega))
              go_wp2_with fail
              exact ⟨⟨_, _, rfl, rfl, hn⟩, by simp [intOf]; omega⟩
          · have hf := Lib.hid (g.out.done dgx.out (by omega) (by rw [hp]; exact hc))
            go_wp2_with fail
            go_meet
            exact ⟨by rw [← hf.out], rfl⟩
    case rest =>
      obtain ⟨rfl, rfl⟩ := hcut
      go_wp2_with fail
      go_returns
      exact ⟨ret_t2 hT1.out hT2.out, rfl⟩
end Go.Proofs.YtibmhabipghjlaaGreat
end
section
set_option linter.unusedVariables false
namespace Go.Proofs.YtibmhabipghjlaaGreat
open Go.RowKit
theorem div64_any (hi lo y : Int) (w : World) (hy : 0 < y) (hy2 : y < 18446744073709551616) (hl : 0 ≤ lo) (hl2 : lo < 18446744073709551616) (hh : 0 ≤ hi) (hh2 : hi < y) :
    Calls Tryz.prog 182 #[.int .u64 hi, .int .u64 lo, .int .u64 y] w fun e w' => e = .returned (.tuple #[.int .u64 ((hi * 18446744073709551616 + lo) / y), .int .u64 ((hi * 18446744073709551616 + lo) % y)]) ∧ Below w.heap.size w w' := by
  by_cases h : hi = 0
  · subst h
    exact (div64_0 lo y w hy hy2 hl hl2).mono fun e w' ⟨h1, n, h2⟩ => ⟨by rw [h1, Int.zero_mul, Int.zero_add], by rw [h2]; exact below_drewN (Below.refl _ _) n⟩
  · obtain ⟨s, h1, h2, h3, h4⟩ := lz_any y w hy hy2
    exact (div64_1 hi lo y s w hy hy2 hl hl2 (by omega) hh2 h1 h4 h2 h3).mono fun e w' ⟨k1, k2⟩ => ⟨k1, by rw [← k2]; exact Below.refl _ _⟩
theorem div_facts {z y : Int} (h0 : 0 ≤ z) (hy : 0 < y) : (hi6 z % y * 18446744073709551616 + lo6 z) / y = lo6 (z / y) ∧ (hi6 z % y * 18446744073709551616 + lo6 z) % y = z % y ∧ hi6 z / y = hi6 (z / y) := by
  have e := Int.emod_add_mul_ediv (hi6 z) y
  have e1 := Int.emod_nonneg (hi6 z) (by omega : y ≠ 0)
  have e2 := Int.emod_lt_of_pos (hi6 z) hy
  have ez : z = hi6 z * 18446744073709551616 + lo6 z := by unfold hi6 lo6; omega
  have l0 : 0 ≤ lo6 z := by unfold lo6; omega
  have l1 : lo6 z < 18446744073709551616 := by unfold lo6; omega
  generalize hi6 z = h at *
  generalize lo6 z = l at *
  generalize h % y = r at *
  generalize h / y = a at *
  have ez2 : z = (r * 18446744073709551616 + l) + y * (a * 18446744073709551616) := by
    rw [ez, ← e, Int.add_mul, Int.mul_assoc]; omega
  have b0 : 0 ≤ (r * 18446744073709551616 + l) / y := Int.ediv_nonneg (by omega) (by omega)
  have b1 : (r * 18446744073709551616 + l) / y < 18446744073709551616 := Int.ediv_lt_of_lt_mul hy (by omega)
  have q : z / y = (r * 18446744073709551616 + l) / y + a * 18446744073709551616 := by rw [ez2, Int.add_mul_ediv_left _ _ (by omega : y ≠ 0)]
  refine ⟨?_, ?_, ?_⟩
  · rw [q]; unfold lo6; omega
  · rw [ez2, Int.add_mul_emod_self_left]
  · rw [q]; unfold hi6; omega
set_option maxHeartbeats 4000000 in
theorem qdiv_any (z y : Int) (w : World) (hz : 0 ≤ z) (hz2 : z < 340282366920938463463374607431768211456) (hy : 0 < y) (hy2 : y < 18446744073709551616) :
    Calls Tryz.prog 177 #[.int .u64 (hi6 z), .int .u64 (lo6 z), .int .u64 y] w fun e w' => e = .returned (.tuple #[.int .u64 (hi6 (z / y)), .int .u64 (lo6 (z / y)), .int .u64 (z % y)]) ∧ Below w.heap.size w w' := by
  have l0 : 0 ≤ lo6 z := by unfold lo6; omega
  have l1 : lo6 z < 18446744073709551616 := by unfold lo6; omega
  have h0 : 0 ≤ hi6 z := by unfold hi6; omega
  have h1 : hi6 z < 18446744073709551616 := by unfold hi6; omega
  have e1 := Int.emod_nonneg (hi6 z) (by omega : y ≠ 0)
  have e2 := Int.emod_lt_of_pos (hi6 z) hy
  obtain ⟨f1, f2, f3⟩ := div_facts hz hy
  have hA := fun w' => div64_any 0 (hi6 z) y w' hy hy2 h0 h1 (by omega) hy
  have hB := fun w' => div64_any (hi6 z % y) (lo6 z) y w' hy hy2 l0 l1 e1 e2
  rw [Int.zero_mul, Int.zero_add, f3] at hA
  rw [f1, f2] at hB
  generalize hi6 (z / y) = qh at *
  generalize lo6 (z / y) = ql at *
  generalize z % y = r at *
  generalize hi6 z % y = r1 at *
  generalize hi6 z = zh at *
  generalize lo6 z = zl at *
  clear l0 l1 h0 h1 e1 e2 f1 f2 f3 hz hz2
  go_enter Tryz.func177, Tryz.ntmps177
  go_wp2_with fail
  refine (hA _).mono ?_
  rintro e w1 ⟨rfl, hb1⟩
  go_wp2_with fail
  refine (hB _).mono ?_
  rintro e w2 ⟨rfl, hb2⟩
  go_wp2_with fail
  go_returns
  exact ⟨rfl, hb1.trans (hb2.mono hb1.size)⟩
set_option maxRecDepth 100000 in
set_option maxHeartbeats 4000000 in
theorem size_wd (a : Int) (w : World) (ha : Wd a) : Calls Tryz.prog 176 #[WV a] w fun e w' => e = .returned (.tuple #[.int .u64 (hi6 (ab a)), .int .u64 (lo6 (ab a))]) ∧ Below w.heap.size w w' := by
  by_cases hn : a < 0
  · obtain ⟨ua, c, e1, e2, d, e3⟩ := apart_facts ha hn
    have h1 := (wh a).s.2 hn
    clear ha hn
    go_enter Tryz.func176, Tryz.ntmps176
    go_wp2
    go_returns
    exact ⟨rfl, by go_grown⟩
  · have h1 : 0 ≤ hi6 a := by unfold hi6; omega
    have e1 : IntKind.u64.wrap (hi6 a) = hi6 (ab a) := by rw [uw]; unfold ab; rw [if_neg hn]; unfold hi6; unfold Wd at ha; omega
    have e2 : lo6 a = lo6 (ab a) := by unfold ab; rw [if_neg hn]
    have E2 := Lib.hid e2
    have hbz := (Below.refl w.heap.size w).alloc (Nat.le_refl _) (.cells (wdA a) 216)
    clear ha hn e2
    go_enter Tryz.func176, Tryz.ntmps176
    go_wp2
    go_quiet (fail)
    go_wp2
    go_returns
    exact ⟨ret_t2 rfl E2.out, below_drewN hbz _⟩
set_option maxRecDepth 100000 in
set_option maxHeartbeats 4000000 in
theorem qaway_any (z : Int) (neg : Bool) (w : World) (h0 : 0 ≤ z) (h1 : Wd z) : Calls Tryz.prog 179 #[.int .u64 (hi6 z), .int .u64 (lo6 z), .bool neg] w fun e w' => e = .returned (.tuple #[WV (if neg = true then -z else z), .bool true]) ∧ Below w.heap.size w w' := by
  obtain ⟨c, uh, d, e3, e4, e5⟩ := minus_facts h0 h1
  unfold Wd at h1
  have e1 : ¬ 9223372036854775808 < hi6 z := by unfold hi6; omega
  have e2 : (hi6 z == 9223372036854775808) = false := beq_eq_false_iff_ne.2 (by unfold hi6; omega)
  have e6 : hi6 z < 9223372036854775808 := by unfold hi6; omega
  have e7 : wrap64 (hi6 z) = hi6 z := by rw [w64]; unfold hi6; omega
  clear h0 h1
  cases neg
  all_goals
    go_enter Tryz.func179, Tryz.ntmps179
    go_wp2
    go_returns
    exact ⟨rfl, by go_grown⟩

def cutF (z : Int) : Int := if z < -70368744177664 then -70368744177664 else if 70368744177664 < z then 70368744177664 else z
end Go.Proofs.YtibmhabipghjlaaGreat
end
section
set_option linter.unusedVariables false
namespace Go.Proofs.YtibmhabipghjlaaGreat
open Go.RowKit
/-- A quotient, rounded down, and what is left. -/
def fq (a b : Int) : Int := if b < 0 then -a / -b else a / b
def fr (a b : Int) : Int := a - b * fq a b
theorem neg_div {A Y : Int} (hY : 0 < Y) : -A / Y = if A % Y = 0 then -(A / Y) else -(A / Y + 1) := by
  have e := Int.emod_add_mul_ediv A Y
  have e1 := Int.emod_nonneg A (by omega : Y ≠ 0)
  have e2 := Int.emod_lt_of_pos A hY
  split
  · rename_i h
    refine ((Int.ediv_emod_unique hY (r := 0)).2 ⟨?_, by omega, hY⟩).1
    rw [Int.mul_neg]; omega
  · rename_i h
    refine ((Int.ediv_emod_unique hY (r := Y - A % Y)).2 ⟨?_, by omega, by omega⟩).1
    rw [Int.mul_neg, Int.mul_add, Int.mul_one]; omega
/-- by how much the sizes' quotient is the floor. -/
theorem fq_facts {a b : Int} (hb : b ≠ 0) : 0 < ab b ∧ 0 ≤ ab a ∧
    (((!(decide (hi6 a < 0) == decide (b < 0))) = true ∧ 0 < ab a % ab b → fq a b = -(ab a / ab b + 1) ∧ fr a b = if b < 0 then -(ab b - ab a % ab b) else ab b - ab a % ab b) ∧
     ((!(decide (hi6 a < 0) == decide (b < 0))) = true ∧ ab a % ab b = 0 → fq a b = -(ab a / ab b) ∧ fr a b = if b < 0 then -(ab a % ab b) else ab a % ab b) ∧
     ((!(decide (hi6 a < 0) == decide (b < 0))) = false → fq a b = ab a / ab b ∧ fr a b = if b < 0 then -(ab a % ab b) else ab a % ab b)) := by
  have hY : 0 < ab b := by unfold ab; split <;> omega
  have hA : 0 ≤ ab a := by unfold ab; split <;> omega
  have hs := (wh a).s
  have e := Int.emod_add_mul_ediv (ab a) (ab b)
  have e1 := Int.emod_nonneg (ab a) (by omega : ab b ≠ 0)
  have hn := neg_div (A := ab a) hY
  have hq : fq a b = if (a < 0 ↔ b < 0) then ab a / ab b else -ab a / ab b := by
    unfold fq ab
    by_cases h1 : a < 0 <;> by_cases h2 : b < 0 <;> simp [h1, h2]
  have hr : fr a b = a - b * fq a b := rfl
  have hba : b = if b < 0 then -ab b else ab b := by unfold ab; split <;> omega
  have haa : a = if a < 0 then -ab a else ab a := by unfold ab; split <;> omega
  refine ⟨hY, hA, ?_, ?_, ?_⟩
  · rintro ⟨h1, h2⟩
    have h3 : ¬ (a < 0 ↔ b < 0) := by simpa [hs] using h1
    rw [if_neg h3, hn, if_neg (by omega)] at hq
    refine ⟨hq, ?_⟩
    rw [hr, hq]
    by_cases hb0 : b < 0
    · rw [if_pos hb0] at hba ⊢
      rw [if_neg (by omega)] at haa
      have k : b * -(ab a / ab b + 1) = ab b * (ab a / ab b) + ab b := by rw [hba, Int.neg_mul_neg, Int.mul_add, Int.mul_one, ← hba]
      rw [k]; omega
    · rw [if_neg hb0] at hba ⊢
      rw [if_pos (by omega)] at haa
      have k : b * -(ab a / ab b + 1) = -(ab b * (ab a / ab b) + ab b) := by rw [Int.mul_neg, Int.mul_add, Int.mul_one, ← hba]
      rw [k]; omega
  · rintro ⟨h1, h2⟩
    have h3 : ¬ (a < 0 ↔ b < 0) := by simpa [hs] using h1
    rw [if_neg h3, hn, if_pos h2] at hq
    refine ⟨hq, ?_⟩
    rw [hr, hq]
    by_cases hb0 : b < 0
    · rw [if_pos hb0] at hba ⊢
      rw [if_neg (by omega)] at haa
      have k : b * -(ab a / ab b) = ab b * (ab a / ab b) := by rw [hba, Int.neg_mul_neg, ← hba]
      rw [k]; omega
    · rw [if_neg hb0] at hba ⊢
      rw [if_pos (by omega)] at haa
      have k : b * -(ab a / ab b) = -(ab b * (ab a / ab b)) := by rw [Int.mul_neg, ← hba]
      rw [k]; omega
  · intro h1
    have h3 : a < 0 ↔ b < 0 := by simpa [hs] using h1
    rw [if_pos h3] at hq
    refine ⟨hq, ?_⟩
    rw [hr, hq]
    by_cases hb0 : b < 0
    · rw [if_pos hb0] at hba ⊢
      rw [if_pos (by omega)] at haa
      have k : b * (ab a / ab b) = -(ab b * (ab a / ab b)) := by rw [hba, Int.neg_mul, ← hba]
      rw [k]; omega
    · rw [if_neg hb0] at hba ⊢
      rw [if_neg (by omega)] at haa
      rw [← hba]; rw [← hba] at e; omega
theorem res_cell_tmp2 {P : Program} {fn : Func} {p q q' : Tmp} {ty : TypeId} (h : fn.results = #[.cell p ty, .tmp q, .tmp q']) {tmps : Array Value} {w : World} {g : Nat} {t : TypeId} {cs : Array Value} (hK : Bk w g t cs) {d : TypeDesc}
    (hp : tmps.getD p undef = .pointer (some ⟨g, 0, none⟩)) (hu : P.underlying ty = some d) (hd : (match d with | .struct _ | .array _ _ => true | _ => false) = true) (hi : (P.info? ty).map (·.size) = some cs.size) :
    (results fn tmps).run P w = .ok (.tuple #[.agg cs, tmps.getD q undef, tmps.getD q' undef]) w := by
  have hp' : tmps[p]?.getD undef = .pointer (some ⟨g, 0, none⟩) := by simpa using hp
  simp [results, h, hp', asAddr, run_loadVar_row w g t ty cs (0, 0) d hK hu hd hi]
theorem res_wd_tmp2 {fn : Func} {p q q' : Tmp} (h : fn.results = #[.cell p 216, .tmp q, .tmp q']) {tmps : Array Value} {w : World} {g : Nat} {z : Int} (hK : Bk w g 216 (wdA z))
    (hp : tmps.getD p undef = .pointer (some ⟨g, 0, none⟩)) : (results fn tmps).run Tryz.prog w = .ok (.tuple #[WV z, tmps.getD q undef, tmps.getD q' undef]) w :=
  res_cell_tmp2 h hK hp Tryz.underlying216 rfl wd_size
/-- room for a quotient by sizes -/
def Wq (z : Int) : Prop := -85070591730234615865843651857942052864 ≤ z ∧ z ≤ 85070591730234615865843651857942052864
theorem q_room {a b : Int} (ha : Wq a) (hb : b ≠ 0) : 0 ≤ ab a / ab b ∧ ab a / ab b ≤ 85070591730234615865843651857942052864 := by
  have hY : 0 < ab b := by unfold ab; split <;> omega
  have hA : 0 ≤ ab a := by unfold ab; split <;> omega
  have hA2 : ab a ≤ 85070591730234615865843651857942052864 := by unfold ab; unfold Wq at ha; split <;> omega
  have h0 := Int.ediv_nonneg hA (by omega : 0 ≤ ab b)
  have h1 := Int.ediv_le_self (ab b) hA
  omega
theorem r_room {a b : Int} (hb : b ≠ 0) (hb2 : J64 b) : 0 ≤ ab a % ab b ∧ ab a % ab b < ab b ∧ ab b ≤ 9223372036854775808 := by
  have hY : 0 < ab b := by unfold ab; split <;> omega
  have e1 := Int.emod_nonneg (ab a) (by omega : ab b ≠ 0)
  have e2 := Int.emod_lt_of_pos (ab a) hY
  refine ⟨e1, e2, ?_⟩
  unfold ab; unfold J64 at hb2; split <;> omega
set_option maxRecDepth 100000 in
set_option maxHeartbeats 8000000 in
theorem qwide_any (a b : Int) (w : World) (ha : Wq a) (hb : b ≠ 0) (hb2 : J64 b) :
    Calls Tryz.prog 171 #[WV a, .int .i64 b] w fun e w' => e = .returned (.tuple #[WV (fq a b), .int .i64 (fr a b), .bool true]) ∧ Below w.heap.size w w' := by
  have hwd : Wd a := by unfold Wq at ha; unfold Wd; omega
  obtain ⟨f1, f2, f3, f4, f5⟩ := fq_facts (a := a) hb
  obtain ⟨q1, q2⟩ := q_room ha hb
  obtain ⟨r1, r2, r3⟩ := r_room (a := a) hb hb2
  have hb0 : (b == 0) = false := beq_eq_false_iff_ne.2 hb
  have hSz := fun w' => size_wd a w' hwd
  have hDv := fun w' => qdiv_any (ab a) (ab b) w' f2 (by unfold ab; unfold Wd at hwd; split <;> omega) f1 (by omega)
  obtain ⟨ub, hub⟩ : ∃ ub, IntKind.u64.wrap b = ub := ⟨_, rfl⟩
  have hub2 : (b < 0 ∧ IntKind.u64.wrap (-ub) = ab b) ∨ (0 ≤ b ∧ ub = ab b) := by
    rw [uw] at hub
    unfold J64 at hb2
    by_cases h : b < 0
    · exact .inl ⟨h, by rw [uw, ← hub]; unfold ab; rw [if_pos h]; omega⟩
    · exact .inr ⟨by omega, by rw [← hub]; unfold ab; rw [if_neg h]; omega⟩
  have hL := ((Lie.start w).alloc (wdA a) 216).alloc #[.int .i64 0, .int .u64 0] 216
  simp only [World.size_alloc] at hL
  have ha6 : hi6 a < 0 ∨ 0 ≤ hi6 a := by omega
  rcases ha6 with h1 | h1
  · rcases hub2 with ⟨h2, hu⟩ | ⟨h2, hu⟩
    · skip
      have hng : (!(decide (hi6 a < 0) == decide (b < 0))) = false := by rw [decide_eq_true h1, decide_eq_true h2]; rfl
      obtain ⟨g1, g2⟩ := f5 hng
      rw [if_pos h2] at g2
      have hAw := fun w' => (qaway_any (ab a / ab b) false w' (by omega) (by unfold Wd; omega)).mono (R' := fun e w'' => e = .returned (.tuple #[WV (fq a b), .bool true]) ∧ Below w'.heap.size w' w'') fun e w'' ⟨k1, k2⟩ => ⟨by rw [k1, g1]; rfl, k2⟩
      obtain ⟨v, hv⟩ : ∃ v, -(ab a % ab b) = v := ⟨_, rfl⟩
      have e6 : wrap64 (IntKind.u64.wrap (-(ab a % ab b))) = v := by rw [uw, w64, ← hv]; omega
      rw [hv] at g2
      clear hv
      have G2 := Lib.hid g2
      clear f1 f2 f3 f4 f5 g1 g2 q1 q2 hng ha hwd hb2 r3 hb
      generalize ab a / ab b = q at *
      generalize hrr : ab a % ab b = r at *
      clear hrr
      generalize ab b = Y at *
      have db : decide (b < 0) = true := decide_eq_true h2
      have da : decide (hi6 a < 0) = true := decide_eq_true h1
      go_enter Tryz.func171, Tryz.ntmps171
      go_wp2_with (first
        | (go_at_call 176; (with_reducible refine (hSz _).mono ?_); rintro e w1 ⟨rfl, hb1⟩; have hL1 := hL.nx hb1; have k1 : Bk w1 w.heap.size 216 (wdA a) := hL1.k 1 (by simp); obtain ⟨c0, c1⟩ := k1.cell2)
        | (go_at_call 177; (with_reducible refine (hDv _).mono ?_); rintro e w2 ⟨rfl, hb2⟩; have hL2 := hL1.nx hb2; have k2 : Bk w2 w.heap.size 216 (wdA a) := hL2.k 1 (by simp); obtain ⟨d0, d1⟩ := k2.cell2)
        | (go_at_call 179; (with_reducible refine (hAw _).mono ?_); rintro e w3 ⟨rfl, hb3⟩; have hL3 := (hL2.nx hb3).alloc (wdA (fq a b)) 216; have k3 : Bk _ (w.heap.size + 1) 216 #[.int .i64 0, .int .u64 0] := hL3.k 1 (by simp))
        | (refine stWd rfl _ _ rfl k3 rfl rfl rfl ?_; intro w4 k4 hg4 hs4))
      refine bodyPost_ret (res_wd_tmp2 rfl k4 rfl) rfl ?_
      exact ⟨by rw [G2.out]; rfl, below_of_gb hL3.bel hg4 (by omega) hL3.sz⟩
    · rw [hu] at hub
      rcases Int.lt_or_eq_of_le r1 with hr | hr
      · skip
        have hng : (!(decide (hi6 a < 0) == decide (b < 0))) = true := by rw [decide_eq_true h1, decide_eq_false (by omega)]; rfl
        obtain ⟨g1, g2⟩ := f3 ⟨hng, hr⟩
        rw [if_neg (by omega)] at g2
        have hAw := fun w' => (qaway_any (ab a / ab b + 1) true w' (by omega) (by unfold Wd; omega)).mono (R' := fun e w'' => e = .returned (.tuple #[WV (fq a b), .bool true]) ∧ Below w'.heap.size w' w'') fun e w'' ⟨k1, k2⟩ => ⟨by rw [k1, g1]; rfl, k2⟩
        have e3 := fun w => run_add' (x := lo6 (ab a / ab b)) (y := 1) (c := 0) (s := lo6 (ab a / ab b + 1)) (d := (lo6 (ab a / ab b) + 1 + 0) / 18446744073709551616) (by unfold lo6; omega) (by omega) (by omega) (by omega) (by unfold lo6; omega) rfl w
        have e4 : IntKind.u64.wrap (hi6 (ab a / ab b) + (lo6 (ab a / ab b) + 1 + 0) / 18446744073709551616) = hi6 (ab a / ab b + 1) := by rw [uw]; unfold hi6 lo6; omega
        have e5 : IntKind.u64.wrap (ab b - ab a % ab b) = ab b - ab a % ab b := by rw [uw]; omega
        generalize (lo6 (ab a / ab b) + 1 + 0) / 18446744073709551616 = cc at *
        obtain ⟨v, hv⟩ : ∃ v, (ab b - ab a % ab b) = v := ⟨_, rfl⟩
        have e6 : wrap64 ((ab b - ab a % ab b)) = v := by rw [w64, ← hv]; omega
        rw [hv] at g2
        clear hv
        have G2 := Lib.hid g2
        clear f1 f2 f3 f4 f5 g1 g2 q1 q2 hng ha hwd hb2 r3 hb
        generalize hi6 (ab a / ab b + 1) = qh at *
        generalize lo6 (ab a / ab b + 1) = ql at *
        generalize hi6 (ab a / ab b) = q0h at *
        generalize lo6 (ab a / ab b) = q0l at *
        generalize hrr : ab a % ab b = r at *
        clear hrr
        generalize ab b = Y at *
        have db : decide (b < 0) = false := decide_eq_false (by omega)
        have da : decide (hi6 a < 0) = true := decide_eq_true h1
        go_enter Tryz.func171, Tryz.ntmps171
        go_wp2_with (first
          | (go_at_call 176; (with_reducible refine (hSz _).mono ?_); rintro e w1 ⟨rfl, hb1⟩; have hL1 := hL.nx hb1; have k1 : Bk w1 w.heap.size 216 (wdA a) := hL1.k 1 (by simp); obtain ⟨c0, c1⟩ := k1.cell2)
          | (go_at_call 177; (with_reducible refine (hDv _).mono ?_); rintro e w2 ⟨rfl, hb2⟩; have hL2 := hL1.nx hb2; have k2 : Bk w2 w.heap.size 216 (wdA a) := hL2.k 1 (by simp); obtain ⟨d0, d1⟩ := k2.cell2)
          | (go_at_call 179; (with_reducible refine (hAw _).mono ?_); rintro e w3 ⟨rfl, hb3⟩; have hL3 := (hL2.nx hb3).alloc (wdA (fq a b)) 216; have k3 : Bk _ (w.heap.size + 1) 216 #[.int .i64 0, .int .u64 0] := hL3.k 1 (by simp))
          | (refine stWd rfl _ _ rfl k3 rfl rfl rfl ?_; intro w4 k4 hg4 hs4))
        refine bodyPost_ret (res_wd_tmp2 rfl k4 rfl) rfl ?_
        exact ⟨by rw [G2.out]; rfl, below_of_gb hL3.bel hg4 (by omega) hL3.sz⟩
      · replace hr := hr.symm
        have hng : (!(decide (hi6 a < 0) == decide (b < 0))) = true := by rw [decide_eq_true h1, decide_eq_false (by omega)]; rfl
        obtain ⟨g1, g2⟩ := f4 ⟨hng, hr⟩
        rw [if_neg (by omega)] at g2
        have hAw := fun w' => (qaway_any (ab a / ab b) true w' (by omega) (by unfold Wd; omega)).mono (R' := fun e w'' => e = .returned (.tuple #[WV (fq a b), .bool true]) ∧ Below w'.heap.size w' w'') fun e w'' ⟨k1, k2⟩ => ⟨by rw [k1, g1]; rfl, k2⟩
        rw [hr] at g2 hDv
        have G2 := Lib.hid g2
        clear hr
        clear f1 f2 f3 f4 f5 g1 g2 q1 q2 hng ha hwd hb2 r3 hb
        generalize ab a / ab b = q at *
        generalize hrr : ab a % ab b = r at *
        clear hrr
        generalize ab b = Y at *
        have db : decide (b < 0) = false := decide_eq_false (by omega)
        have da : decide (hi6 a < 0) = true := decide_eq_true h1
        go_enter Tryz.func171, Tryz.ntmps171
        go_wp2_with (first
          | (go_at_call 176; (with_reducible refine (hSz _).mono ?_); rintro e w1 ⟨rfl, hb1⟩; have hL1 := hL.nx hb1; have k1 : Bk w1 w.heap.size 216 (wdA a) := hL1.k 1 (by simp); obtain ⟨c0, c1⟩ := k1.cell2)
          | (go_at_call 177; (with_reducible refine (hDv _).mono ?_); rintro e w2 ⟨rfl, hb2⟩; have hL2 := hL1.nx hb2; have k2 : Bk w2 w.heap.size 216 (wdA a) := hL2.k 1 (by simp); obtain ⟨d0, d1⟩ := k2.cell2)
          | (go_at_call 179; (with_reducible refine (hAw _).mono ?_); rintro e w3 ⟨rfl, hb3⟩; have hL3 := (hL2.nx hb3).alloc (wdA (fq a b)) 216; have k3 : Bk _ (w.heap.size + 1) 216 #[.int .i64 0, .int .u64 0] := hL3.k 1 (by simp))
          | (refine stWd rfl _ _ rfl k3 rfl rfl rfl ?_; intro w4 k4 hg4 hs4))
        refine bodyPost_ret (res_wd_tmp2 rfl k4 rfl) rfl ?_
        exact ⟨by rw [G2.out]; rfl, below_of_gb hL3.bel hg4 (by omega) hL3.sz⟩
  · rcases hub2 with ⟨h2, hu⟩ | ⟨h2, hu⟩
    · rcases Int.lt_or_eq_of_le r1 with hr | hr
      · skip
        have hng : (!(decide (hi6 a < 0) == decide (b < 0))) = true := by rw [decide_eq_false (by omega), decide_eq_true h2]; rfl
        obtain ⟨g1, g2⟩ := f3 ⟨hng, hr⟩
        rw [if_pos h2] at g2
        have hAw := fun w' => (qaway_any (ab a / ab b + 1) true w' (by omega) (by unfold Wd; omega)).mono (R' := fun e w'' => e = .returned (.tuple #[WV (fq a b), .bool true]) ∧ Below w'.heap.size w' w'') fun e w'' ⟨k1, k2⟩ => ⟨by rw [k1, g1]; rfl, k2⟩
        have e3 := fun w => run_add' (x := lo6 (ab a / ab b)) (y := 1) (c := 0) (s := lo6 (ab a / ab b + 1)) (d := (lo6 (ab a / ab b) + 1 + 0) / 18446744073709551616) (by unfold lo6; omega) (by omega) (by omega) (by omega) (by unfold lo6; omega) rfl w
        have e4 : IntKind.u64.wrap (hi6 (ab a / ab b) + (lo6 (ab a / ab b) + 1 + 0) / 18446744073709551616) = hi6 (ab a / ab b + 1) := by rw [uw]; unfold hi6 lo6; omega
        have e5 : IntKind.u64.wrap (ab b - ab a % ab b) = ab b - ab a % ab b := by rw [uw]; omega
        generalize (lo6 (ab a / ab b) + 1 + 0) / 18446744073709551616 = cc at *
        obtain ⟨v, hv⟩ : ∃ v, -(ab b - ab a % ab b) = v := ⟨_, rfl⟩
        have e6 : wrap64 (IntKind.u64.wrap (-(ab b - ab a % ab b))) = v := by rw [uw, w64, ← hv]; omega
        have e7 : wrap64 (IntKind.u64.wrap (ab a % ab b - ab b)) = v := by rw [uw, w64, ← hv]; omega
        rw [hv] at g2
        clear hv
        have G2 := Lib.hid g2
        clear f1 f2 f3 f4 f5 g1 g2 q1 q2 hng ha hwd hb2 r3 hb
        generalize hi6 (ab a / ab b + 1) = qh at *
        generalize lo6 (ab a / ab b + 1) = ql at *
        generalize hi6 (ab a / ab b) = q0h at *
        generalize lo6 (ab a / ab b) = q0l at *
        generalize hrr : ab a % ab b = r at *
        clear hrr
        generalize ab b = Y at *
        have db : decide (b < 0) = true := decide_eq_true h2
        have da : decide (hi6 a < 0) = false := decide_eq_false (by omega)
        go_enter Tryz.func171, Tryz.ntmps171
        go_wp2_with (first
          | (go_at_call 176; (with_reducible refine (hSz _).mono ?_); rintro e w1 ⟨rfl, hb1⟩; have hL1 := hL.nx hb1; have k1 : Bk w1 w.heap.size 216 (wdA a) := hL1.k 1 (by simp); obtain ⟨c0, c1⟩ := k1.cell2)
          | (go_at_call 177; (with_reducible refine (hDv _).mono ?_); rintro e w2 ⟨rfl, hb2⟩; have hL2 := hL1.nx hb2; have k2 : Bk w2 w.heap.size 216 (wdA a) := hL2.k 1 (by simp); obtain ⟨d0, d1⟩ := k2.cell2)
          | (go_at_call 179; (with_reducible refine (hAw _).mono ?_); rintro e w3 ⟨rfl, hb3⟩; have hL3 := (hL2.nx hb3).alloc (wdA (fq a b)) 216; have k3 : Bk _ (w.heap.size + 1) 216 #[.int .i64 0, .int .u64 0] := hL3.k 1 (by simp))
          | (refine stWd rfl _ _ rfl k3 rfl rfl rfl ?_; intro w4 k4 hg4 hs4))
        refine bodyPost_ret (res_wd_tmp2 rfl k4 rfl) rfl ?_
        exact ⟨by rw [G2.out]; rfl, below_of_gb hL3.bel hg4 (by omega) hL3.sz⟩
      · replace hr := hr.symm
        have hng : (!(decide (hi6 a < 0) == decide (b < 0))) = true := by rw [decide_eq_false (by omega), decide_eq_true h2]; rfl
        obtain ⟨g1, g2⟩ := f4 ⟨hng, hr⟩
        rw [if_pos h2] at g2
        have hAw := fun w' => (qaway_any (ab a / ab b) true w' (by omega) (by unfold Wd; omega)).mono (R' := fun e w'' => e = .returned (.tuple #[WV (fq a b), .bool true]) ∧ Below w'.heap.size w' w'') fun e w'' ⟨k1, k2⟩ => ⟨by rw [k1, g1]; rfl, k2⟩
        rw [hr] at g2 hDv
        have G2 := Lib.hid g2
        clear hr
        clear f1 f2 f3 f4 f5 g1 g2 q1 q2 hng ha hwd hb2 r3 hb
        generalize ab a / ab b = q at *
        generalize hrr : ab a % ab b = r at *
        clear hrr
        generalize ab b = Y at *
        have db : decide (b < 0) = true := decide_eq_true h2
        have da : decide (hi6 a < 0) = false := decide_eq_false (by omega)
        go_enter Tryz.func171, Tryz.ntmps171
        go_wp2_with (first
          | (go_at_call 176; (with_reducible refine (hSz _).mono ?_); rintro e w1 ⟨rfl, hb1⟩; have hL1 := hL.nx hb1; have k1 : Bk w1 w.heap.size 216 (wdA a) := hL1.k 1 (by simp); obtain ⟨c0, c1⟩ := k1.cell2)
          | (go_at_call 177; (with_reducible refine (hDv _).mono ?_); rintro e w2 ⟨rfl, hb2⟩; have hL2 := hL1.nx hb2; have k2 : Bk w2 w.heap.size 216 (wdA a) := hL2.k 1 (by simp); obtain ⟨d0, d1⟩ := k2.cell2)
          | (go_at_call 179; (with_reducible refine (hAw _).mono ?_); rintro e w3 ⟨rfl, hb3⟩; have hL3 := (hL2.nx hb3).alloc (wdA (fq a b)) 216; have k3 : Bk _ (w.heap.size + 1) 216 #[.int .i64 0, .int .u64 0] := hL3.k 1 (by simp))
          | (refine stWd rfl _ _ rfl k3 rfl rfl rfl ?_; intro w4 k4 hg4 hs4))
        refine bodyPost_ret (res_wd_tmp2 rfl k4 rfl) rfl ?_
        exact ⟨by rw [G2.out]; rfl, below_of_gb hL3.bel hg4 (by omega) hL3.sz⟩
    · rw [hu] at hub
      have hng : (!(decide (hi6 a < 0) == decide (b < 0))) = false := by rw [decide_eq_false (by omega), decide_eq_false (by omega)]; rfl
      obtain ⟨g1, g2⟩ := f5 hng
      rw [if_neg (by omega)] at g2
      have hAw := fun w' => (qaway_any (ab a / ab b) false w' (by omega) (by unfold Wd; omega)).mono (R' := fun e w'' => e = .returned (.tuple #[WV (fq a b), .bool true]) ∧ Below w'.heap.size w' w'') fun e w'' ⟨k1, k2⟩ => ⟨by rw [k1, g1]; rfl, k2⟩
      obtain ⟨v, hv⟩ : ∃ v, (ab a % ab b) = v := ⟨_, rfl⟩
      have e6 : wrap64 ((ab a % ab b)) = v := by rw [w64, ← hv]; omega
      rw [hv] at g2
      subst hv
      have G2 := Lib.hid g2
      clear f1 f2 f3 f4 f5 g1 g2 q1 q2 hng ha hwd hb2 r3 hb
      generalize ab a / ab b = q at *
      generalize hrr : ab a % ab b = r at *
      clear hrr
      generalize ab b = Y at *
      have db : decide (b < 0) = false := decide_eq_false (by omega)
      have da : decide (hi6 a < 0) = false := decide_eq_false (by omega)
      go_enter Tryz.func171, Tryz.ntmps171
      go_wp2_with (first
        | (go_at_call 176; (with_reducible refine (hSz _).mono ?_); rintro e w1 ⟨rfl, hb1⟩; have hL1 := hL.nx hb1; have k1 : Bk w1 w.heap.size 216 (wdA a) := hL1.k 1 (by simp); obtain ⟨c0, c1⟩ := k1.cell2)
        | (go_at_call 177; (with_reducible refine (hDv _).mono ?_); rintro e w2 ⟨rfl, hb2⟩; have hL2 := hL1.nx hb2; have k2 : Bk w2 w.heap.size 216 (wdA a) := hL2.k 1 (by simp); obtain ⟨d0, d1⟩ := k2.cell2)
        | (go_at_call 179; (with_reducible refine (hAw _).mono ?_); rintro e w3 ⟨rfl, hb3⟩; have hL3 := (hL2.nx hb3).alloc (wdA (fq a b)) 216; have k3 : Bk _ (w.heap.size + 1) 216 #[.int .i64 0, .int .u64 0] := hL3.k 1 (by simp))
        | (refine stWd rfl _ _ rfl k3 rfl rfl rfl ?_; intro w4 k4 hg4 hs4))
      refine bodyPost_ret (res_wd_tmp2 rfl k4 rfl) rfl ?_
      exact ⟨by rw [G2.out]; rfl, below_of_gb hL3.bel hg4 (by omega) hL3.sz⟩
end Go.Proofs.YtibmhabipghjlaaGreat
end
section
set_option linter.unusedVariables false
namespace Go.Proofs.YtibmhabipghjlaaGreat
open Go.RowKit
theorem fq_wd {a b : Int} (ha : Wq a) (hb : b ≠ 0) : Wd (fq a b) := by
  obtain ⟨f1, f2, f3, f4, f5⟩ := fq_facts (a := a) hb
  obtain ⟨q1, q2⟩ := q_room ha hb
  have e1 := Int.emod_nonneg (ab a) (by omega : ab b ≠ 0)
  unfold Wd
  cases h : (!(decide (hi6 a < 0) == decide (b < 0)))
  · rw [(f5 h).1]; omega
  · rcases Int.lt_or_eq_of_le e1 with hr | hr
    · rw [(f3 ⟨h, hr⟩).1]; omega
    · rw [(f4 ⟨h, hr.symm⟩).1]; omega
/-- The place that a quotient is. -/
def plc (a b : Int) : Int := cutF (fq (a * 65536) b)
end Go.Proofs.YtibmhabipghjlaaGreat
end
section
set_option linter.unusedVariables false
namespace Go.Proofs.YtibmhabipghjlaaGreat
open Go.RowKit
theorem fq_pos {a b : Int} (hb : 0 < b) : fq a b = a / b ∧ fr a b = a % b := by
  have h1 : fq a b = a / b := by unfold fq; rw [if_neg (by omega)]
  refine ⟨h1, ?_⟩
  unfold fr
  rw [h1]
  have := Int.mul_ediv_add_emod a b
  omega
/-- Room enough. -/
def J62 (z : Int) : Prop := -4611686018427387904 ≤ z ∧ z ≤ 4611686018427387904
theorem div_62 {a b : Int} (ha : J62 a) (hb : 1 ≤ b) : J62 (a / b) ∧ J62 (a / b + 1 - 1) := by
  have h : -4611686018427387904 ≤ a / b ∧ a / b ≤ 4611686018427387904 := by
    unfold J62 at ha
    constructor
    · have h1 : (-4611686018427387904 : Int) ≤ -4611686018427387904 / b ∨ True := .inr trivial
      have h2 : -4611686018427387904 * b ≤ a := by
        have : 4611686018427387904 * 1 ≤ 4611686018427387904 * b := Int.mul_le_mul_of_nonneg_left hb (by omega)
        omega
      exact Int.le_ediv_of_mul_le (by omega) h2
    · rcases Int.le_total 0 a with h0 | h0
      · have := Int.ediv_le_self b h0; omega
      · have : a / b ≤ 0 := by
          rcases Int.lt_or_le 0 (a / b) with h | h
          · have h3 := Int.mul_pos (show 0 < b by omega) h
            have h4 := Int.mul_ediv_add_emod a b
            have h5 := Int.emod_nonneg a (show b ≠ 0 by omega)
            omega
          · exact h
        omega
  exact ⟨h, by rw [Int.add_sub_cancel]; exact h⟩
set_option maxRecDepth 100000 in
set_option maxHeartbeats 8000000 in
theorem qhalfB (a b : Int) (w : World) (ha : J62 a) (hb : 1 ≤ b) (hb2 : b ≤ 4611686018427387904) :
    Calls Tryz.prog 157 #[WV a, .int .i64 b] w fun e w' => e = .returned (.tuple #[WV (nearZ a b), .bool true]) ∧ Below w.heap.size w w' := by
  have hW := fun w' => qwide_any a b w' (by unfold J62 at ha; unfold Wq; omega) (by omega) (by unfold J64; omega)
  rw [(fq_pos (show 0 < b by omega)).1, (fq_pos (show 0 < b by omega)).2] at hW
  have hN := near_parts (a := a) (show 0 < b by omega)
  have r0 := Int.emod_nonneg a (show b ≠ 0 by omega)
  have r1 := Int.emod_lt_of_pos a (show 0 < b by omega)
  obtain ⟨q0, q1⟩ := (div_62 ha hb).1
  have hO := fun w' => wof_any 1 w' (by unfold J64; omega)
  have hA := fun w' => wadd_any (a / b) 1 w' (by unfold Wd; omega) (by unfold Wd; omega) (by unfold Wd; omega)
  have hb0 : (b == 0) = false := beq_eq_false_iff_ne.2 (by omega)
  have hL := ((Lie.start w).alloc (wdA a) 216).alloc #[.int .i64 0, .int .u64 0] 216
  simp only [World.size_alloc] at hL
  generalize a / b = q at *
  generalize a % b = r at *
  have u1 : IntKind.u64.wrap r = r := by rw [uw]; omega
  have u2 : IntKind.u64.wrap b = b := by rw [uw]; omega
  have u3 : IntKind.u64.wrap (b - r) = b - r := by rw [uw]; omega
  have HN := Lib.hid hN
  clear hN ha
  by_cases hlt : r < b - r
  · have HN2 := Lib.hid (HN.out.trans (if_pos hlt))
    clear HN q0 q1 hO hA
    go_enter Tryz.func157, Tryz.ntmps157
    go_wp2_with (first
      | (go_at_call 171; (with_reducible refine (hW _).mono ?_); rintro e w1 ⟨rfl, hb1⟩; have hL1 := (hL.nx hb1).alloc (wdA q) 216; have k4 : Bk _ (w.heap.size + 1) 216 #[.int .i64 0, .int .u64 0] := hL1.k 1 (by simp))
      | (refine stWd rfl _ _ rfl k4 rfl rfl rfl ?_; intro w4 k5 hg4 hs4))
    refine bodyPost_ret (res_wd_tmp rfl k5 rfl) rfl ?_
    exact ⟨by rw [HN2.out]; rfl, below_of_gb hL1.bel hg4 (by omega) hL1.sz⟩
  · have HN2 := Lib.hid (HN.out.trans (if_neg hlt))
    have h4 : b - r ≤ r := by omega
    clear HN q0 q1 hlt
    go_enter Tryz.func157, Tryz.ntmps157
    go_wp2_with (first
      | (go_at_call 171; (with_reducible refine (hW _).mono ?_); rintro e w1 ⟨rfl, hb1⟩; have hL1 := (hL.nx hb1).alloc (wdA q) 216; have k4 : Bk _ (w.heap.size + 1) 216 #[.int .i64 0, .int .u64 0] := hL1.k 1 (by simp)))
    have k6 : Bk _ w1.heap.size 216 (wdA q) := hL1.k 0 (by simp)
    generalize hg6 : w1.heap.size = g6 at *
    clear k4 hb1 hL hW
    generalize w1.alloc (.cells (wdA q) 216) = w2 at *
    refine wp_region_quiet_tail 5 (by kernel_rfl) (by kernel_rfl) ?_
    simp only [List.take_succ_cons, List.take_zero, List.drop_succ_cons, List.drop_zero]
    repeat (first | (refine wpQuiet_load rfl _ _ rfl k6 rfl Tryz.underlying216 rfl wd_size ?_; simp only [Act.put, List.setIfInBounds_toArray, List.set_cons_zero, List.set_cons_succ]) | go_big_quiet_step ((first | with_reducible exact quiet_below (hO _) | with_reducible exact quiet_below (hA _))) | quiet_step ((first | with_reducible exact quiet_below (hO _) | with_reducible exact quiet_below (hA _))))
    refine wpQuiet_nil ?_
    intro _ hw'
    obtain ⟨⟨d', os⟩, hw''⟩ := hw'
    subst hw''
    have hbx := below_regrown w2 d' os
    generalize Go.Sort.grow (redrawn w2 d') os = wx at *
    have hLx := hL1.nx hbx
    have k1x : Bk wx (w.heap.size + 1) 216 #[.int .i64 0, .int .u64 0] := hLx.k 1 (by simp)
    go_wp2_with (refine stWd rfl _ _ rfl k1x rfl rfl rfl ?_; intro w4 k5 hg4 hs4)
    refine bodyPost_ret (res_wd_tmp rfl k5 rfl) rfl ?_
    exact ⟨by rw [HN2.out]; rfl, below_of_gb hLx.bel hg4 (by omega) hLx.sz⟩
theorem near_62 {a b : Int} (ha : J62 a) (hb : 1 ≤ b) : J64 (nearZ a b) := by
  have h := (div_62 ha hb).1
  rw [near_parts (by omega)]
  unfold J62 at h
  unfold J64
  split <;> omega
set_option maxRecDepth 100000 in
set_option maxHeartbeats 8000000 in
theorem qnearB (a b : Int) (w : World) (ha : J62 a) (hb : 1 ≤ b) (hb2 : b ≤ 4611686018427387904) :
    Calls Tryz.prog 146 #[.int .i64 a, .int .i64 b] w fun e w' => e = .returned (.tuple #[.int .i64 (nearZ a b), .bool true]) ∧ Below w.heap.size w w' := by
  have hH := fun w' => qhalfB a b w' ha hb hb2
  have hO := fun w' => wof_any a w' (by unfold J62 at ha; unfold J64; omega)
  have hF := fun w' => fits64_yes (nearZ a b) w' (near_62 ha hb)
  have hb0 := Below.refl w.heap.size w
  generalize nearZ a b = z at *
  clear ha hb hb2
  go_enter Tryz.func146, Tryz.ntmps146
  go_wp2_with (first
    | (go_at_call 158; (with_reducible refine (hO _).mono ?_); rintro e w3 ⟨rfl, hb3⟩)
    | (go_at_call 157; (with_reducible refine (hH _).mono ?_); rintro e w4 ⟨rfl, hb4⟩; have hb4' := (hb3.trans (hb4.mono hb3.size)).alloc (Nat.le_trans hb3.size hb4.size) (.cells (wdA z) 216))
    | (go_at_call 159; (with_reducible refine (hF _).mono ?_); rintro e w5 ⟨rfl, hb5⟩))
  go_returns
  exact ⟨rfl, hb4'.trans (hb5.mono hb4'.size)⟩
attribute [local go_sem high] run_maxM run_minM
set_option maxRecDepth 100000 in
set_option maxHeartbeats 8000000 in
theorem wbyte_any (a b : Int) (w : World) (ha : J62 a) (hb : 1 ≤ b) (hb2 : b ≤ 4611686018427387904) :
    Calls Tryz.prog 117 #[.int .i64 a, .int .i64 b] w fun e w' => e = .returned (.int .u8 (byteZ a b)) ∧ Below w.heap.size w w' := by
  have hN := fun w' => qnearB a b w' ha hb hb2
  have HB : Hid (byteZ a b = max 0 (min (nearZ a b) 255)) := rfl
  clear ha
  generalize nearZ a b = z at *
  have hb1 : decide (b < 1) = false := decide_eq_false (by omega)
  have hu : ∀ x : Int, 0 ≤ x → x ≤ 255 → IntKind.u8.wrap x = x := fun x h1 h2 => by rw [IntKind.wrap_u8]; omega
  have hu2 := hu (max 0 (min z 255)) (by omega) (by omega)
  clear hu
  generalize hX : max 0 (min z 255) = X at *
  go_enter Tryz.func117, Tryz.ntmps117
  go_wp2_with (go_at_call 146; (with_reducible refine (hN _).mono ?_); rintro e w2 ⟨rfl, hb2⟩)
  go_returns
  exact ⟨by rw [HB.out]; first | (rw [← hu2]; rfl) | rfl, hb2⟩
end Go.Proofs.YtibmhabipghjlaaGreat
end
section
set_option linter.unusedVariables false
namespace Go.Proofs.YtibmhabipghjlaaGreat
open Go.RowKit
theorem SlP.cell {C lo : Nat} {w : World} {v : Value} {px : List Int} (h : SlP C lo w v px) {kk : Nat} (hk : kk < C) : ∃ (b o n c : Nat), v = .slice (some ⟨b, o, none⟩) n c ∧ kk < n ∧ n ≤ c ∧ b < w.heap.size ∧ w.cell? ⟨b, o + kk, none⟩ = some (.int .u8 (px.getD kk 0)) := by
  obtain ⟨A, n, c, L, rfl, h2, h3, h4, h5, h6, h7⟩ := h
  have hkl : kk < (L.map (Value.int .u8)).length := by rw [List.length_map]; omega
  obtain ⟨b, o, rfl, _, hb, hc⟩ := h3 kk hkl
  refine ⟨b, o, n, c, rfl, by omega, h6, hb, ?_⟩
  rw [hc, List.getElem_map, ← h7, List.getD_eq_getElem?_getD, List.getElem?_take_of_lt hk, List.getElem?_eq_getElem (by omega)]
  rfl
def chQ (ch : Nat → Int) (k : Nat) : Array Value :=
  let q := fun j => Value.int .u8 (if j < k then ch j else 0)
  #[q 0, q 1, q 2, q 3]
theorem ch0 (ch : Nat → Int) : chQ ch 0 = #[.int .u8 0, .int .u8 0, .int .u8 0, .int .u8 0] := by simp [chQ]
theorem ch1 (ch : Nat → Int) : chQ ch 1 = #[.int .u8 (ch 0), .int .u8 0, .int .u8 0, .int .u8 0] := by simp [chQ]
theorem ch2 (ch : Nat → Int) : chQ ch 2 = #[.int .u8 (ch 0), .int .u8 (ch 1), .int .u8 0, .int .u8 0] := by simp [chQ]
theorem ch3 (ch : Nat → Int) : chQ ch 3 = #[.int .u8 (ch 0), .int .u8 (ch 1), .int .u8 (ch 2), .int .u8 0] := by simp [chQ]
theorem ch4 (ch : Nat → Int) : chQ ch 4 = #[.int .u8 (ch 0), .int .u8 (ch 1), .int .u8 (ch 2), .int .u8 (ch 3)] := by simp [chQ]
theorem chQ_up {ch : Nat → Int} {k : Nat} (hk : k < 4) : (chQ ch k).setIfInBounds k (.int .u8 (ch k)) = chQ ch (k + 1) := by
  have : k = 0 ∨ k = 1 ∨ k = 2 ∨ k = 3 := by omega
  rcases this with rfl | rfl | rfl | rfl <;> simp [chQ]
theorem u8s_size : (Tryz.prog.info? 59).map (·.size) = some 1 := by kernel_rfl
@[go_sem] theorem idx_s0 (a b c d : Value) (w : World) : (Instr.index 145 (.agg #[a, b, c, d]) (.int .i64 0)).run Tryz.prog w = .ok a w :=
  run_index1 (P := Tryz.prog) (j := 0) Tryz.underlying145 Tryz.underlying59 rfl u8s_size _ _ (by decide) _ rfl w
@[go_sem] theorem idx_s1 (a b c d : Value) (w : World) : (Instr.index 145 (.agg #[a, b, c, d]) (.int .i64 1)).run Tryz.prog w = .ok b w :=
  run_index1 (P := Tryz.prog) (j := 1) Tryz.underlying145 Tryz.underlying59 rfl u8s_size _ _ (by decide) _ rfl w
@[go_sem] theorem idx_s2 (a b c d : Value) (w : World) : (Instr.index 145 (.agg #[a, b, c, d]) (.int .i64 2)).run Tryz.prog w = .ok c w :=
  run_index1 (P := Tryz.prog) (j := 2) Tryz.underlying145 Tryz.underlying59 rfl u8s_size _ _ (by decide) _ rfl w
@[go_sem] theorem idx_s3 (a b c d : Value) (w : World) : (Instr.index 145 (.agg #[a, b, c, d]) (.int .i64 3)).run Tryz.prog w = .ok d w :=
  run_index1 (P := Tryz.prog) (j := 3) Tryz.underlying145 Tryz.underlying59 rfl u8s_size _ _ (by decide) _ rfl w
theorem rd4 {w : World} {g o : Nat} {k : IntKind} {a b c d : Int} (h0 : w.cell? ⟨g, o, none⟩ = some (.int k a)) (h1 : w.cell? ⟨g, o + 1, none⟩ = some (.int k b)) (h2 : w.cell? ⟨g, o + 2, none⟩ = some (.int k c)) (h3 : w.cell? ⟨g, o + 3, none⟩ = some (.int k d)) (hg : g < w.heap.size) : Rd w w.heap.size (some ⟨g, o, none⟩) ([a, b, c, d].map (Value.int k)) := by
  intro j hj
  have hk4 : j = 0 ∨ j = 1 ∨ j = 2 ∨ j = 3 := by simp at hj; omega
  rcases hk4 with rfl | rfl | rfl | rfl
  · exact ⟨g, o, rfl, hg, h0⟩
  · exact ⟨g, o, rfl, hg, h1⟩
  · exact ⟨g, o, rfl, hg, h2⟩
  · exact ⟨g, o, rfl, hg, h3⟩
theorem four_all {P : Int → Prop} {a b c d : Int} (ha : P a) (hb : P b) (hc : P c) (hd : P d) (h0 : P 0) (k : Nat) : P ([a, b, c, d].getD k 0) := by
  match k with
  | 0 => exact ha
  | 1 => exact hb
  | 2 => exact hc
  | 3 => exact hd
  | k + 4 => simpa using h0
theorem four_mul {P : Int → Prop} {a b c d a' b' c' d' : Int} (ha : P (a * a')) (hb : P (b * b')) (hc : P (c * c')) (hd : P (d * d')) (h0 : P 0) (k : Nat) : P ([a, b, c, d].getD k 0 * [a', b', c', d'].getD k 0) := by
  match k with
  | 0 => exact ha
  | 1 => exact hb
  | 2 => exact hc
  | 3 => exact hd
  | k + 4 => simpa using h0
set_option maxRecDepth 100000 in
set_option maxHeartbeats 16000000 in
theorem lchan_any (S : Nat → Value) (p : Nat → Int) (C kk : Nat) (px : Nat → List Int) (w : World) (hS : ∀ j, j < 4 → SlP C 0 w (S j) (px j)) (hk : kk < C) (hp : ∀ j, 0 ≤ p j ∧ p j ≤ 4294967296) (hb : ∀ j, 0 ≤ (px j).getD kk 0 ∧ (px j).getD kk 0 ≤ 255) :
    Calls Tryz.prog 87 #[.agg (lkA S p 4), .int .i64 kk] w fun e w' => e = .returned (.int .u8 (byteZ (dotK [p 0, p 1, p 2, p 3] [(px 0).getD kk 0, (px 1).getD kk 0, (px 2).getD kk 0, (px 3).getD kk 0] 4) 4294967296)) ∧ Below w.heap.size w w' := by
  obtain ⟨ch, hch⟩ : ∃ ch : Nat → Int, ch = fun j => (px j).getD kk 0 := ⟨_, rfl⟩
  have hb' : ∀ j, 0 ≤ ch j ∧ ch j ≤ 255 := fun j => by rw [hch]; exact hb j
  have hc : ∀ j, j < 4 → ∃ (b o n c : Nat), S j = .slice (some ⟨b, o, none⟩) n c ∧ kk < n ∧ n ≤ c ∧ b < w.heap.size ∧ w.cell? ⟨b, o + kk, none⟩ = some (.int .u8 (ch j)) := fun j hj => by
    rw [hch]; exact (hS j hj).cell hk
  rw [show [(px 0).getD kk 0, (px 1).getD kk 0, (px 2).getD kk 0, (px 3).getD kk 0] = [ch 0, ch 1, ch 2, ch 3] by rw [hch]]
  have hM := fun j => mulU_bd (M := 4294967296) (by omega) ⟨by have := (hp j).1; omega, (hp j).2⟩ (hb' j)
  have hmul : ∀ k, -1095216660480 ≤ [p 0, p 1, p 2, p 3].getD k 0 * [ch 0, ch 1, ch 2, ch 3].getD k 0 ∧ [p 0, p 1, p 2, p 3].getD k 0 * [ch 0, ch 1, ch 2, ch 3].getD k 0 ≤ 1095216660480 :=
    four_mul (P := fun z => -1095216660480 ≤ z ∧ z ≤ 1095216660480) (hM 0) (hM 1) (hM 2) (hM 3) (by omega)
  have hdot := dotK_bd (M := 1095216660480) (by omega) hmul 4
  have hvs : ∀ k, 0 ≤ [ch 0, ch 1, ch 2, ch 3].getD k 0 ∧ [ch 0, ch 1, ch 2, ch 3].getD k 0 ≤ 255 := four_all (P := fun z => 0 ≤ z ∧ z ≤ 255) (hb' 0) (hb' 1) (hb' 2) (hb' 3) (by omega)
  have hMx := fun (A A' : Option Addr) (w' : World) (hA : Rd w' w'.heap.size A ([p 0, p 1, p 2, p 3].map (Value.int .i64))) (hA' : Rd w' w'.heap.size A' ([ch 0, ch 1, ch 2, ch 3].map (Value.int .u8))) => wmix_any [p 0, p 1, p 2, p 3] [ch 0, ch 1, ch 2, ch 3] A A' 4 4 4 w' rfl rfl (by omega) hA hA' (M := 1095216660480) (by omega) (by omega) hmul hvs
  have hBy := fun (w' : World) => wbyte_any (dotK [p 0, p 1, p 2, p 3] [ch 0, ch 1, ch 2, ch 3] 4) 4294967296 w' (by unfold J62; omega) (by omega) (by omega)
  generalize dotK [p 0, p 1, p 2, p 3] [ch 0, ch 1, ch 2, ch 3] 4 = sum at *
  generalize byteZ sum 4294967296 = res at *
  obtain ⟨b0, o0, n0, c0, e0, hn0, hm0, hl0, q0⟩ := hc 0 (by omega)
  obtain ⟨b1, o1, n1, c1, e1, hn1, hm1, hl1, q1⟩ := hc 1 (by omega)
  obtain ⟨b2, o2, n2, c2, e2, hn2, hm2, hl2, q2⟩ := hc 2 (by omega)
  obtain ⟨b3, o3, n3, c3, e3, hn3, hm3, hl3, q3⟩ := hc 3 (by omega)
  rw [lk4, e0, e1, e2, e3]
  clear hc e0 e1 e2 e3 hS hk hM hmul hdot hvs hb hb' hp hch
  have hL := ((Lie.start w).alloc #[.slice (some ⟨b0, o0, none⟩) n0 c0, .slice (some ⟨b1, o1, none⟩) n1 c1, .slice (some ⟨b2, o2, none⟩) n2 c2, .slice (some ⟨b3, o3, none⟩) n3 c3, .int .i64 (p 0), .int .i64 (p 1), .int .i64 (p 2), .int .i64 (p 3)] 148).alloc #[.int .u8 0, .int .u8 0, .int .u8 0, .int .u8 0] 24
  simp only [World.size_alloc] at hL
  go_enter Tryz.func87, Tryz.ntmps87
  go_wp2_with fail
  generalize (w.alloc (.cells #[.slice (some ⟨b0, o0, none⟩) n0 c0, .slice (some ⟨b1, o1, none⟩) n1 c1, .slice (some ⟨b2, o2, none⟩) n2 c2, .slice (some ⟨b3, o3, none⟩) n3 c3, .int .i64 (p 0), .int .i64 (p 1), .int .i64 (p 2), .int .i64 (p 3)] 148)).alloc (.cells #[.int .u8 0, .int .u8 0, .int .u8 0, .int .u8 0] 24) = w5 at *
  obtain ⟨g5, hg5⟩ : ∃ g5, w.heap.size + 1 = g5 := ⟨_, rfl⟩
  rw [hg5] at hL
  simp only [hg5]
  have n5 : w.heap.size < g5 := by omega
  clear hg5
  go_loopw [10] (fun iv wr => ∃ k : Nat, k ≤ 4 ∧ iv = .int .i64 k ∧ Lie w [(g5, 24, chQ ch k), (w.heap.size, 148, #[.slice (some ⟨b0, o0, none⟩) n0 c0, .slice (some ⟨b1, o1, none⟩) n1 c1, .slice (some ⟨b2, o2, none⟩) n2 c2, .slice (some ⟨b3, o3, none⟩) n3 c3, .int .i64 (p 0), .int .i64 (p 1), .int .i64 (p 2), .int .i64 (p 3)])] wr) (fun iv _ => 4 - (intOf iv).toNat)
  case atStart => exact ⟨0, by omega, rfl, by rw [ch0]; exact hL⟩
  case round =>
    clear hL
    obtain ⟨k, hk, rfl, hLi⟩ := hrel
    rcases (show k = 0 ∨ k = 1 ∨ k = 2 ∨ k = 3 ∨ k = 4 by omega) with rfl | rfl | rfl | rfl | rfl
    · have k5 : Bk wr g5 24 (chQ ch 0) := hLi.k 0 (by simp)
      have e5 := k5
      rw [ch0] at e5
      obtain ⟨d0, d1, d2, d3⟩ := e5.cell4
      have f0 := e5.frozen 0
      have z0 := (hLi.bel.cell (p := ⟨b0, o0 + kk, none⟩) hl0).trans q0
      go_wp2_with fail
      exact ⟨⟨1, by omega, by go_num, hLi.set (gb_setCell (World.grownBy.refl wr (some g5)) (p := ⟨g5, 0, none⟩) (.inl rfl) (.int .u8 (ch 0))) (by rw [← chQ_up (by omega)]; exact k5.set 0 (.int .u8 (ch 0))) (by omega) (fun x hx => by simp only [List.mem_cons, List.not_mem_nil, or_false] at hx; subst hx; simp; omega)⟩, by simp [intOf]⟩
    · have k5 : Bk wr g5 24 (chQ ch 1) := hLi.k 0 (by simp)
      have e5 := k5
      rw [ch1] at e5
      obtain ⟨d0, d1, d2, d3⟩ := e5.cell4
      have f0 := e5.frozen 1
      have z0 := (hLi.bel.cell (p := ⟨b1, o1 + kk, none⟩) hl1).trans q1
      go_wp2_with fail
      exact ⟨⟨2, by omega, by go_num, hLi.set (gb_setCell (World.grownBy.refl wr (some g5)) (p := ⟨g5, 1, none⟩) (.inl rfl) (.int .u8 (ch 1))) (by rw [← chQ_up (by omega)]; exact k5.set 1 (.int .u8 (ch 1))) (by omega) (fun x hx => by simp only [List.mem_cons, List.not_mem_nil, or_false] at hx; subst hx; simp; omega)⟩, by simp [intOf]⟩
    · have k5 : Bk wr g5 24 (chQ ch 2) := hLi.k 0 (by simp)
      have e5 := k5
      rw [ch2] at e5
      obtain ⟨d0, d1, d2, d3⟩ := e5.cell4
      have f0 := e5.frozen 2
      have z0 := (hLi.bel.cell (p := ⟨b2, o2 + kk, none⟩) hl2).trans q2
      go_wp2_with fail
      exact ⟨⟨3, by omega, by go_num, hLi.set (gb_setCell (World.grownBy.refl wr (some g5)) (p := ⟨g5, 2, none⟩) (.inl rfl) (.int .u8 (ch 2))) (by rw [← chQ_up (by omega)]; exact k5.set 2 (.int .u8 (ch 2))) (by omega) (fun x hx => by simp only [List.mem_cons, List.not_mem_nil, or_false] at hx; subst hx; simp; omega)⟩, by simp [intOf]⟩
    · have k5 : Bk wr g5 24 (chQ ch 3) := hLi.k 0 (by simp)
      have e5 := k5
      rw [ch3] at e5
      obtain ⟨d0, d1, d2, d3⟩ := e5.cell4
      have f0 := e5.frozen 3
      have z0 := (hLi.bel.cell (p := ⟨b3, o3 + kk, none⟩) hl3).trans q3
      go_wp2_with fail
      exact ⟨⟨4, by omega, by go_num, hLi.set (gb_setCell (World.grownBy.refl wr (some g5)) (p := ⟨g5, 3, none⟩) (.inl rfl) (.int .u8 (ch 3))) (by rw [← chQ_up (by omega)]; exact k5.set 3 (.int .u8 (ch 3))) (by omega) (fun x hx => by simp only [List.mem_cons, List.not_mem_nil, or_false] at hx; subst hx; simp; omega)⟩, by simp [intOf]⟩
    · have k5 : Bk wr g5 24 (chQ ch 4) := hLi.k 0 (by simp)
      have k2 : Bk wr w.heap.size 148 #[.slice (some ⟨b0, o0, none⟩) n0 c0, .slice (some ⟨b1, o1, none⟩) n1 c1, .slice (some ⟨b2, o2, none⟩) n2 c2, .slice (some ⟨b3, o3, none⟩) n3 c3, .int .i64 (p 0), .int .i64 (p 1), .int .i64 (p 2), .int .i64 (p 3)] := hLi.k 1 (by simp)
      rw [ch4] at k5
      have hX := fun (d : Nat) (os : Array Obj) => hMx (some ⟨w.heap.size, 4, none⟩) (some ⟨g5, 0, none⟩) (Go.Sort.grow (redrawn wr d) os)
        (by have k2x := k2.nx (below_regrown wr d os); obtain ⟨_, _, _, _, h4, h5, h6, h7⟩ := k2x.cell8; exact rd4 h4 h5 h6 h7 k2x.lt)
        (by have k5x := k5.nx (below_regrown wr d os); obtain ⟨h0, h1, h2, h3⟩ := k5x.cell4; exact rd4 h0 h1 h2 h3 k5x.lt)
      have hbz := hLi.bel
      clear hMx k5 k2 hLi q0 q1 q2 q3
      go_upto_region 8 with fail
      refine wp_region_quiet_below (by kernel_rfl) (by kernel_rfl) ?_
      repeat (first
        | go_big_quiet_step ((first | with_reducible exact quiet_below (hX _ _) | with_reducible exact quiet_below (hBy _)))
        | quiet_step ((first | with_reducible exact quiet_below (hX _ _) | with_reducible exact quiet_below (hBy _))))
      refine wpQuiet_nil ?_
      intro _ hw'
      obtain ⟨⟨d9, os⟩, hw''⟩ := hw'
      subst hw''
      have hbx := below_regrown wr d9 os
      generalize Go.Sort.grow (redrawn wr d9) os = wx at *
      go_wp2_with fail
      go_returns
      exact ⟨rfl, hbz.trans (hbx.mono hbz.size)⟩
end Go.Proofs.YtibmhabipghjlaaGreat
end
