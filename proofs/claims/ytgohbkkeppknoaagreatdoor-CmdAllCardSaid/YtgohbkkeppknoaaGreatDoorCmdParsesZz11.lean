/- Several texts in one: A quotient of 128 bits by 64. Quotients of wide numbers: sizes, digits. -/
import Derived.Test.YtgohbkkeppknoaaGreatDoorCmdParsesZz10
import Derived.Deep.CutBlock
section
set_option linter.unusedVariables false
namespace Go.Proofs.YtgohbkkeppknoaaGreatDoor
open Go.RowKit
theorem div64_0 (lo y : Int) (w : World) (hy : 0 < y) (hy2 : y < 18446744073709551616) (hl : 0 ≤ lo) (hl2 : lo < 18446744073709551616) :
    Calls Tryz.prog 346 #[.int .u64 0, .int .u64 lo, .int .u64 y] w fun e w' => e = .returned (.tuple #[.int .u64 (lo / y), .int .u64 (lo % y)]) ∧ ∃ n, w' = w.drewN n := by
  have h0 : (y == 0) = false := beq_eq_false_iff_ne.2 (by omega)
  go_enter Tryz.func346, Tryz.ntmps346
  go_wp2
  go_quiet (fail)
  go_wp2
  go_returns
  exact ⟨rfl, _, rfl⟩
theorem un_wrap {D d1 d0 U l : Int} (h : Dg D d1 d0 U l) (hD : D < 18446744073709551616) : IntKind.u64.wrap (IntKind.u64.wrap (IntKind.u64.wrap (U * 4294967296) + l) - IntKind.u64.wrap (dgq D U l * D)) = lft D U l := by
  have k := h.left
  rw [uw, uw, uw, uw]
  unfold lft at *
  generalize dgq D U l * D = p at *
  omega
theorem q_wrap {a b : Int} (h1 : 0 ≤ a) (h2 : a < 4294967296) (h3 : 0 ≤ b) (h4 : b < 4294967296) : IntKind.u64.wrap (IntKind.u64.wrap (a * 4294967296) + b) = a * 4294967296 + b := by
  rw [uw, uw]; omega
set_option maxRecDepth 100000 in
set_option maxHeartbeats 8000000 in
theorem div64_1 (hi lo y : Int) (s : Nat) (w : World) (hy : 0 < y) (hy2 : y < 18446744073709551616) (hl : 0 ≤ lo) (hl2 : lo < 18446744073709551616) (hh : 0 < hi) (hh2 : hi < y) (hs : s ≤ 63)
    (hLz : ∀ w : World, Calls Tryz.prog 364 #[.int .u64 y] w fun e w' => e = .returned (.int .i64 s) ∧ w = w') (hs1 : y * 2 ^ s < 18446744073709551616) (hs2 : 9223372036854775808 ≤ y * 2 ^ s) :
    Calls Tryz.prog 346 #[.int .u64 hi, .int .u64 lo, .int .u64 y] w fun e w' => e = .returned (.tuple #[.int .u64 ((hi * 18446744073709551616 + lo) / y), .int .u64 ((hi * 18446744073709551616 + lo) % y)]) ∧ w = w' := by
  have h0 : (y == 0) = false := beq_eq_false_iff_ne.2 (by omega)
  have h1 : (hi == 0) = false := beq_eq_false_iff_ne.2 (by omega)
  obtain ⟨D, d1, d0, U, l1, l0, L, e1, e2, e3, e4, e5, e6, e7, dg', hl0, hl0', eD, eN⟩ := dv_facts hy hs hs1 hs2 hh hh2 hl hl2
  have dg := Lib.hid dg'
  have hUM := Gs.start dg'
  have HG := Lib.hid hUM
  obtain ⟨_, _, _, gs4, gs5⟩ := hUM
  obtain ⟨dg1, dg2, dg3, dg4, dg5, dg6, dg7, dg8, dg9⟩ := dg'
  clear dg1
  have hd1 : (d1 == 0) = false := beq_eq_false_iff_ne.2 (by omega)
  have ED := Lib.hid eD
  have EN := Lib.hid eN
  have hu0 : 0 ≤ U / d1 := Int.ediv_nonneg dg6 (by omega)
  have hu1 : U / d1 * d1 ≤ U := Int.ediv_mul_le _ (by omega)
  have hu2 : 0 ≤ U / d1 * d1 := Int.mul_nonneg hu0 (by omega)
  have f1 : IntKind.u64.wrap (U / d1 * d1) = U / d1 * d1 := by rw [uw]; omega
  have f2 : IntKind.u64.wrap (U - U / d1 * d1) = U - U / d1 * d1 := by rw [uw]; omega
  have hDM : D < 18446744073709551616 := by omega
  clear hu0 hu1 hu2 eD eN gs4 gs5
  have hX1 := un_wrap dg.out hDM
  obtain ⟨hX2, hX3⟩ := dg.out.left
  have dgx' : Dg D d1 d0 (lft D U l1) l0 := ⟨dg.out.e, dg2, dg3, dg4, dg5, hX2, hX3, hl0, hl0'⟩
  have hT := two_dgt dg.out dgx' hy ED.out EN.out
  have hR1 := un_wrap dgx' hDM
  have hR2 := q_wrap dg.out.ge dg.out.lt dgx'.ge dgx'.lt
  generalize hX : lft D U l1 = X at *
  have dgx := Lib.hid dgx'
  have HG2 := Lib.hid (Gs.start dgx')
  obtain ⟨_, _, _, gs4, gs5⟩ := Gs.start dgx'
  have hu0 : 0 ≤ X / d1 := Int.ediv_nonneg hX2 (by omega)
  have hu1 : X / d1 * d1 ≤ X := Int.ediv_mul_le _ (by omega)
  have hu2 : 0 ≤ X / d1 * d1 := Int.mul_nonneg hu0 (by omega)
  have g1 : IntKind.u64.wrap (X / d1 * d1) = X / d1 * d1 := by rw [uw]; omega
  have g2 : IntKind.u64.wrap (X - X / d1 * d1) = X - X / d1 * d1 := by rw [uw]; omega
  have hT1 := Lib.hid hT.1
  have hT2 := Lib.hid hT.2
  clear hu0 hu1 hu2 gs4 gs5 dgx' hT hX
  go_enter Tryz.func346, Tryz.ntmps346
  go_wp2_with fail
  refine (hLz _).mono ?_
  rintro e w1 ⟨rfl, rfl⟩
  go_upto_block 0 with fail
  go_cut [15, 16] (fun qv rv wx => qv = .int .u64 (dgq D U l1) ∧ w = wx)
  case first =>
    go_wp2_with fail
    go_loop [15, 16] (fun qv rv => ∃ a b : Int, qv = .int .u64 a ∧ rv = .int .u64 b ∧ Hid (Gs D d1 U l1 a b)) (fun qv _ => (intOf qv).toNat)
    case atStart => exact ⟨_, _, rfl, rfl, HG⟩
    case round =>
      obtain ⟨a, b, rfl, rfl, g⟩ := hrel
      have ga := g.out.bd dg.out
      have gh := g.out.hi
      have gb0 := g.out.r0
      have gb1 := g.out.r1
      have w1 : IntKind.u64.wrap (b + d1) = b + d1 := by rw [uw]; omega
      have w3 : IntKind.u64.wrap (4294967296 * b) = 4294967296 * b := by rw [uw]; omega
      have w4 : IntKind.u64.wrap (4294967296 * b + l1) = 4294967296 * b + l1 := by rw [uw]; omega
      by_cases hq : 4294967296 ≤ a
      · have w2 : IntKind.u64.wrap (a - 1) = a - 1 := by rw [uw]; omega
        by_cases hr : 4294967296 ≤ b + d1
        · have hf := Lib.hid (g.out.far dg.out (.inl hq) hr)
          go_wp2_with fail
          go_meet
          exact ⟨by rw [hf.out], rfl⟩
        · have hn := Lib.hid (g.out.next dg.out (.inl hq) (by omega))
          go_wp2_with fail
          exact ⟨⟨_, _, rfl, rfl, hn⟩, by simp [intOf]; omega⟩
      · have hm := g.out.mulbd dg.out (by omega)
        obtain ⟨p, hp⟩ : ∃ p, a * d0 = p := ⟨_, rfl⟩
        rw [hp] at hm
        obtain ⟨hm0, hm1⟩ := hm
        have w5 : IntKind.u64.wrap p = p := by rw [uw]; omega
        by_cases hc : 4294967296 * b + l1 < p
        · have hc2 := Lib.hid (show 4294967296 * b + l1 < a * d0 by rw [hp]; exact hc)
          have ga1 : 1 ≤ a := by
            have h1 := g.out.step dg.out (.inr hc2.out)
            have h2 := dg.out.ge
            omega
          have w2 : IntKind.u64.wrap (a - 1) = a - 1 := by rw [uw]; omega
          by_cases hr : 4294967296 ≤ b + d1
          · have hf := Lib.hid (g.out.far dg.out (.inr hc2.out) hr)
            go_wp2_with fail
            go_meet
            exact ⟨by rw [hf.out], rfl⟩
          · have hn := Lib.hid (g.out.next dg.out (.inr hc2.out) (by omega))
            go_wp2_with fail
            exact ⟨⟨_, _, rfl, rfl, hn⟩, by simp [intOf]; omega⟩
        · have hf := Lib.hid (g.out.done dg.out (by omega) (by rw [hp]; exact hc))
          go_wp2_with fail
          go_meet
          exact ⟨by rw [← hf.out], rfl⟩
  case rest =>
    obtain ⟨rfl, rfl⟩ := hcut
    go_upto_block 2 with fail
    go_cut [18, 16] (fun qv rv wx => qv = .int .u64 (dgq D X l0) ∧ w = wx)
    case first =>
      go_wp2_with fail
      go_loop [18, 16] (fun qv rv => ∃ a b : Int, qv = .int .u64 a ∧ rv = .int .u64 b ∧ Hid (Gs D d1 X l0 a b)) (fun qv _ => (intOf qv).toNat)
      case atStart => exact ⟨_, _, rfl, rfl, HG2⟩
      case round =>
        obtain ⟨a, b, rfl, rfl, g⟩ := hrel
        have ga := g.out.bd dgx.out
        have gh := g.out.hi
        have gb0 := g.out.r0
        have gb1 := g.out.r1
        have w1 : IntKind.u64.wrap (b + d1) = b + d1 := by rw [uw]; omega
        have w3 : IntKind.u64.wrap (4294967296 * b) = 4294967296 * b := by rw [uw]; omega
        have w4 : IntKind.u64.wrap (4294967296 * b + l0) = 4294967296 * b + l0 := by rw [uw]; omega
        by_cases hq : 4294967296 ≤ a
        · have w2 : IntKind.u64.wrap (a - 1) = a - 1 := by rw [uw]; omega
          by_cases hr : 4294967296 ≤ b + d1
          · have hf := Lib.hid (g.out.far dgx.out (.inl hq) hr)
            go_wp2_with fail
            go_meet
            exact ⟨by rw [hf.out], rfl⟩
          · have hn := Lib.hid (g.out.next dgx.out (.inl hq) (by omega))
            go_wp2_with fail
            exact ⟨⟨_, _, rfl, rfl, hn⟩, by simp [intOf]; omega⟩
        · have hm := g.out.mulbd dgx.out (by omega)
          obtain ⟨p, hp⟩ : ∃ p, a * d0 = p := ⟨_, rfl⟩
          rw [hp] at hm
          obtain ⟨hm0, hm1⟩ := hm
          have w5 : IntKind.u64.wrap p = p := by rw [uw]; omega
          by_cases hc : 4294967296 * b + l0 < p
          · have hc2 := Lib.hid (show 4294967296 * b + l0 < a * d0 by rw [hp]; exact hc)
            have ga1 : 1 ≤ a := by
              have h1 := g.out.step dgx.out (.inr hc2.out)
              have h2 := dgx.out.ge
              omega
            have w2 : IntKind.u64.wrap (a - 1) = a - 1 := by rw [uw]; omega
            by_cases hr : 4294967296 ≤ b + d1
            · have hf := Lib.hid (g.out.far dgx.out (.inr hc2.out) hr)
              go_wp2_with fail
              go_meet
              exact ⟨by rw [hf.out], rfl⟩
            · have hn := Lib.hid (g.out.next dgx.out (.inr hc2.out) (by omega))
              go_wp2_with fail
              exact ⟨⟨_, _, rfl, rfl, hn⟩, by simp [intOf]; omega⟩
          · have hf := Lib.hid (g.out.done dgx.out (by omega) (by rw [hp]; exact hc))
            go_wp2_with fail
            go_meet
            exact ⟨by rw [← hf.out], rfl⟩
    case rest =>
      obtain ⟨rfl, rfl⟩ := hcut
      go_wp2_with fail
      go_returns
      exact ⟨ret_t2 hT1.out hT2.out, rfl⟩
end Go.Proofs.YtgohbkkeppknoaaGreatDoor
end
section
set_option linter.unusedVariables false
namespace Go.Proofs.YtgohbkkeppknoaaGreatDoor
open Go.RowKit
theorem div64_any (hi lo y : Int) (w : World) (hy : 0 < y) (hy2 : y < 18446744073709551616) (hl : 0 ≤ lo) (hl2 : lo < 18446744073709551616) (hh : 0 ≤ hi) (hh2 : hi < y) :
    Calls Tryz.prog 346 #[.int .u64 hi, .int .u64 lo, .int .u64 y] w fun e w' => e = .returned (.tuple #[.int .u64 ((hi * 18446744073709551616 + lo) / y), .int .u64 ((hi * 18446744073709551616 + lo) % y)]) ∧ Below w.heap.size w w' := by
  by_cases h : hi = 0
  · subst h
    exact (div64_0 lo y w hy hy2 hl hl2).mono fun e w' ⟨h1, n, h2⟩ => ⟨by rw [h1, Int.zero_mul, Int.zero_add], by rw [h2]; exact below_drewN (Below.refl _ _) n⟩
  · obtain ⟨s, h1, h2, h3, h4⟩ := lz_any y w hy hy2
    exact (div64_1 hi lo y s w hy hy2 hl hl2 (by omega) hh2 h1 h4 h2 h3).mono fun e w' ⟨k1, k2⟩ => ⟨k1, by rw [← k2]; exact Below.refl _ _⟩
theorem div_facts {z y : Int} (h0 : 0 ≤ z) (hy : 0 < y) : (hi6 z % y * 18446744073709551616 + lo6 z) / y = lo6 (z / y) ∧ (hi6 z % y * 18446744073709551616 + lo6 z) % y = z % y ∧ hi6 z / y = hi6 (z / y) := by
  have e := Int.emod_add_mul_ediv (hi6 z) y
  have e1 := Int.emod_nonneg (hi6 z) (by omega : y ≠ 0)
  have e2 := Int.emod_lt_of_pos (hi6 z) hy
  have ez : z = hi6 z * 18446744073709551616 + lo6 z := by unfold hi6 lo6; omega
  have l0 : 0 ≤ lo6 z := by unfold lo6; omega
  have l1 : lo6 z < 18446744073709551616 := by unfold lo6; omega
  generalize hi6 z = h at *
  generalize lo6 z = l at *
  generalize h % y = r at *
  generalize h / y = a at *
  have ez2 : z = (r * 18446744073709551616 + l) + y * (a * 18446744073709551616) := by
    rw [ez, ← e, Int.add_mul, Int.mul_assoc]; omega
  have b0 : 0 ≤ (r * 18446744073709551616 + l) / y := Int.ediv_nonneg (by omega) (by omega)
  have b1 : (r * 18446744073709551616 + l) / y < 18446744073709551616 := Int.ediv_lt_of_lt_mul hy (by omega)
  have q : z / y = (r * 18446744073709551616 + l) / y + a * 18446744073709551616 := by rw [ez2, Int.add_mul_ediv_left _ _ (by omega : y ≠ 0)]
  refine ⟨?_, ?_, ?_⟩
  · rw [q]; unfold lo6; omega
  · rw [ez2, Int.add_mul_emod_self_left]
  · rw [q]; unfold hi6; omega
set_option maxHeartbeats 4000000 in
theorem qdiv_any (z y : Int) (w : World) (hz : 0 ≤ z) (hz2 : z < 340282366920938463463374607431768211456) (hy : 0 < y) (hy2 : y < 18446744073709551616) :
    Calls Tryz.prog 316 #[.int .u64 (hi6 z), .int .u64 (lo6 z), .int .u64 y] w fun e w' => e = .returned (.tuple #[.int .u64 (hi6 (z / y)), .int .u64 (lo6 (z / y)), .int .u64 (z % y)]) ∧ Below w.heap.size w w' := by
  have l0 : 0 ≤ lo6 z := by unfold lo6; omega
  have l1 : lo6 z < 18446744073709551616 := by unfold lo6; omega
  have h0 : 0 ≤ hi6 z := by unfold hi6; omega
  have h1 : hi6 z < 18446744073709551616 := by unfold hi6; omega
  have e1 := Int.emod_nonneg (hi6 z) (by omega : y ≠ 0)
  have e2 := Int.emod_lt_of_pos (hi6 z) hy
  obtain ⟨f1, f2, f3⟩ := div_facts hz hy
  have hA := fun w' => div64_any 0 (hi6 z) y w' hy hy2 h0 h1 (by omega) hy
  have hB := fun w' => div64_any (hi6 z % y) (lo6 z) y w' hy hy2 l0 l1 e1 e2
  rw [Int.zero_mul, Int.zero_add, f3] at hA
  rw [f1, f2] at hB
  generalize hi6 (z / y) = qh at *
  generalize lo6 (z / y) = ql at *
  generalize z % y = r at *
  generalize hi6 z % y = r1 at *
  generalize hi6 z = zh at *
  generalize lo6 z = zl at *
  clear l0 l1 h0 h1 e1 e2 f1 f2 f3 hz hz2
  go_enter Tryz.func316, Tryz.ntmps316
  go_wp2_with fail
  refine (hA _).mono ?_
  rintro e w1 ⟨rfl, hb1⟩
  go_wp2_with fail
  refine (hB _).mono ?_
  rintro e w2 ⟨rfl, hb2⟩
  go_wp2_with fail
  go_returns
  exact ⟨rfl, hb1.trans (hb2.mono hb1.size)⟩
set_option maxRecDepth 100000 in
set_option maxHeartbeats 4000000 in
theorem size_wd (a : Int) (w : World) (ha : Wd a) : Calls Tryz.prog 315 #[WV a] w fun e w' => e = .returned (.tuple #[.int .u64 (hi6 (ab a)), .int .u64 (lo6 (ab a))]) ∧ Below w.heap.size w w' := by
  by_cases hn : a < 0
  · obtain ⟨ua, c, e1, e2, d, e3⟩ := apart_facts ha hn
    have h1 := (wh a).s.2 hn
    clear ha hn
    go_enter Tryz.func315, Tryz.ntmps315
    go_wp2
    go_returns
    exact ⟨rfl, by go_grown⟩
  · have h1 : 0 ≤ hi6 a := by unfold hi6; omega
    have e1 : IntKind.u64.wrap (hi6 a) = hi6 (ab a) := by rw [uw]; unfold ab; rw [if_neg hn]; unfold hi6; unfold Wd at ha; omega
    have e2 : lo6 a = lo6 (ab a) := by unfold ab; rw [if_neg hn]
    have E2 := Lib.hid e2
    have hbz := (Below.refl w.heap.size w).alloc (Nat.le_refl _) (.cells (wdA a) 243)
    clear ha hn e2
    go_enter Tryz.func315, Tryz.ntmps315
    go_wp2
    go_quiet (fail)
    go_wp2
    go_returns
    exact ⟨ret_t2 rfl E2.out, below_drewN hbz _⟩
set_option maxRecDepth 100000 in
set_option maxHeartbeats 4000000 in
theorem qaway_any (z : Int) (neg : Bool) (w : World) (h0 : 0 ≤ z) (h1 : Wd z) : Calls Tryz.prog 317 #[.int .u64 (hi6 z), .int .u64 (lo6 z), .bool neg] w fun e w' => e = .returned (.tuple #[WV (if neg = true then -z else z), .bool true]) ∧ Below w.heap.size w w' := by
  obtain ⟨c, uh, d, e3, e4, e5⟩ := minus_facts h0 h1
  unfold Wd at h1
  have e1 : ¬ 9223372036854775808 < hi6 z := by unfold hi6; omega
  have e2 : (hi6 z == 9223372036854775808) = false := beq_eq_false_iff_ne.2 (by unfold hi6; omega)
  have e6 : hi6 z < 9223372036854775808 := by unfold hi6; omega
  have e7 : wrap64 (hi6 z) = hi6 z := by rw [w64]; unfold hi6; omega
  clear h0 h1
  cases neg
  all_goals
    go_enter Tryz.func317, Tryz.ntmps317
    go_wp2
    go_returns
    exact ⟨rfl, by go_grown⟩

def cutF (z : Int) : Int := if z < -70368744177664 then -70368744177664 else if 70368744177664 < z then 70368744177664 else z
set_option maxHeartbeats 4000000 in
theorem qcut_any (z : Int) (w : World) (hz : Wd z) : Calls Tryz.prog 296 #[WV z] w fun e w' => e = .returned (.int .i64 (cutF z)) ∧ Below w.heap.size w w' := by
  have hL := (Lie.start w).alloc (wdA z) 243
  by_cases hi : J64 z
  · have hF := fun w' => fits64_yes z w' hi
    have hS := fun w' => wsign_any z w'
    have hc : (z < -70368744177664 ∧ sgn z < 0) ∨ (70368744177664 < z ∧ 0 ≤ sgn z) ∨ (-70368744177664 ≤ z ∧ z ≤ 70368744177664) := by unfold sgn; split <;> (try split) <;> omega
    clear hi hz
    rcases hc with ⟨h1, h2⟩ | ⟨h1, h2⟩ | ⟨h1, h2⟩
    · have HC := Lib.hid (show cutF z = -70368744177664 by unfold cutF; rw [if_pos h1])
      go_enter Tryz.func296, Tryz.ntmps296
      go_wp2_with (first
        | (go_at_call 191; (with_reducible refine (hF _).mono ?_); rintro e w1 ⟨rfl, hb1⟩; have hL1 := hL.nx hb1; have k1 : Bk w1 w.heap.size 243 (wdA z) := hL1.k 0 (by simp); obtain ⟨c0, c1⟩ := k1.cell2)
        | (go_at_call 301; (with_reducible refine (hS _).mono ?_); rintro e w2 ⟨rfl, hb2⟩; have hL2 := hL1.nx hb2))
      go_returns
      exact ⟨ret_int HC.out.symm, hL2.bel⟩
    · have HC := Lib.hid (show cutF z = 70368744177664 by unfold cutF; rw [if_neg (by omega), if_pos h1])
      go_enter Tryz.func296, Tryz.ntmps296
      go_wp2_with (first
        | (go_at_call 191; (with_reducible refine (hF _).mono ?_); rintro e w1 ⟨rfl, hb1⟩; have hL1 := hL.nx hb1; have k1 : Bk w1 w.heap.size 243 (wdA z) := hL1.k 0 (by simp); obtain ⟨c0, c1⟩ := k1.cell2)
        | (go_at_call 301; (with_reducible refine (hS _).mono ?_); rintro e w2 ⟨rfl, hb2⟩; have hL2 := hL1.nx hb2))
      go_returns
      exact ⟨ret_int HC.out.symm, hL2.bel⟩
    · have HC := Lib.hid (show cutF z = z by unfold cutF; rw [if_neg (by omega), if_neg (by omega)])
      go_enter Tryz.func296, Tryz.ntmps296
      go_wp2_with (go_at_call 191; (with_reducible refine (hF _).mono ?_); rintro e w1 ⟨rfl, hb1⟩; have hL1 := hL.nx hb1; have k1 : Bk w1 w.heap.size 243 (wdA z) := hL1.k 0 (by simp); obtain ⟨c0, c1⟩ := k1.cell2)
      go_returns
      exact ⟨ret_int HC.out.symm, hL1.bel⟩
  · have hF := fun w' => fits64_no z w' hi
    have hS := fun w' => wsign_any z w'
    have hc : (sgn z < 0 ∧ cutF z = -70368744177664) ∨ (0 ≤ sgn z ∧ cutF z = 70368744177664) := by unfold sgn cutF; unfold J64 at hi; split <;> (try split) <;> (try split) <;> omega
    clear hi hz
    rcases hc with ⟨h1, h2⟩ | ⟨h1, h2⟩
    all_goals
      have HC := Lib.hid h2
      clear h2
      go_enter Tryz.func296, Tryz.ntmps296
      go_wp2_with (first
        | (go_at_call 191; (with_reducible refine (hF _).mono ?_); rintro e w1 ⟨rfl, hb1⟩; have hL1 := hL.nx hb1; have k1 : Bk w1 w.heap.size 243 (wdA z) := hL1.k 0 (by simp); obtain ⟨c0, c1⟩ := k1.cell2)
        | (go_at_call 301; (with_reducible refine (hS _).mono ?_); rintro e w2 ⟨rfl, hb2⟩; have hL2 := hL1.nx hb2))
      go_returns
      exact ⟨ret_int HC.out.symm, hL2.bel⟩
end Go.Proofs.YtgohbkkeppknoaaGreatDoor
end
