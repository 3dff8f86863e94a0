/- A quotient of 128 bits by 64. -/
import Derived.Test.YtlbiiljncacdoaaGreatDv0
import Derived.Deep.CutBlock
set_option linter.unusedVariables false
namespace Go.Proofs.YtlbiiljncacdoaaGreat
open Go.RowKit
theorem div64_0 (lo y : Int) (w : World) (hy : 0 < y) (hy2 : y < 18446744073709551616) (hl : 0 ≤ lo) (hl2 : lo < 18446744073709551616) :
    Calls Tryz.prog 281 #[.int .u64 0, .int .u64 lo, .int .u64 y] w fun e w' => e = .returned (.tuple #[.int .u64 (lo / y), .int .u64 (lo % y)]) ∧ ∃ n, w' = w.drewN n := by
  have h0 : (y == 0) = false := beq_eq_false_iff_ne.2 (by omega)
  go_enter Tryz.func281, Tryz.ntmps281
  go_wp2
  go_quiet (fail)
  go_wp2
  go_returns
  exact ⟨rfl, _, rfl⟩
theorem un_wrap {D d1 d0 U l : Int} (h : Dg D d1 d0 U l) (hD : D < 18446744073709551616) : IntKind.u64.wrap (IntKind.u64.wrap (IntKind.u64.wrap (U * 4294967296) + l) - IntKind.u64.wrap (dgq D U l * D)) = lft D U l := by
  have k := h.left
  rw [uw, uw, uw, uw]
  unfold lft at *
  generalize dgq D U l * D = p at *
  omega
theorem q_wrap {a b : Int} (h1 : 0 ≤ a) (h2 : a < 4294967296) (h3 : 0 ≤ b) (h4 : b < 4294967296) : IntKind.u64.wrap (IntKind.u64.wrap (a * 4294967296) + b) = a * 4294967296 + b := by
  rw [uw, uw]; omega
set_option maxRecDepth 100000 in
set_option maxHeartbeats 8000000 in
theorem div64_1 (hi lo y : Int) (s : Nat) (w : World) (hy : 0 < y) (hy2 : y < 18446744073709551616) (hl : 0 ≤ lo) (hl2 : lo < 18446744073709551616) (hh : 0 < hi) (hh2 : hi < y) (hs : s ≤ 63)
    (hLz : ∀ w : World, Calls Tryz.prog 288 #[.int .u64 y] w fun e w' => e = .returned (.int .i64 s) ∧ w = w') (hs1 : y * 2 ^ s < 18446744073709551616) (hs2 : 9223372036854775808 ≤ y * 2 ^ s) :
    Calls Tryz.prog 281 #[.int .u64 hi, .int .u64 lo, .int .u64 y] w fun e w' => e = .returned (.tuple #[.int .u64 ((hi * 18446744073709551616 + lo) / y), .int .u64 ((hi * 18446744073709551616 + lo) % y)]) ∧ w = w' := by
  have h0 : (y == 0) = false := beq_eq_false_iff_ne.2 (by omega)
  have h1 : (hi == 0) = false := beq_eq_false_iff_ne.2 (by omega)
  obtain ⟨D, d1, d0, U, l1, l0, L, e1, e2, e3, e4, e5, e6, e7, dg', hl0, hl0', eD, eN⟩ := dv_facts hy hs hs1 hs2 hh hh2 hl hl2
  have dg := Lib.hid dg'
  have hUM := Gs.start dg'
  have HG := Lib.hid hUM
  obtain ⟨_, _, _, gs4, gs5⟩ := hUM
  obtain ⟨dg1, dg2, dg3, dg4, dg5, dg6, dg7, dg8, dg9⟩ := dg'
  clear dg1
  have hd1 : (d1 == 0) = false := beq_eq_false_iff_ne.2 (by omega)
  have ED := Lib.hid eD
  have EN := Lib.hid eN
  have hu0 : 0 ≤ U / d1 := Int.ediv_nonneg dg6 (by omega)
  have hu1 : U / d1 * d1 ≤ U := Int.ediv_mul_le _ (by omega)
  have hu2 : 0 ≤ U / d1 * d1 := Int.mul_nonneg hu0 (by omega)
  have f1 : IntKind.u64.wrap (U / d1 * d1) = U / d1 * d1 := by rw [uw]; omega
  have f2 : IntKind.u64.wrap (U - U / d1 * d1) = U - U / d1 * d1 := by rw [uw]; omega
  have hDM : D < 18446744073709551616 := by omega
  clear hu0 hu1 hu2 eD eN gs4 gs5
  have hX1 := un_wrap dg.out hDM
  obtain ⟨hX2, hX3⟩ := dg.out.left
  have dgx' : Dg D d1 d0 (lft D U l1) l0 := ⟨dg.out.e, dg2, dg3, dg4, dg5, hX2, hX3, hl0, hl0'⟩
  have hT := two_dgt dg.out dgx' hy ED.out EN.out
  have hR1 := un_wrap dgx' hDM
  have hR2 := q_wrap dg.out.ge dg.out.lt dgx'.ge dgx'.lt
  generalize hX : lft D U l1 = X at *
  have dgx := Lib.hid dgx'
  have HG2 := Lib.hid (Gs.start dgx')
  obtain ⟨_, _, _, gs4, gs5⟩ := Gs.start dgx'
  have hu0 : 0 ≤ X / d1 := Int.ediv_nonneg hX2 (by omega)
  have hu1 : X / d1 * d1 ≤ X := Int.ediv_mul_le _ (by omega)
  have hu2 : 0 ≤ X / d1 * d1 := Int.mul_nonneg hu0 (by omega)
  have g1 : IntKind.u64.wrap (X / d1 * d1) = X / d1 * d1 := by rw [uw]; omega
  have g2 : IntKind.u64.wrap (X - X / d1 * d1) = X - X / d1 * d1 := by rw [uw]; omega
  have hT1 := Lib.hid hT.1
  have hT2 := Lib.hid hT.2
  clear hu0 hu1 hu2 gs4 gs5 dgx' hT hX
  go_enter Tryz.func281, Tryz.ntmps281
  go_wp2_with fail
  refine (hLz _).mono ?_
  rintro e w1 ⟨rfl, rfl⟩
  go_upto_block 0 with fail
  go_cut [15, 16] (fun qv rv wx => qv = .int .u64 (dgq D U l1) ∧ w = wx)
  case first =>
    go_wp2_with fail
    go_loop [15, 16] (fun qv rv => ∃ a b : Int, qv = .int .u64 a ∧ rv = .int .u64 b ∧ Hid (Gs D d1 U l1 a b)) (fun qv _ => (intOf qv).toNat)
    case atStart => exact ⟨_, _, rfl, rfl, HG⟩
    case round =>
      obtain ⟨a, b, rfl, rfl, g⟩ := hrel
      have ga := g.out.bd dg.out
      have gh := g.out.hi
      have gb0 := g.out.r0
      have gb1 := g.out.r1
      have w1 : IntKind.u64.wrap (b + d1) = b + d1 := by rw [uw]; omega
      have w3 : IntKind.u64.wrap (4294967296 * b) = 4294967296 * b := by rw [uw]; omega
      have w4 : IntKind.u64.wrap (4294967296 * b + l1) = 4294967296 * b + l1 := by rw [uw]; omega
      by_cases hq : 4294967296 ≤ a
      · have w2 : IntKind.u64.wrap (a - 1) = a - 1 := by rw [uw]; omega
        by_cases hr : 4294967296 ≤ b + d1
        · have hf := Lib.hid (g.out.far dg.out (.inl hq) hr)
          go_wp2_with fail
          go_meet
          exact ⟨by rw [hf.out], rfl⟩
        · have hn := Lib.hid (g.out.next dg.out (.inl hq) (by omega))
          go_wp2_with fail
          exact ⟨⟨_, _, rfl, rfl, hn⟩, by simp [intOf]; omega⟩
      · have hm := g.out.mulbd dg.out (by omega)
        obtain ⟨p, hp⟩ : ∃ p, a * d0 = p := ⟨_, rfl⟩
        rw [hp] at hm
        obtain ⟨hm0, hm1⟩ := hm
        have w5 : IntKind.u64.wrap p = p := by rw [uw]; omega
        by_cases hc : 4294967296 * b + l1 < p
        · have hc2 := Lib.hid (show 4294967296 * b + l1 < a * d0 by rw [hp]; exact hc)
          have ga1 : 1 ≤ a := by
            have h1 := g.out.step dg.out (.inr hc2.out)
            have h2 := dg.out.ge
            omega
          have w2 : IntKind.u64.wrap (a - 1) = a - 1 := by rw [uw]; omega
          by_cases hr : 4294967296 ≤ b + d1
          · have hf := Lib.hid (g.out.far dg.out (.inr hc2.out) hr)
            go_wp2_with fail
            go_meet
            exact ⟨by rw [hf.out], rfl⟩
          · have hn := Lib.hid (g.out.next dg.out (.inr hc2.out) (by omega))
            go_wp2_with fail
            exact ⟨⟨_, _, rfl, rfl, hn⟩, by simp [intOf]; omega⟩
        · have hf := Lib.hid (g.out.done dg.out (by omega) (by rw [hp]; exact hc))
          go_wp2_with fail
          go_meet
          exact ⟨by rw [← hf.out], rfl⟩
  case rest =>
    obtain ⟨rfl, rfl⟩ := hcut
    go_upto_block 2 with fail
    go_cut [18, 16] (fun qv rv wx => qv = .int .u64 (dgq D X l0) ∧ w = wx)
    case first =>
      go_wp2_with fail
      go_loop [18, 16] (fun qv rv => ∃ a b : Int, qv = .int .u64 a ∧ rv = .int .u64 b ∧ Hid (Gs D d1 X l0 a b)) (fun qv _ => (intOf qv).toNat)
      case atStart => exact ⟨_, _, rfl, rfl, HG2⟩
      case round =>
        obtain ⟨a, b, rfl, rfl, g⟩ := hrel
        have ga := g.out.bd dgx.out
        have gh := g.out.hi
        have gb0 := g.out.r0
        have gb1 := g.out.r1
        have w1 : IntKind.u64.wrap (b + d1) = b + d1 := by rw [uw]; omega
        have w3 : IntKind.u64.wrap (4294967296 * b) = 4294967296 * b := by rw [uw]; omega
        have w4 : IntKind.u64.wrap (4294967296 * b + l0) = 4294967296 * b + l0 := by rw [uw]; omega
        by_cases hq : 4294967296 ≤ a
        · have w2 : IntKind.u64.wrap (a - 1) = a - 1 := by rw [uw]; omega
          by_cases hr : 4294967296 ≤ b + d1
          · have hf := Lib.hid (g.out.far dgx.out (.inl hq) hr)
            go_wp2_with fail
            go_meet
            exact ⟨by rw [hf.out], rfl⟩
          · have hn := Lib.hid (g.out.next dgx.out (.inl hq) (by omega))
            go_wp2_with fail
            exact ⟨⟨_, _, rfl, rfl, hn⟩, by simp [intOf]; omega⟩
        · have hm := g.out.mulbd dgx.out (by omega)
          obtain ⟨p, hp⟩ : ∃ p, a * d0 = p := ⟨_, rfl⟩
          rw [hp] at hm
          obtain ⟨hm0, hm1⟩ := hm
          have w5 : IntKind.u64.wrap p = p := by rw [uw]; omega
          by_cases hc : 4294967296 * b + l0 < p
          · have hc2 := Lib.hid (show 4294967296 * b + l0 < a * d0 by rw [hp]; exact hc)
            have ga1 : 1 ≤ a := by
              have h1 := g.out.step dgx.out (.inr hc2.out)
              have h2 := dgx.out.ge
              omega
            have w2 : IntKind.u64.wrap (a - 1) = a - 1 := by rw [uw]; omega
            by_cases hr : 4294967296 ≤ b + d1
            · have hf := Lib.hid (g.out.far dgx.out (.inr hc2.out) hr)
              go_wp2_with fail
              go_meet
              exact ⟨by rw [hf.out], rfl⟩
            · have hn := Lib.hid (g.out.next dgx.out (.inr hc2.out) (by omega))
              go_wp2_with fail
              exact ⟨⟨_, _, rfl, rfl, hn⟩, by simp [intOf]; omega⟩
          · have hf := Lib.hid (g.out.done dgx.out (by omega) (by rw [hp]; exact hc))
            go_wp2_with fail
            go_meet
            exact ⟨by rw [← hf.out], rfl⟩
    case rest =>
      obtain ⟨rfl, rfl⟩ := hcut
      go_wp2_with fail
      go_returns
      exact ⟨ret_t2 hT1.out hT2.out, rfl⟩
end Go.Proofs.YtlbiiljncacdoaaGreat
