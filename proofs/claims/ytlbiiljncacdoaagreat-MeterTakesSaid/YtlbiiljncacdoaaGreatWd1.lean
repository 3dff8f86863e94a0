/- Sums and differences of 64 bits; wide numbers: what they are, sums, differences, signs. -/
import Derived.Test.YtlbiiljncacdoaaGreatRowG
import Derived.Laws.Externs
import Derived.Shelf.Spec.BitsCarry
import Derived.Lib.Mul64
import Derived.Laws.Bits64b
set_option linter.unusedVariables false
namespace Go.Proofs.YtlbiiljncacdoaaGreat
open Go.RowKit
theorem run_add (x y c : Int) (hx : 0 ≤ x) (hy : 0 ≤ y) (hc0 : 0 ≤ c) (hc : c ≤ 1) (w : World) :
    (callFunc 268 #[.int .u64 x, .int .u64 y, .int .u64 c]).run Tryz.prog w = .ok (.value (.tuple #[.int .u64 ((x + y + c) % 18446744073709551616), .int .u64 ((x + y + c) / 18446744073709551616)])) w := by
  rw [run_callFunc_extern Tryz.func268 (by kernel_rfl) (by kernel_rfl) (by kernel_rfl) (e := add64Entry) (by kernel_rfl), run_add64 x y c hx hy hc0 hc]
  rfl
theorem run_subN (x y c : Nat) (hc : c ≤ 1) (w : World) :
    (callFunc 280 #[.int .u64 x, .int .u64 y, .int .u64 c]).run Tryz.prog w = .ok (.value (.tuple #[.int .u64 (((x + 18446744073709551616 - y - c) % 18446744073709551616 : Nat) : Int), .int .u64 ((if x < y + c then 1 else 0 : Nat) : Int)])) w := by
  rw [run_callFunc_extern Tryz.func280 (by kernel_rfl) (by kernel_rfl) (by kernel_rfl) (e := sub64Entry) (by kernel_rfl), run_sub64 x y c hc]
  rfl
theorem run_add' {x y c s d : Int} (hx : 0 ≤ x) (hy : 0 ≤ y) (hc0 : 0 ≤ c) (hc : c ≤ 1) (hs : (x + y + c) % 18446744073709551616 = s) (hd : (x + y + c) / 18446744073709551616 = d) (w : World) :
    (callFunc 268 #[.int .u64 x, .int .u64 y, .int .u64 c]).run Tryz.prog w = .ok (.value (.tuple #[.int .u64 s, .int .u64 d])) w := by
  rw [run_add x y c hx hy hc0 hc w, hs, hd]
theorem run_sub' {x y c s d : Int} (hx : 0 ≤ x) (hy : 0 ≤ y) (hx2 : x < 18446744073709551616) (hy2 : y < 18446744073709551616) (hc0 : 0 ≤ c) (hc : c ≤ 1) (hs : (x - y - c) % 18446744073709551616 = s) (hd : (if x < y + c then 1 else 0 : Int) = d) (w : World) :
    (callFunc 280 #[.int .u64 x, .int .u64 y, .int .u64 c]).run Tryz.prog w = .ok (.value (.tuple #[.int .u64 s, .int .u64 d])) w := by
  obtain ⟨x, rfl⟩ := Int.eq_ofNat_of_zero_le hx
  obtain ⟨y, rfl⟩ := Int.eq_ofNat_of_zero_le hy
  obtain ⟨c, rfl⟩ := Int.eq_ofNat_of_zero_le hc0
  have e1 : (((x + 18446744073709551616 - y - c) % 18446744073709551616 : Nat) : Int) = s := by omega
  have e2 : ((if x < y + c then 1 else 0 : Nat) : Int) = d := by rw [← hd]; split <;> split <;> omega
  rw [run_subN x y c (by omega) w, e1, e2]
/-- A wide number's upper and lower half. -/
def hi6 (z : Int) : Int := z / 18446744073709551616
def lo6 (z : Int) : Int := z % 18446744073709551616
abbrev WV (z : Int) : Value := .agg #[.int .i64 (hi6 z), .int .u64 (lo6 z)]
/-- A wide number has room. -/
def Wd (z : Int) : Prop := -170141183460469231731687303715884105728 ≤ z ∧ z < 170141183460469231731687303715884105728
def J64 (z : Int) : Prop := -9223372036854775808 ≤ z ∧ z < 9223372036854775808
/-- What the walk wants to know of a wide number's halves. -/
structure WH (z : Int) : Prop where
  l0 : 0 ≤ lo6 z
  s : hi6 z < 0 ↔ z < 0
theorem wh (z : Int) : WH z := ⟨by unfold lo6; omega, by unfold hi6; omega⟩
theorem hi_bd {z : Int} (h : Wd z) : J64 (hi6 z) := by unfold Wd at h; unfold J64 hi6; omega
theorem hi0 : hi6 0 = 0 := by decide
theorem lo0 : lo6 0 = 0 := by decide
theorem uw (x : Int) : IntKind.u64.wrap x = x % 18446744073709551616 := by rw [IntKind.wrap_u64]
theorem w64 (x : Int) : wrap64 x = (x + 9223372036854775808) % 18446744073709551616 - 9223372036854775808 := by unfold wrap64; rfl
set_option maxHeartbeats 1000000 in
theorem wof_any (x : Int) (w : World) (hx : J64 x) : Calls Tryz.prog 261 #[.int .i64 x] w fun e w' => e = .returned (WV x) ∧ Below w.heap.size w w' := by
  have e1 : IntKind.u64.wrap x = lo6 x := by rw [uw]; rfl
  have e2 : x / 9223372036854775808 = hi6 x := by unfold hi6; unfold J64 at hx; omega
  have e3 : x >>> 63 = hi6 x := by rw [Int.shiftRight_eq_div_pow]; exact e2
  clear hx
  go_enter Tryz.func261, Tryz.ntmps261
  go_wp2
  go_returns
  exact ⟨rfl, by go_grown⟩
def sgn (z : Int) : Int := if z < 0 then -1 else if z = 0 then 0 else 1
set_option maxHeartbeats 1000000 in
theorem wsign_any (z : Int) (w : World) : Calls Tryz.prog 256 #[WV z] w fun e w' => e = .returned (.int .i64 (sgn z)) ∧ Below w.heap.size w w' := by
  rcases Int.lt_trichotomy z 0 with h | rfl | h
  · have HS := Lib.hid (show sgn z = -1 by unfold sgn; rw [if_pos h])
    have h1 := (wh z).s.2 h
    clear h
    go_enter Tryz.func256, Tryz.ntmps256
    go_wp2
    go_returns
    exact ⟨ret_int HS.out.symm, by go_grown⟩
  · have h1 := hi0
    have h2 := lo0
    go_enter Tryz.func256, Tryz.ntmps256
    go_wp2
    go_returns
    exact ⟨ret_int (by rfl), by go_grown⟩
  · have HS := Lib.hid (show sgn z = 1 by unfold sgn; rw [if_neg (by omega), if_neg (by omega)])
    have h1 : ¬ hi6 z < 0 := fun k => by have := (wh z).s.1 k; omega
    by_cases h2 : 0 < hi6 z
    · clear h
      go_enter Tryz.func256, Tryz.ntmps256
      go_wp2
      go_returns
      exact ⟨ret_int HS.out.symm, by go_grown⟩
    · have h3 : 0 < lo6 z := by unfold hi6 lo6 at *; omega
      clear h
      go_enter Tryz.func256, Tryz.ntmps256
      go_wp2
      go_returns
      exact ⟨ret_int HS.out.symm, by go_grown⟩
theorem add_facts {a b : Int} (ha : Wd a) (hb : Wd b) (hs : Wd (a + b)) : ∃ ua ub c uh d : Int, IntKind.u64.wrap (hi6 a) = ua ∧ IntKind.u64.wrap (hi6 b) = ub ∧
    (∀ w, (callFunc 268 #[.int .u64 (lo6 a), .int .u64 (lo6 b), .int .u64 0]).run Tryz.prog w = .ok (.value (.tuple #[.int .u64 (lo6 (a + b)), .int .u64 c])) w) ∧
    (∀ w, (callFunc 268 #[.int .u64 ua, .int .u64 ub, .int .u64 c]).run Tryz.prog w = .ok (.value (.tuple #[.int .u64 uh, .int .u64 d])) w) ∧ wrap64 uh = hi6 (a + b) := by
  unfold Wd at ha hb hs
  refine ⟨_, _, (lo6 a + lo6 b) / 18446744073709551616, (hi6 a % 18446744073709551616 + hi6 b % 18446744073709551616 + (lo6 a + lo6 b) / 18446744073709551616) % 18446744073709551616, (hi6 a % 18446744073709551616 + hi6 b % 18446744073709551616 + (lo6 a + lo6 b) / 18446744073709551616) / 18446744073709551616, uw _, uw _, fun w => run_add' (by unfold lo6; omega) (by unfold lo6; omega) (by omega) (by omega) (by unfold lo6; omega) (by rw [Int.add_zero]) w, fun w => run_add' (by omega) (by omega) (by unfold lo6; omega) (by unfold lo6; omega) rfl rfl w, ?_⟩
  rw [w64]; unfold lo6 hi6; omega
set_option maxRecDepth 100000 in
set_option maxHeartbeats 4000000 in
theorem wadd_any (a b : Int) (w : World) (ha : Wd a) (hb : Wd b) (hs : Wd (a + b)) :
    Calls Tryz.prog 251 #[WV a, WV b] w fun e w' => e = .returned (.tuple #[WV (a + b), .bool true]) ∧ Below w.heap.size w w' := by
  obtain ⟨ua, ub, c, uh, d, e1, e2, e3, e4, e5⟩ := add_facts ha hb hs
  have ka := (wh a).s
  have kb := (wh b).s
  have ks := (wh (a + b)).s
  have hor : (hi6 a < 0 ∧ 0 ≤ hi6 b) ∨ (0 ≤ hi6 a ∧ hi6 b < 0) ∨ (hi6 a < 0 ∧ hi6 b < 0 ∧ hi6 (a + b) < 0) ∨ (0 ≤ hi6 a ∧ 0 ≤ hi6 b ∧ 0 ≤ hi6 (a + b)) := by omega
  clear ka kb ks ha hb hs
  rcases hor with ⟨h1, h2⟩ | ⟨h1, h2⟩ | ⟨h1, h2, h3⟩ | ⟨h1, h2, h3⟩
  all_goals
    first | have d1 : decide (hi6 a < 0) = true := decide_eq_true h1 | have d1 : decide (hi6 a < 0) = false := decide_eq_false (by omega)
    first | have d2 : decide (hi6 b < 0) = true := decide_eq_true h2 | have d2 : decide (hi6 b < 0) = false := decide_eq_false (by omega)
    first | have d3 : decide (hi6 (a + b) < 0) = true := decide_eq_true h3 | have d3 : decide (hi6 (a + b) < 0) = false := decide_eq_false (by omega) | have d3 : True := trivial
    go_enter Tryz.func251, Tryz.ntmps251
    go_wp2
    go_returns
    exact ⟨rfl, by go_grown⟩
end Go.Proofs.YtlbiiljncacdoaaGreat
