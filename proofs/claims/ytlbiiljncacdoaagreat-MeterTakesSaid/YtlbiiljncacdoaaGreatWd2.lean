/- Wide numbers: differences, sizes, products. -/
import Derived.Test.YtlbiiljncacdoaaGreatWd1
import Derived.Test.YtlbiiljncacdoaaGreatLie
set_option linter.unusedVariables false
namespace Go.Proofs.YtlbiiljncacdoaaGreat
open Go.RowKit
theorem sub_facts {a b : Int} (ha : Wd a) (hb : Wd b) (hs : Wd (a - b)) : ∃ ua ub c uh d : Int, IntKind.u64.wrap (hi6 a) = ua ∧ IntKind.u64.wrap (hi6 b) = ub ∧
    (∀ w, (callFunc 280 #[.int .u64 (lo6 a), .int .u64 (lo6 b), .int .u64 0]).run Tryz.prog w = .ok (.value (.tuple #[.int .u64 (lo6 (a - b)), .int .u64 c])) w) ∧
    (∀ w, (callFunc 280 #[.int .u64 ua, .int .u64 ub, .int .u64 c]).run Tryz.prog w = .ok (.value (.tuple #[.int .u64 uh, .int .u64 d])) w) ∧ wrap64 uh = hi6 (a - b) := by
  unfold Wd at ha hb hs
  refine ⟨_, _, if lo6 a < lo6 b then 1 else 0, (hi6 a % 18446744073709551616 - hi6 b % 18446744073709551616 - (if lo6 a < lo6 b then 1 else 0)) % 18446744073709551616, _, uw _, uw _, fun w => run_sub' (by unfold lo6; omega) (by unfold lo6; omega) (by unfold lo6; omega) (by unfold lo6; omega) (by omega) (by omega) (by unfold lo6; omega) (by rw [Int.add_zero]) w, fun w => run_sub' (by omega) (by omega) (by omega) (by omega) (by split <;> omega) (by split <;> omega) rfl rfl w, ?_⟩
  rw [w64]; unfold lo6 hi6; split <;> omega
set_option maxRecDepth 100000 in
set_option maxHeartbeats 4000000 in
theorem wsub_any (a b : Int) (w : World) (ha : Wd a) (hb : Wd b) (hs : Wd (a - b)) :
    Calls Tryz.prog 289 #[WV a, WV b] w fun e w' => e = .returned (.tuple #[WV (a - b), .bool true]) ∧ Below w.heap.size w w' := by
  obtain ⟨ua, ub, c, uh, d, e1, e2, e3, e4, e5⟩ := sub_facts ha hb hs
  have ka := (wh a).s
  have kb := (wh b).s
  have ks := (wh (a - b)).s
  have hor : (hi6 a < 0 ∧ hi6 b < 0) ∨ (0 ≤ hi6 a ∧ 0 ≤ hi6 b) ∨ (hi6 a < 0 ∧ 0 ≤ hi6 b ∧ hi6 (a - b) < 0) ∨ (0 ≤ hi6 a ∧ hi6 b < 0 ∧ 0 ≤ hi6 (a - b)) := by omega
  clear ka kb ks ha hb hs
  rcases hor with ⟨h1, h2⟩ | ⟨h1, h2⟩ | ⟨h1, h2, h3⟩ | ⟨h1, h2, h3⟩
  all_goals
    first | have d1 : decide (hi6 a < 0) = true := decide_eq_true h1 | have d1 : decide (hi6 a < 0) = false := decide_eq_false (by omega)
    first | have d2 : decide (hi6 b < 0) = true := decide_eq_true h2 | have d2 : decide (hi6 b < 0) = false := decide_eq_false (by omega)
    first | have d3 : decide (hi6 (a - b) < 0) = true := decide_eq_true h3 | have d3 : decide (hi6 (a - b) < 0) = false := decide_eq_false (by omega) | have d3 : True := trivial
    go_enter Tryz.func289, Tryz.ntmps289
    go_wp2
    go_returns
    exact ⟨rfl, by go_grown⟩
def ab (x : Int) : Int := if x < 0 then -x else x
theorem wabs_any (x : Int) (w : World) (hx : J64 x) : Calls Tryz.prog 270 #[.int .i64 x] w fun e w' => e = .returned (.tuple #[.int .u64 (ab x), .bool (decide (x < 0))]) ∧ w = w' := by
  by_cases h : x < 0
  · have hd := decide_eq_true h
    obtain ⟨u, hu⟩ : ∃ u, IntKind.u64.wrap x = u := ⟨_, rfl⟩
    have e2 : IntKind.u64.wrap (-u) = ab x := by rw [← hu, uw, uw]; unfold ab; rw [if_pos h]; unfold J64 at hx; omega
    clear hx
    go_enter Tryz.func270, Tryz.ntmps270
    go_wp2
    go_returns
    exact ⟨by first | rfl | (rw [hd]; rfl), rfl⟩
  · have hd := decide_eq_false h
    have e2 : IntKind.u64.wrap x = ab x := by rw [uw]; unfold ab; rw [if_neg h]; unfold J64 at hx; omega
    clear hx
    go_enter Tryz.func270, Tryz.ntmps270
    go_wp2
    go_returns
    exact ⟨by first | rfl | (rw [hd]; rfl), rfl⟩
abbrev SV (z : Int) : Value := .agg #[.int .u64 (hi6 z), .int .u64 (lo6 z)]
theorem wplus_any (z : Int) (w : World) (h0 : 0 ≤ z) (h1 : Wd z) : Calls Tryz.prog 282 #[SV z] w fun e w' => e = .returned (.tuple #[WV z, .bool true]) ∧ Below w.heap.size w w' := by
  unfold Wd at h1
  have e1 : ¬ 9223372036854775807 < hi6 z := by unfold hi6; omega
  have e2 : wrap64 (hi6 z) = hi6 z := by rw [w64]; unfold hi6; omega
  clear h0 h1
  go_enter Tryz.func282, Tryz.ntmps282
  go_wp2
  go_returns
  exact ⟨rfl, by go_grown⟩
theorem minus_facts {z : Int} (h0 : 0 ≤ z) (h1 : Wd z) : ∃ c uh d : Int,
    (∀ w, (callFunc 280 #[.int .u64 0, .int .u64 (lo6 z), .int .u64 0]).run Tryz.prog w = .ok (.value (.tuple #[.int .u64 (lo6 (-z)), .int .u64 c])) w) ∧
    (∀ w, (callFunc 280 #[.int .u64 0, .int .u64 (hi6 z), .int .u64 c]).run Tryz.prog w = .ok (.value (.tuple #[.int .u64 uh, .int .u64 d])) w) ∧ wrap64 uh = hi6 (-z) := by
  unfold Wd at h1
  refine ⟨if 0 < lo6 z then 1 else 0, (0 - hi6 z - (if 0 < lo6 z then 1 else 0)) % 18446744073709551616, _, fun w => run_sub' (by omega) (by unfold lo6; omega) (by omega) (by unfold lo6; omega) (by omega) (by omega) (by unfold lo6; omega) (by rw [Int.add_zero]) w, fun w => run_sub' (by omega) (by unfold hi6; omega) (by omega) (by unfold hi6; omega) (by split <;> omega) (by split <;> omega) rfl rfl w, ?_⟩
  rw [w64]; unfold lo6 hi6; split <;> omega
theorem wminus_any (z : Int) (w : World) (h0 : 0 ≤ z) (h1 : Wd z) : Calls Tryz.prog 283 #[SV z] w fun e w' => e = .returned (.tuple #[WV (-z), .bool true]) ∧ Below w.heap.size w w' := by
  obtain ⟨c, uh, d, e3, e4, e5⟩ := minus_facts h0 h1
  unfold Wd at h1
  have e1 : ¬ 9223372036854775808 < hi6 z := by unfold hi6; omega
  have e2 : (hi6 z == 9223372036854775808) = false := beq_eq_false_iff_ne.2 (by unfold hi6; omega)
  clear h0 h1
  go_enter Tryz.func283, Tryz.ntmps283
  go_wp2
  go_returns
  exact ⟨rfl, by go_grown⟩
theorem wd_size : (Tryz.prog.info? 261).map (·.size) = some 2 := by kernel_rfl
theorem sz_size : (Tryz.prog.info? 325).map (·.size) = some 2 := by kernel_rfl
abbrev wdA (z : Int) : Array Value := #[.int .i64 (hi6 z), .int .u64 (lo6 z)]
abbrev szA (z : Int) : Array Value := #[.int .u64 (hi6 z), .int .u64 (lo6 z)]
theorem stWd {ops : Array Oper} {rest : List Oper} {o : Oper} {a : Act} {w : World} {Q : Exit → Act → World → Prop} (hgd : o.guard = none) (x y : Operand) (ho : o.op = .store 261 x y)
    {g : Nat} {old : Array Value} (hK : Bk w g 261 old) (hold : old.size = 2) {z : Int} (hx : a.eval x = .pointer (some ⟨g, 0, none⟩)) (hy : a.eval y = WV z)
    (h : ∀ w', Bk w' g 261 (wdA z) → w.grownBy w' (some g) → w'.heap.size = w.heap.size → wpList Tryz.prog ops Q rest (a.put o.dst undef) w') : wpList Tryz.prog ops Q (o :: rest) a w :=
  stB hgd _ x y ho hK _ hx hy wd_size (by simpa using hold) (by simp [Value.oneCell']) h
theorem ldWd {ops : Array Oper} {rest : List Oper} {o : Oper} {a : Act} {w : World} {Q : Exit → Act → World → Prop} (hgd : o.guard = none) (x : Operand) (ho : o.op = .load 261 x)
    {g : Nat} {z : Int} (hK : Bk w g 261 (wdA z)) (hx : a.eval x = .pointer (some ⟨g, 0, none⟩))
    (h : wpList Tryz.prog ops Q rest (a.put o.dst (WV z)) w) : wpList Tryz.prog ops Q (o :: rest) a w :=
  ldB hgd _ x ho hK hx Tryz.underlying261 rfl wd_size h
theorem res_wd_tmp {fn : Func} {p q : Tmp} (h : fn.results = #[.cell p 261, .tmp q]) {tmps : Array Value} {w : World} {g : Nat} {z : Int} (hK : Bk w g 261 (wdA z))
    (hp : tmps.getD p undef = .pointer (some ⟨g, 0, none⟩)) : (results fn tmps).run Tryz.prog w = .ok (.tuple #[WV z, tmps.getD q undef]) w :=
  res_cell_tmp h hK hp Tryz.underlying261 rfl wd_size
theorem res_wd {fn : Func} {p : Tmp} (h : fn.results = #[.cell p 261]) {tmps : Array Value} {w : World} {g : Nat} {z : Int} (hK : Bk w g 261 (wdA z))
    (hp : tmps.getD p undef = .pointer (some ⟨g, 0, none⟩)) : (results fn tmps).run Tryz.prog w = .ok (WV z) w :=
  res_cell h hK hp Tryz.underlying261 rfl wd_size
theorem wd0 : wdA 0 = #[.int .i64 0, .int .u64 0] := by rw [show wdA 0 = #[.int .i64 (hi6 0), .int .u64 (lo6 0)] from rfl, hi0, lo0]
set_option maxHeartbeats 1000000 in
theorem wsigned_any (z : Int) (neg : Bool) (w : World) (h0 : 0 ≤ z) (h1 : Wd z) : Calls Tryz.prog 272 #[SV z, .bool neg] w fun e w' => e = .returned (.tuple #[WV (if neg = true then -z else z), .bool true]) ∧ Below w.heap.size w w' := by
  have hL := ((Lie.start w).alloc (szA z) 325).alloc #[.int .i64 0, .int .u64 0] 261
  simp only [World.size_alloc] at hL
  cases neg
  · go_enter Tryz.func272, Tryz.ntmps272
    go_wp2_with (first
      | (go_at_call 282; (with_reducible refine (wplus_any z _ h0 h1).mono ?_); rintro e w1 ⟨rfl, hb1⟩; have hL1 := hL.nx hb1; have k1 : Bk w1 (w.heap.size + 1) 261 #[.int .i64 0, .int .u64 0] := hL1.k 0 (by simp))
      | (refine stWd rfl _ _ rfl k1 rfl rfl rfl ?_; intro w2 k2 hg2 hs2))
    refine bodyPost_ret (res_wd_tmp rfl k2 rfl) rfl ?_
    exact ⟨rfl, below_of_gb hL1.bel hg2 (by omega) hL1.sz⟩
  · go_enter Tryz.func272, Tryz.ntmps272
    go_wp2_with (first
      | (go_at_call 283; (with_reducible refine (wminus_any z _ h0 h1).mono ?_); rintro e w1 ⟨rfl, hb1⟩; have hL1 := hL.nx hb1; have k1 : Bk w1 (w.heap.size + 1) 261 #[.int .i64 0, .int .u64 0] := hL1.k 0 (by simp))
      | (refine stWd rfl _ _ rfl k1 rfl rfl rfl ?_; intro w2 k2 hg2 hs2))
    refine bodyPost_ret (res_wd_tmp rfl k2 rfl) rfl ?_
    exact ⟨rfl, below_of_gb hL1.bel hg2 (by omega) hL1.sz⟩
namespace Mul64
theorem maskN (a : Nat) (ha : a < 18446744073709551616) : bits .and .u64 (a : Int) 4294967295 = ((a % 4294967296 : Nat) : Int) := by
  have h := bits_and_u64_nat a 4294967295 ha (by omega)
  have e : a &&& 4294967295 = a % 4294967296 := Nat.and_two_pow_sub_one_eq_mod a 32
  rw [e] at h
  exact h
theorem divN (a : Nat) : (a : Int) / 4294967296 = ((a / 4294967296 : Nat) : Int) := by omega
theorem mulN (a b : Nat) : (a : Int) * (b : Int) = ((a * b : Nat) : Int) := (Int.natCast_mul a b).symm
theorem addN (a b : Nat) : (a : Int) + (b : Int) = ((a + b : Nat) : Int) := (Int.natCast_add a b).symm
theorem wrapN (a : Nat) (ha : a < 18446744073709551616) : IntKind.u64.wrap (a : Int) = (a : Int) := by rw [IntKind.wrap_u64]; omega
theorem wrapM (a : Nat) : IntKind.u64.wrap (a : Int) = ((a % 18446744073709551616 : Nat) : Int) := by rw [IntKind.wrap_u64]; omega
end Mul64
set_option maxHeartbeats 1000000 in
theorem mul64_any (x y : Nat) (hx : x < 18446744073709551616) (hy : y < 18446744073709551616) (w : World) :
    Calls Tryz.prog 271 #[.int .u64 x, .int .u64 y] w fun e w' => e = .returned (.tuple #[.int .u64 ((x * y / 18446744073709551616 : Nat) : Int), .int .u64 ((x * y % 18446744073709551616 : Nat) : Int)]) ∧ w = w' := by
  obtain ⟨bd, bt, bw, hhi⟩ := Lib.mul64_hi x y hx hy
  have ba := Lib.half_mul_le (a := x / 4294967296) (b := y / 4294967296) (by omega) (by omega)
  have bb := Lib.half_mul_le (a := x / 4294967296) (b := y % 4294967296) (by omega) (by omega)
  have bc := Lib.half_mul_le (a := x % 4294967296) (b := y / 4294967296) (by omega) (by omega)
  have ba' : x / 4294967296 * (y / 4294967296) < 18446744073709551616 := by omega
  have bb' : x / 4294967296 * (y % 4294967296) < 18446744073709551616 := by omega
  have bc' : x % 4294967296 * (y / 4294967296) < 18446744073709551616 := by omega
  have bh1 : x / 4294967296 * (y / 4294967296) + (x / 4294967296 * (y % 4294967296) + x % 4294967296 * (y % 4294967296) / 4294967296) / 4294967296 < 18446744073709551616 := by omega
  have bh : x / 4294967296 * (y / 4294967296) + (x / 4294967296 * (y % 4294967296) + x % 4294967296 * (y % 4294967296) / 4294967296) / 4294967296 + ((x / 4294967296 * (y % 4294967296) + x % 4294967296 * (y % 4294967296) / 4294967296) % 4294967296 + x % 4294967296 * (y / 4294967296)) / 4294967296 < 18446744073709551616 := by omega
  go_enter Tryz.func271, Tryz.ntmps271
  go_wp2
  simp only [Mul64.maskN x hx, Mul64.maskN y hy, Mul64.divN, Mul64.mulN, Mul64.addN, Mul64.wrapN _ bd, Mul64.wrapN _ bb', Mul64.wrapN _ bt, Mul64.maskN _ bt, Mul64.wrapN _ bc', Mul64.wrapN _ bw, Mul64.wrapN _ ba', Mul64.wrapN _ bh1, Mul64.wrapN _ bh, Mul64.wrapM (x * y)]
  rw [hhi]
  go_ret2
  exact ⟨rfl, rfl⟩
theorem mul64_i {x y : Int} (hx : 0 ≤ x) (hy : 0 ≤ y) (hx2 : x < 18446744073709551616) (hy2 : y < 18446744073709551616) (w : World) :
    Calls Tryz.prog 271 #[.int .u64 x, .int .u64 y] w fun e w' => e = .returned (.tuple #[.int .u64 (hi6 (x * y)), .int .u64 (lo6 (x * y))]) ∧ w = w' := by
  obtain ⟨x, rfl⟩ := Int.eq_ofNat_of_zero_le hx
  obtain ⟨y, rfl⟩ := Int.eq_ofNat_of_zero_le hy
  refine (mul64_any x y (by omega) (by omega) w).mono fun e w' ⟨h1, h2⟩ => ⟨?_, h2⟩
  rw [h1]
  have e1 : ((x * y / 18446744073709551616 : Nat) : Int) = hi6 ((x : Int) * y) := by unfold hi6; rw [← Int.natCast_mul]; omega
  have e2 : ((x * y % 18446744073709551616 : Nat) : Int) = lo6 ((x : Int) * y) := by unfold lo6; rw [← Int.natCast_mul]; omega
  rw [e1, e2]
theorem ab_bd {x : Int} (h : J64 x) : 0 ≤ ab x ∧ ab x ≤ 9223372036854775808 := by unfold ab; unfold J64 at h; split <;> omega
theorem ab_mul (a b : Int) : (if (!(decide (a < 0) == decide (b < 0))) = true then -(ab a * ab b) else ab a * ab b) = a * b := by
  unfold ab
  by_cases h1 : a < 0 <;> by_cases h2 : b < 0 <;> simp [h1, h2, Int.neg_mul, Int.mul_neg]
theorem prod_le {x y : Int} (hx : 0 ≤ x) (hx2 : x ≤ 9223372036854775808) (hy : 0 ≤ y) (hy2 : y ≤ 9223372036854775808) : 0 ≤ x * y ∧ x * y ≤ 85070591730234615865843651857942052864 := by
  constructor
  · exact Int.mul_nonneg hx hy
  · have := Int.mul_le_mul hx2 hy2 hy (by omega : (0:Int) ≤ 9223372036854775808)
    omega
set_option maxRecDepth 100000 in
set_option maxHeartbeats 4000000 in
theorem wmul_any (a b : Int) (w : World) (ha : J64 a) (hb : J64 b) :
    Calls Tryz.prog 250 #[.int .i64 a, .int .i64 b] w fun e w' => e = .returned (WV (a * b)) ∧ Below w.heap.size w w' := by
  have hA := fun w' => wabs_any a w' ha
  have hB := fun w' => wabs_any b w' hb
  obtain ⟨x0, x1⟩ := ab_bd ha
  obtain ⟨y0, y1⟩ := ab_bd hb
  have hM := fun w' => mul64_i x0 y0 (by omega) (by omega) w'
  obtain ⟨p0, p1⟩ := prod_le x0 x1 y0 y1
  have hS := fun w' => (wsigned_any (ab a * ab b) (!(decide (a < 0) == decide (b < 0))) w' p0 ⟨by omega, by omega⟩).mono (R' := fun e w'' => e = .returned (.tuple #[WV (a * b), .bool true]) ∧ Below w'.heap.size w' w'') fun e w'' ⟨h1, h2⟩ => ⟨by rw [h1, ab_mul], h2⟩
  have hL := (Lie.start w).alloc #[.int .i64 0, .int .u64 0] 261
  clear ha hb x0 x1 y0 y1 p0 p1
  generalize decide (a < 0) = da at *
  generalize decide (b < 0) = db at *
  generalize ab a = xa at *
  generalize ab b = xb at *
  generalize xa * xb = pp at *
  generalize hr : a * b = r at *
  clear hr
  go_enter Tryz.func250, Tryz.ntmps250
  go_wp2_with fail
  refine (hA _).mono ?_
  rintro e w1 ⟨rfl, rfl⟩
  go_wp2_with fail
  refine (hB _).mono ?_
  rintro e w1 ⟨rfl, rfl⟩
  go_wp2_with fail
  refine (hM _).mono ?_
  rintro e w1 ⟨rfl, rfl⟩
  go_wp2_with (first
    | (go_at_call 272; (with_reducible refine (hS _).mono ?_); rintro e w1 ⟨rfl, hb1⟩; have hL1 := (hL.nx hb1).alloc (wdA r) 261; have k1 : Bk _ w.heap.size 261 #[.int .i64 0, .int .u64 0] := hL1.k 1 (by simp))
    | (refine stWd rfl _ _ rfl k1 rfl rfl rfl ?_; intro w2 k2 hg2 hs2))
  refine bodyPost_ret (res_wd rfl k2 rfl) rfl ?_
  exact ⟨rfl, below_of_gb hL1.bel hg2 (by omega) hL1.sz⟩
theorem apart_facts {a : Int} (ha : Wd a) (hn : a < 0) : ∃ ua c : Int, IntKind.u64.wrap (hi6 a) = ua ∧
    (∀ w, (callFunc 280 #[.int .u64 0, .int .u64 (lo6 a), .int .u64 0]).run Tryz.prog w = .ok (.value (.tuple #[.int .u64 (lo6 (ab a)), .int .u64 c])) w) ∧
    (∃ d, ∀ w, (callFunc 280 #[.int .u64 0, .int .u64 ua, .int .u64 c]).run Tryz.prog w = .ok (.value (.tuple #[.int .u64 (hi6 (ab a)), .int .u64 d])) w) := by
  have e : ab a = -a := by unfold ab; rw [if_pos hn]
  rw [e]
  unfold Wd at ha
  refine ⟨_, if 0 < lo6 a then 1 else 0, uw _, fun w => run_sub' (by omega) (by unfold lo6; omega) (by omega) (by unfold lo6; omega) (by omega) (by omega) (by unfold lo6; omega) (by rw [Int.add_zero]) w, _, fun w => run_sub' (by omega) (by omega) (by omega) (by omega) (by split <;> omega) (by split <;> omega) (by unfold lo6 hi6; split <;> omega) rfl w⟩
set_option maxRecDepth 100000 in
set_option maxHeartbeats 4000000 in
theorem apart_any (a : Int) (w : World) (ha : Wd a) : Calls Tryz.prog 285 #[WV a] w fun e w' => e = .returned (.tuple #[SV (ab a), .bool (decide (a < 0))]) ∧ Below w.heap.size w w' := by
  by_cases hn : a < 0
  · obtain ⟨ua, c, e1, e2, d, e3⟩ := apart_facts ha hn
    have hd := decide_eq_true hn
    have h1 := (wh a).s.2 hn
    clear ha hn
    go_enter Tryz.func285, Tryz.ntmps285
    go_wp2
    go_returns
    exact ⟨by rw [hd], by go_grown⟩
  · have hd := decide_eq_false hn
    have h1 : 0 ≤ hi6 a := by unfold hi6; omega
    have e1 : IntKind.u64.wrap (hi6 a) = hi6 (ab a) := by rw [uw]; unfold ab; rw [if_neg hn]; unfold hi6; unfold Wd at ha; omega
    have e2 : lo6 a = lo6 (ab a) := by unfold ab; rw [if_neg hn]
    have E2 := Lib.hid e2
    clear ha hn e2
    go_enter Tryz.func285, Tryz.ntmps285
    go_wp2
    go_returns
    exact ⟨by rw [hd]; show _ = Ending.returned (.tuple #[.agg #[.int .u64 (hi6 (ab a)), .int .u64 (lo6 (ab a))], .bool false]); rw [← E2.out], by go_grown⟩
end Go.Proofs.YtlbiiljncacdoaaGreat
