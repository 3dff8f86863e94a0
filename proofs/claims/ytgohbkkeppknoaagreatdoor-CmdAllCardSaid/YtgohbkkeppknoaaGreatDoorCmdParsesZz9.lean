/- Several texts in one: Texts parted: a sign, a point. Sums and differences of 64 bits; wide numbers: what they are, sums, differences, signs. Wide numbers: differences, sizes, products. -/
import Derived.Test.YtgohbkkeppknoaaGreatDoorCmdParsesZz8
import Derived.Lib.IndexLaws
import Derived.Test.YtgohbkkeppknoaaGreatDoorCmdParsesZz1
import Derived.Laws.Externs
import Derived.Shelf.Spec.BitsCarry
import Derived.Lib.Mul64
import Derived.Laws.Bits64b
import Derived.Test.YtgohbkkeppknoaaGreatDoorCmdParsesZz7
section
set_option linter.unusedVariables false
namespace Go.Proofs.YtgohbkkeppknoaaGreatDoor
open Go.RowKit
theorem bl_mk (l : List UInt8) : bl ⟨l.toArray⟩ = l := rfl
theorem mk_bl (s : ByteArray) : (⟨(bl s).toArray⟩ : ByteArray) = s := by
  cases s with
  | mk d => simp [bl]
theorem ext_eq (s : ByteArray) (i j : Nat) : s.extract i j = ⟨(((bl s).drop i).take (j - i)).toArray⟩ := Lib.extract_eq s i j
theorem bl_of {s : ByteArray} {l : List UInt8} (h : bl s = l) : s = ⟨l.toArray⟩ := by rw [← h, mk_bl]
set_option maxRecDepth 100000 in
set_option maxHeartbeats 4000000 in
theorem hasP_any (s : ByteArray) (w : World) : Calls Tryz.prog 168 #[.string s, .string ⟨#[45]⟩] w fun e w' => e = .returned (.bool (neg? (bl s))) ∧ w = w' := by
  cases h : bl s with
  | nil =>
    have hs := bl_of h
    subst hs
    go_enter Tryz.func168, Tryz.ntmps168
    go_wp2_with fail
    go_returns
    exact ⟨rfl, rfl⟩
  | cons c r =>
    have hz : s.size = r.length + 1 := by rw [← bl_len, h]; rfl
    have he : s.extract 0 1 = ⟨#[c]⟩ := by rw [ext_eq, h]; rfl
    have hz1 : (1 : Int) ≤ (s.size : Int) := by omega
    have HN : Hid (neg? (c :: r) = decide (c = 45)) := by show _ = _; unfold neg?; simp
    have HC : Hid (((⟨#[c]⟩ : ByteArray).toList == [45]) = decide (c = 45)) := by
      show _ = _
      rw [ByteArray.toList_eq]
      by_cases e : c = 45
      · subst e; rfl
      · rw [decide_eq_false e]
        simp [e]
    clear h
    by_cases e : c = 45
    · subst e
      clear HC
      go_enter Tryz.func168, Tryz.ntmps168
      go_wp2_with fail
      go_returns
      exact ⟨by rw [HN.out]; rfl, rfl⟩
    · have HC2 := HC.out
      rw [decide_eq_false e] at HC2
      have HN2 : Hid (neg? (c :: r) = false) := by show _ = _; rw [HN.out, decide_eq_false e]
      clear HC HN
      generalize (⟨#[c]⟩ : ByteArray) = C at *
      go_enter Tryz.func168, Tryz.ntmps168
      go_wp2_with fail
      go_returns
      exact ⟨by rw [HN2.out]; rfl, rfl⟩
set_option maxRecDepth 100000 in
set_option maxHeartbeats 4000000 in
theorem icutP_any (s : ByteArray) (w : World) : Calls Tryz.prog 260 #[.string s, .string ⟨#[45]⟩] w fun e w' => e = .returned (.tuple #[strV (unsg (bl s)), .bool (neg? (bl s))]) ∧ w = w' := by
  have hH := fun w' => hasP_any s w'
  cases h : neg? (bl s) with
  | false =>
    have hu : Hid (unsg (bl s) = bl s) := by
      show _ = _
      unfold unsg
      rw [if_neg (by unfold neg? at h; simpa using h)]
    rw [h] at hH
    go_enter Tryz.func260, Tryz.ntmps260
    go_wp2_with (go_at_call 168; (with_reducible refine (hH _).mono ?_); rintro e w1 ⟨rfl, rfl⟩)
    go_returns
    exact ⟨by rw [hu.out]; show Ending.returned (.tuple #[.string s, .bool false]) = .returned (.tuple #[.string ⟨(bl s).toArray⟩, .bool false]); rw [mk_bl], rfl⟩
  | true =>
    rw [h] at hH
    have hh : (bl s).head? = some 45 := by unfold neg? at h; simpa using h
    have hz : 1 ≤ s.size := by
      rw [← bl_len]
      cases hb : bl s with
      | nil => rw [hb] at hh; cases hh
      | cons c r => simp
    have he : s.extract 1 s.size = ⟨(unsg (bl s)).toArray⟩ := by
      rw [ext_eq]
      unfold unsg
      rw [if_pos hh, ← bl_len]
      cases hb : bl s with
      | nil => rw [hb] at hh; cases hh
      | cons c r => simp
    generalize hT : (⟨(unsg (bl s)).toArray⟩ : ByteArray) = T at *
    have HT := Lib.hid hT
    clear hT
    have hz1 : (1 : Int) ≤ (s.size : Int) := by omega
    clear hh h
    go_enter Tryz.func260, Tryz.ntmps260
    go_wp2_with (go_at_call 168; (with_reducible refine (hH _).mono ?_); rintro e w1 ⟨rfl, rfl⟩)
    go_returns
    exact ⟨by show Ending.returned (.tuple #[.string T, .bool true]) = .returned (.tuple #[.string ⟨(unsg (bl s)).toArray⟩, .bool true]); rw [HT.out], rfl⟩
theorem cutP_any (s : ByteArray) (w : World) : Calls Tryz.prog 183 #[.string s, .string ⟨#[45]⟩] w fun e w' => e = .returned (.tuple #[strV (unsg (bl s)), .bool (neg? (bl s))]) ∧ w = w' := by
  have hH := fun w' => icutP_any s w'
  go_enter Tryz.func183, Tryz.ntmps183
  go_wp2_with (go_at_call 260; (with_reducible refine (hH _).mono ?_); rintro e w1 ⟨rfl, rfl⟩)
  go_returns
  exact ⟨rfl, rfl⟩
theorem cutD_none : ∀ {l : List UInt8}, Lib.indexByte l 46 = -1 → cutD l = (l, none)
  | [], _ => rfl
  | b :: r, h => by
    unfold Lib.indexByte at h
    by_cases hb : b = 46
    · subst hb; simp at h
    · have hb' : (b == 46) = false := by simpa using hb
      rw [hb'] at h
      simp only [Bool.false_eq_true, if_false] at h
      have h2 : Lib.indexByte r 46 = -1 := by
        have := Lib.indexByte_ge r 46
        by_cases h3 : (Lib.indexByte r 46 == -1) = true
        · simpa using h3
        · rw [if_neg h3] at h; omega
      simp only [cutD, if_neg hb, cutD_none h2]
theorem cutD_some : ∀ {l : List UInt8} {k : Nat}, Lib.indexByte l 46 = k → cutD l = (l.take k, some (l.drop (k + 1)))
  | [], k, h => by simp [Lib.indexByte] at h <;> omega
  | b :: r, k, h => by
    unfold Lib.indexByte at h
    by_cases hb : b = 46
    · subst hb
      simp at h
      obtain rfl : k = 0 := by omega
      simp [cutD]
    · have hb' : (b == 46) = false := by simpa using hb
      rw [hb'] at h
      simp only [Bool.false_eq_true, if_false] at h
      by_cases h3 : (Lib.indexByte r 46 == -1) = true
      · rw [if_pos h3] at h; omega
      · rw [if_neg h3] at h
        obtain ⟨j, rfl⟩ : ∃ j, k = j + 1 := ⟨k - 1, by have := Lib.indexByte_ge r 46; have h4 : Lib.indexByte r 46 ≠ -1 := (by simpa using h3); omega⟩
        have ih := cutD_some (l := r) (k := j) (by omega)
        simp only [cutD, if_neg hb, ih]
        simp
set_option maxRecDepth 100000 in
set_option maxHeartbeats 4000000 in
theorem icut_any (s : ByteArray) (hs : s.size ≤ 1000000) (w : World) : Calls Tryz.prog 261 #[.string s, .string ⟨#[46]⟩] w fun e w' => e = .returned (.tuple #[strV (cutD (bl s)).1, strV ((cutD (bl s)).2.getD []), .bool (cutD (bl s)).2.isSome]) ∧ Below w.heap.size w w' := by
  have hI : ∀ w', Calls Tryz.prog 312 #[.string s, .string ⟨#[46]⟩] w' fun e w'' => e = .returned (.int .i64 (Lib.indexByte (bl s) 46)) ∧ w'' = w' := fun w' => Any.stringslite_Index_one { idxI with } s 46 w'
  have hge := Lib.indexByte_ge (bl s) 46
  by_cases h : Lib.indexByte (bl s) 46 = -1
  · have hc := Lib.hid (cutD_none h)
    rw [h] at hI
    go_enter Tryz.func261, Tryz.ntmps261
    go_wp2_with (go_at_call 312; (with_reducible refine (hI _).mono ?_); rintro e w1 ⟨rfl, rfl⟩)
    go_returns
    exact ⟨by rw [hc.out]; show Ending.returned (.tuple #[.string s, .string ⟨#[]⟩, .bool false]) = .returned (.tuple #[.string ⟨(bl s).toArray⟩, .string ⟨#[]⟩, .bool false]); rw [mk_bl], Below.refl _ _⟩
  · obtain ⟨k, hk⟩ : ∃ k : Nat, Lib.indexByte (bl s) 46 = k := ⟨(Lib.indexByte (bl s) 46).toNat, by omega⟩
    have hc := Lib.hid (cutD_some hk)
    have hlt : k < s.size := by
      have := (Lib.indexByte_some hk).1
      rw [← bl_len]
      exact (List.getElem?_eq_some_iff.1 this).1
    rw [hk] at hI
    have e1 : s.extract 0 k = ⟨((bl s).take k).toArray⟩ := by rw [ext_eq]; simp
    have e2 : s.extract (k + 1) s.size = ⟨((bl s).drop (k + 1)).toArray⟩ := by
      rw [ext_eq, List.take_of_length_le (by rw [List.length_drop, bl_len]; exact Nat.le_refl _)]
    have HE : Hid ((⟨((bl s).take k).toArray⟩ : ByteArray) = ⟨((bl s).take k).toArray⟩) := rfl
    generalize h1 : (⟨((bl s).take k).toArray⟩ : ByteArray) = T1 at *
    generalize h2 : (⟨((bl s).drop (k + 1)).toArray⟩ : ByteArray) = T2 at *
    have H1 := Lib.hid h1
    have H2 := Lib.hid h2
    have c1 : (0 : Int) ≤ (k : Int) := by omega
    have c2 : (k : Int) ≤ (s.size : Int) := by omega
    have c3 : (0 : Int) ≤ (k : Int) + 1 := by omega
    have v1 : IntKind.i64.wrap ((k : Int) + 1) = (k : Int) + 1 := IntWalk.i64_in _ ⟨by omega, by omega⟩
    have c4 : (k : Int) + 1 ≤ (s.size : Int) := by omega
    clear h hge hk h1 h2 HE
    go_enter Tryz.func261, Tryz.ntmps261
    go_wp2_with (go_at_call 312; (with_reducible refine (hI _).mono ?_); rintro e w1 ⟨rfl, rfl⟩)
    go_quiet (fail)
    go_wp2_with fail
    go_returns
    exact ⟨by rw [hc.out]; show Ending.returned (.tuple #[.string T1, .string T2, .bool true]) = .returned (.tuple #[.string ⟨((bl s).take k).toArray⟩, .string ⟨((bl s).drop (k + 1)).toArray⟩, .bool true]); rw [H1.out, H2.out], below_drewN (Below.refl _ _) nq⟩
theorem cutS_any (s : ByteArray) (hs : s.size ≤ 1000000) (w : World) : Calls Tryz.prog 184 #[.string s, .string ⟨#[46]⟩] w fun e w' => e = .returned (.tuple #[strV (cutD (bl s)).1, strV ((cutD (bl s)).2.getD []), .bool (cutD (bl s)).2.isSome]) ∧ Below w.heap.size w w' := by
  have hH := fun w' => icut_any s hs w'
  generalize (cutD (bl s)).2.isSome = b at *
  generalize (⟨((cutD (bl s)).1).toArray⟩ : ByteArray) = T1 at *
  generalize (⟨((cutD (bl s)).2.getD []).toArray⟩ : ByteArray) = T2 at *
  go_enter Tryz.func184, Tryz.ntmps184
  go_wp2_with (go_at_call 261; (with_reducible refine (hH _).mono ?_); rintro e w1 ⟨rfl, hb1⟩)
  go_returns
  exact ⟨rfl, hb1⟩
end Go.Proofs.YtgohbkkeppknoaaGreatDoor
end
section
set_option linter.unusedVariables false
namespace Go.Proofs.YtgohbkkeppknoaaGreatDoor
open Go.RowKit
theorem run_add (x y c : Int) (hx : 0 ≤ x) (hy : 0 ≤ y) (hc0 : 0 ≤ c) (hc : c ≤ 1) (w : World) :
    (callFunc 265 #[.int .u64 x, .int .u64 y, .int .u64 c]).run Tryz.prog w = .ok (.value (.tuple #[.int .u64 ((x + y + c) % 18446744073709551616), .int .u64 ((x + y + c) / 18446744073709551616)])) w := by
  rw [run_callFunc_extern Tryz.func265 (by kernel_rfl) (by kernel_rfl) (by kernel_rfl) (e := add64Entry) (by kernel_rfl), run_add64 x y c hx hy hc0 hc]
  rfl
theorem run_subN (x y c : Nat) (hc : c ≤ 1) (w : World) :
    (callFunc 318 #[.int .u64 x, .int .u64 y, .int .u64 c]).run Tryz.prog w = .ok (.value (.tuple #[.int .u64 (((x + 18446744073709551616 - y - c) % 18446744073709551616 : Nat) : Int), .int .u64 ((if x < y + c then 1 else 0 : Nat) : Int)])) w := by
  rw [run_callFunc_extern Tryz.func318 (by kernel_rfl) (by kernel_rfl) (by kernel_rfl) (e := sub64Entry) (by kernel_rfl), run_sub64 x y c hc]
  rfl
theorem run_add' {x y c s d : Int} (hx : 0 ≤ x) (hy : 0 ≤ y) (hc0 : 0 ≤ c) (hc : c ≤ 1) (hs : (x + y + c) % 18446744073709551616 = s) (hd : (x + y + c) / 18446744073709551616 = d) (w : World) :
    (callFunc 265 #[.int .u64 x, .int .u64 y, .int .u64 c]).run Tryz.prog w = .ok (.value (.tuple #[.int .u64 s, .int .u64 d])) w := by
  rw [run_add x y c hx hy hc0 hc w, hs, hd]
theorem run_sub' {x y c s d : Int} (hx : 0 ≤ x) (hy : 0 ≤ y) (hx2 : x < 18446744073709551616) (hy2 : y < 18446744073709551616) (hc0 : 0 ≤ c) (hc : c ≤ 1) (hs : (x - y - c) % 18446744073709551616 = s) (hd : (if x < y + c then 1 else 0 : Int) = d) (w : World) :
    (callFunc 318 #[.int .u64 x, .int .u64 y, .int .u64 c]).run Tryz.prog w = .ok (.value (.tuple #[.int .u64 s, .int .u64 d])) w := by
  obtain ⟨x, rfl⟩ := Int.eq_ofNat_of_zero_le hx
  obtain ⟨y, rfl⟩ := Int.eq_ofNat_of_zero_le hy
  obtain ⟨c, rfl⟩ := Int.eq_ofNat_of_zero_le hc0
  have e1 : (((x + 18446744073709551616 - y - c) % 18446744073709551616 : Nat) : Int) = s := by omega
  have e2 : ((if x < y + c then 1 else 0 : Nat) : Int) = d := by rw [← hd]; split <;> split <;> omega
  rw [run_subN x y c (by omega) w, e1, e2]
/-- A wide number's upper and lower half. -/
def hi6 (z : Int) : Int := z / 18446744073709551616
def lo6 (z : Int) : Int := z % 18446744073709551616
abbrev WV (z : Int) : Value := .agg #[.int .i64 (hi6 z), .int .u64 (lo6 z)]
/-- A wide number has room. -/
def Wd (z : Int) : Prop := -170141183460469231731687303715884105728 ≤ z ∧ z < 170141183460469231731687303715884105728
def J64 (z : Int) : Prop := -9223372036854775808 ≤ z ∧ z < 9223372036854775808
/-- What the walk wants to know of a wide number's halves. -/
structure WH (z : Int) : Prop where
  l0 : 0 ≤ lo6 z
  s : hi6 z < 0 ↔ z < 0
theorem wh (z : Int) : WH z := ⟨by unfold lo6; omega, by unfold hi6; omega⟩
theorem hi_bd {z : Int} (h : Wd z) : J64 (hi6 z) := by unfold Wd at h; unfold J64 hi6; omega
theorem hi0 : hi6 0 = 0 := by decide
theorem lo0 : lo6 0 = 0 := by decide
theorem uw (x : Int) : IntKind.u64.wrap x = x % 18446744073709551616 := by rw [IntKind.wrap_u64]
theorem w64 (x : Int) : wrap64 x = (x + 9223372036854775808) % 18446744073709551616 - 9223372036854775808 := by unfold wrap64; rfl
set_option maxHeartbeats 1000000 in
theorem wof_any (x : Int) (w : World) (hx : J64 x) : Calls Tryz.prog 189 #[.int .i64 x] w fun e w' => e = .returned (WV x) ∧ Below w.heap.size w w' := by
  have e1 : IntKind.u64.wrap x = lo6 x := by rw [uw]; rfl
  have e2 : x / 9223372036854775808 = hi6 x := by unfold hi6; unfold J64 at hx; omega
  have e3 : x >>> 63 = hi6 x := by rw [Int.shiftRight_eq_div_pow]; exact e2
  clear hx
  go_enter Tryz.func189, Tryz.ntmps189
  go_wp2
  go_returns
  exact ⟨rfl, by go_grown⟩
def sgn (z : Int) : Int := if z < 0 then -1 else if z = 0 then 0 else 1
set_option maxHeartbeats 1000000 in
theorem wsign_any (z : Int) (w : World) : Calls Tryz.prog 301 #[WV z] w fun e w' => e = .returned (.int .i64 (sgn z)) ∧ Below w.heap.size w w' := by
  rcases Int.lt_trichotomy z 0 with h | rfl | h
  · have HS := Lib.hid (show sgn z = -1 by unfold sgn; rw [if_pos h])
    have h1 := (wh z).s.2 h
    clear h
    go_enter Tryz.func301, Tryz.ntmps301
    go_wp2
    go_returns
    exact ⟨ret_int HS.out.symm, by go_grown⟩
  · have h1 := hi0
    have h2 := lo0
    go_enter Tryz.func301, Tryz.ntmps301
    go_wp2
    go_returns
    exact ⟨ret_int (by rfl), by go_grown⟩
  · have HS := Lib.hid (show sgn z = 1 by unfold sgn; rw [if_neg (by omega), if_neg (by omega)])
    have h1 : ¬ hi6 z < 0 := fun k => by have := (wh z).s.1 k; omega
    by_cases h2 : 0 < hi6 z
    · clear h
      go_enter Tryz.func301, Tryz.ntmps301
      go_wp2
      go_returns
      exact ⟨ret_int HS.out.symm, by go_grown⟩
    · have h3 : 0 < lo6 z := by unfold hi6 lo6 at *; omega
      clear h
      go_enter Tryz.func301, Tryz.ntmps301
      go_wp2
      go_returns
      exact ⟨ret_int HS.out.symm, by go_grown⟩
theorem add_facts {a b : Int} (ha : Wd a) (hb : Wd b) (hs : Wd (a + b)) : ∃ ua ub c uh d : Int, IntKind.u64.wrap (hi6 a) = ua ∧ IntKind.u64.wrap (hi6 b) = ub ∧
    (∀ w, (callFunc 265 #[.int .u64 (lo6 a), .int .u64 (lo6 b), .int .u64 0]).run Tryz.prog w = .ok (.value (.tuple #[.int .u64 (lo6 (a + b)), .int .u64 c])) w) ∧
    (∀ w, (callFunc 265 #[.int .u64 ua, .int .u64 ub, .int .u64 c]).run Tryz.prog w = .ok (.value (.tuple #[.int .u64 uh, .int .u64 d])) w) ∧ wrap64 uh = hi6 (a + b) := by
  unfold Wd at ha hb hs
  refine ⟨_, _, (lo6 a + lo6 b) / 18446744073709551616, (hi6 a % 18446744073709551616 + hi6 b % 18446744073709551616 + (lo6 a + lo6 b) / 18446744073709551616) % 18446744073709551616, (hi6 a % 18446744073709551616 + hi6 b % 18446744073709551616 + (lo6 a + lo6 b) / 18446744073709551616) / 18446744073709551616, uw _, uw _, fun w => run_add' (by unfold lo6; omega) (by unfold lo6; omega) (by omega) (by omega) (by unfold lo6; omega) (by rw [Int.add_zero]) w, fun w => run_add' (by omega) (by omega) (by unfold lo6; omega) (by unfold lo6; omega) rfl rfl w, ?_⟩
  rw [w64]; unfold lo6 hi6; omega
set_option maxRecDepth 100000 in
set_option maxHeartbeats 4000000 in
theorem wadd_any (a b : Int) (w : World) (ha : Wd a) (hb : Wd b) (hs : Wd (a + b)) :
    Calls Tryz.prog 188 #[WV a, WV b] w fun e w' => e = .returned (.tuple #[WV (a + b), .bool true]) ∧ Below w.heap.size w w' := by
  obtain ⟨ua, ub, c, uh, d, e1, e2, e3, e4, e5⟩ := add_facts ha hb hs
  have ka := (wh a).s
  have kb := (wh b).s
  have ks := (wh (a + b)).s
  have hor : (hi6 a < 0 ∧ 0 ≤ hi6 b) ∨ (0 ≤ hi6 a ∧ hi6 b < 0) ∨ (hi6 a < 0 ∧ hi6 b < 0 ∧ hi6 (a + b) < 0) ∨ (0 ≤ hi6 a ∧ 0 ≤ hi6 b ∧ 0 ≤ hi6 (a + b)) := by omega
  clear ka kb ks ha hb hs
  rcases hor with ⟨h1, h2⟩ | ⟨h1, h2⟩ | ⟨h1, h2, h3⟩ | ⟨h1, h2, h3⟩
  all_goals
    first | have d1 : decide (hi6 a < 0) = true := decide_eq_true h1 | have d1 : decide (hi6 a < 0) = false := decide_eq_false (by omega)
    first | have d2 : decide (hi6 b < 0) = true := decide_eq_true h2 | have d2 : decide (hi6 b < 0) = false := decide_eq_false (by omega)
    first | have d3 : decide (hi6 (a + b) < 0) = true := decide_eq_true h3 | have d3 : decide (hi6 (a + b) < 0) = false := decide_eq_false (by omega) | have d3 : True := trivial
    go_enter Tryz.func188, Tryz.ntmps188
    go_wp2
    go_returns
    exact ⟨rfl, by go_grown⟩
end Go.Proofs.YtgohbkkeppknoaaGreatDoor
end
section
set_option linter.unusedVariables false
namespace Go.Proofs.YtgohbkkeppknoaaGreatDoor
open Go.RowKit
theorem sub_facts {a b : Int} (ha : Wd a) (hb : Wd b) (hs : Wd (a - b)) : ∃ ua ub c uh d : Int, IntKind.u64.wrap (hi6 a) = ua ∧ IntKind.u64.wrap (hi6 b) = ub ∧
    (∀ w, (callFunc 318 #[.int .u64 (lo6 a), .int .u64 (lo6 b), .int .u64 0]).run Tryz.prog w = .ok (.value (.tuple #[.int .u64 (lo6 (a - b)), .int .u64 c])) w) ∧
    (∀ w, (callFunc 318 #[.int .u64 ua, .int .u64 ub, .int .u64 c]).run Tryz.prog w = .ok (.value (.tuple #[.int .u64 uh, .int .u64 d])) w) ∧ wrap64 uh = hi6 (a - b) := by
  unfold Wd at ha hb hs
  refine ⟨_, _, if lo6 a < lo6 b then 1 else 0, (hi6 a % 18446744073709551616 - hi6 b % 18446744073709551616 - (if lo6 a < lo6 b then 1 else 0)) % 18446744073709551616, _, uw _, uw _, fun w => run_sub' (by unfold lo6; omega) (by unfold lo6; omega) (by unfold lo6; omega) (by unfold lo6; omega) (by omega) (by omega) (by unfold lo6; omega) (by rw [Int.add_zero]) w, fun w => run_sub' (by omega) (by omega) (by omega) (by omega) (by split <;> omega) (by split <;> omega) rfl rfl w, ?_⟩
  rw [w64]; unfold lo6 hi6; split <;> omega
set_option maxRecDepth 100000 in
set_option maxHeartbeats 4000000 in
theorem wsub_any (a b : Int) (w : World) (ha : Wd a) (hb : Wd b) (hs : Wd (a - b)) :
    Calls Tryz.prog 266 #[WV a, WV b] w fun e w' => e = .returned (.tuple #[WV (a - b), .bool true]) ∧ Below w.heap.size w w' := by
  obtain ⟨ua, ub, c, uh, d, e1, e2, e3, e4, e5⟩ := sub_facts ha hb hs
  have ka := (wh a).s
  have kb := (wh b).s
  have ks := (wh (a - b)).s
  have hor : (hi6 a < 0 ∧ hi6 b < 0) ∨ (0 ≤ hi6 a ∧ 0 ≤ hi6 b) ∨ (hi6 a < 0 ∧ 0 ≤ hi6 b ∧ hi6 (a - b) < 0) ∨ (0 ≤ hi6 a ∧ hi6 b < 0 ∧ 0 ≤ hi6 (a - b)) := by omega
  clear ka kb ks ha hb hs
  rcases hor with ⟨h1, h2⟩ | ⟨h1, h2⟩ | ⟨h1, h2, h3⟩ | ⟨h1, h2, h3⟩
  all_goals
    first | have d1 : decide (hi6 a < 0) = true := decide_eq_true h1 | have d1 : decide (hi6 a < 0) = false := decide_eq_false (by omega)
    first | have d2 : decide (hi6 b < 0) = true := decide_eq_true h2 | have d2 : decide (hi6 b < 0) = false := decide_eq_false (by omega)
    first | have d3 : decide (hi6 (a - b) < 0) = true := decide_eq_true h3 | have d3 : decide (hi6 (a - b) < 0) = false := decide_eq_false (by omega) | have d3 : True := trivial
    go_enter Tryz.func266, Tryz.ntmps266
    go_wp2
    go_returns
    exact ⟨rfl, by go_grown⟩
def ab (x : Int) : Int := if x < 0 then -x else x
theorem wabs_any (x : Int) (w : World) (hx : J64 x) : Calls Tryz.prog 262 #[.int .i64 x] w fun e w' => e = .returned (.tuple #[.int .u64 (ab x), .bool (decide (x < 0))]) ∧ w = w' := by
  by_cases h : x < 0
  · have hd := decide_eq_true h
    obtain ⟨u, hu⟩ : ∃ u, IntKind.u64.wrap x = u := ⟨_, rfl⟩
    have e2 : IntKind.u64.wrap (-u) = ab x := by rw [← hu, uw, uw]; unfold ab; rw [if_pos h]; unfold J64 at hx; omega
    clear hx
    go_enter Tryz.func262, Tryz.ntmps262
    go_wp2
    go_returns
    exact ⟨by first | rfl | (rw [hd]; rfl), rfl⟩
  · have hd := decide_eq_false h
    have e2 : IntKind.u64.wrap x = ab x := by rw [uw]; unfold ab; rw [if_neg h]; unfold J64 at hx; omega
    clear hx
    go_enter Tryz.func262, Tryz.ntmps262
    go_wp2
    go_returns
    exact ⟨by first | rfl | (rw [hd]; rfl), rfl⟩
abbrev SV (z : Int) : Value := .agg #[.int .u64 (hi6 z), .int .u64 (lo6 z)]
theorem wplus_any (z : Int) (w : World) (h0 : 0 ≤ z) (h1 : Wd z) : Calls Tryz.prog 313 #[SV z] w fun e w' => e = .returned (.tuple #[WV z, .bool true]) ∧ Below w.heap.size w w' := by
  unfold Wd at h1
  have e1 : ¬ 9223372036854775807 < hi6 z := by unfold hi6; omega
  have e2 : wrap64 (hi6 z) = hi6 z := by rw [w64]; unfold hi6; omega
  clear h0 h1
  go_enter Tryz.func313, Tryz.ntmps313
  go_wp2
  go_returns
  exact ⟨rfl, by go_grown⟩
theorem minus_facts {z : Int} (h0 : 0 ≤ z) (h1 : Wd z) : ∃ c uh d : Int,
    (∀ w, (callFunc 318 #[.int .u64 0, .int .u64 (lo6 z), .int .u64 0]).run Tryz.prog w = .ok (.value (.tuple #[.int .u64 (lo6 (-z)), .int .u64 c])) w) ∧
    (∀ w, (callFunc 318 #[.int .u64 0, .int .u64 (hi6 z), .int .u64 c]).run Tryz.prog w = .ok (.value (.tuple #[.int .u64 uh, .int .u64 d])) w) ∧ wrap64 uh = hi6 (-z) := by
  unfold Wd at h1
  refine ⟨if 0 < lo6 z then 1 else 0, (0 - hi6 z - (if 0 < lo6 z then 1 else 0)) % 18446744073709551616, _, fun w => run_sub' (by omega) (by unfold lo6; omega) (by omega) (by unfold lo6; omega) (by omega) (by omega) (by unfold lo6; omega) (by rw [Int.add_zero]) w, fun w => run_sub' (by omega) (by unfold hi6; omega) (by omega) (by unfold hi6; omega) (by split <;> omega) (by split <;> omega) rfl rfl w, ?_⟩
  rw [w64]; unfold lo6 hi6; split <;> omega
theorem wminus_any (z : Int) (w : World) (h0 : 0 ≤ z) (h1 : Wd z) : Calls Tryz.prog 314 #[SV z] w fun e w' => e = .returned (.tuple #[WV (-z), .bool true]) ∧ Below w.heap.size w w' := by
  obtain ⟨c, uh, d, e3, e4, e5⟩ := minus_facts h0 h1
  unfold Wd at h1
  have e1 : ¬ 9223372036854775808 < hi6 z := by unfold hi6; omega
  have e2 : (hi6 z == 9223372036854775808) = false := beq_eq_false_iff_ne.2 (by unfold hi6; omega)
  clear h0 h1
  go_enter Tryz.func314, Tryz.ntmps314
  go_wp2
  go_returns
  exact ⟨rfl, by go_grown⟩
theorem wd_size : (Tryz.prog.info? 243).map (·.size) = some 2 := by kernel_rfl
theorem sz_size : (Tryz.prog.info? 337).map (·.size) = some 2 := by kernel_rfl
abbrev wdA (z : Int) : Array Value := #[.int .i64 (hi6 z), .int .u64 (lo6 z)]
abbrev szA (z : Int) : Array Value := #[.int .u64 (hi6 z), .int .u64 (lo6 z)]
theorem stWd {ops : Array Oper} {rest : List Oper} {o : Oper} {a : Act} {w : World} {Q : Exit → Act → World → Prop} (hgd : o.guard = none) (x y : Operand) (ho : o.op = .store 243 x y)
    {g : Nat} {old : Array Value} (hK : Bk w g 243 old) (hold : old.size = 2) {z : Int} (hx : a.eval x = .pointer (some ⟨g, 0, none⟩)) (hy : a.eval y = WV z)
    (h : ∀ w', Bk w' g 243 (wdA z) → w.grownBy w' (some g) → w'.heap.size = w.heap.size → wpList Tryz.prog ops Q rest (a.put o.dst undef) w') : wpList Tryz.prog ops Q (o :: rest) a w :=
  stB hgd _ x y ho hK _ hx hy wd_size (by simpa using hold) (by simp [Value.oneCell']) h
theorem ldWd {ops : Array Oper} {rest : List Oper} {o : Oper} {a : Act} {w : World} {Q : Exit → Act → World → Prop} (hgd : o.guard = none) (x : Operand) (ho : o.op = .load 243 x)
    {g : Nat} {z : Int} (hK : Bk w g 243 (wdA z)) (hx : a.eval x = .pointer (some ⟨g, 0, none⟩))
    (h : wpList Tryz.prog ops Q rest (a.put o.dst (WV z)) w) : wpList Tryz.prog ops Q (o :: rest) a w :=
  ldB hgd _ x ho hK hx Tryz.underlying243 rfl wd_size h
theorem res_wd_tmp {fn : Func} {p q : Tmp} (h : fn.results = #[.cell p 243, .tmp q]) {tmps : Array Value} {w : World} {g : Nat} {z : Int} (hK : Bk w g 243 (wdA z))
    (hp : tmps.getD p undef = .pointer (some ⟨g, 0, none⟩)) : (results fn tmps).run Tryz.prog w = .ok (.tuple #[WV z, tmps.getD q undef]) w :=
  res_cell_tmp h hK hp Tryz.underlying243 rfl wd_size
theorem res_wd {fn : Func} {p : Tmp} (h : fn.results = #[.cell p 243]) {tmps : Array Value} {w : World} {g : Nat} {z : Int} (hK : Bk w g 243 (wdA z))
    (hp : tmps.getD p undef = .pointer (some ⟨g, 0, none⟩)) : (results fn tmps).run Tryz.prog w = .ok (WV z) w :=
  res_cell h hK hp Tryz.underlying243 rfl wd_size
theorem wd0 : wdA 0 = #[.int .i64 0, .int .u64 0] := by rw [show wdA 0 = #[.int .i64 (hi6 0), .int .u64 (lo6 0)] from rfl, hi0, lo0]
set_option maxHeartbeats 1000000 in
theorem wsigned_any (z : Int) (neg : Bool) (w : World) (h0 : 0 ≤ z) (h1 : Wd z) : Calls Tryz.prog 263 #[SV z, .bool neg] w fun e w' => e = .returned (.tuple #[WV (if neg = true then -z else z), .bool true]) ∧ Below w.heap.size w w' := by
  have hL := ((Lie.start w).alloc (szA z) 337).alloc #[.int .i64 0, .int .u64 0] 243
  simp only [World.size_alloc] at hL
  cases neg
  · go_enter Tryz.func263, Tryz.ntmps263
    go_wp2_with (first
      | (go_at_call 313; (with_reducible refine (wplus_any z _ h0 h1).mono ?_); rintro e w1 ⟨rfl, hb1⟩; have hL1 := hL.nx hb1; have k1 : Bk w1 (w.heap.size + 1) 243 #[.int .i64 0, .int .u64 0] := hL1.k 0 (by simp))
      | (refine stWd rfl _ _ rfl k1 rfl rfl rfl ?_; intro w2 k2 hg2 hs2))
    refine bodyPost_ret (res_wd_tmp rfl k2 rfl) rfl ?_
    exact ⟨rfl, below_of_gb hL1.bel hg2 (by omega) hL1.sz⟩
  · go_enter Tryz.func263, Tryz.ntmps263
    go_wp2_with (first
      | (go_at_call 314; (with_reducible refine (wminus_any z _ h0 h1).mono ?_); rintro e w1 ⟨rfl, hb1⟩; have hL1 := hL.nx hb1; have k1 : Bk w1 (w.heap.size + 1) 243 #[.int .i64 0, .int .u64 0] := hL1.k 0 (by simp))
      | (refine stWd rfl _ _ rfl k1 rfl rfl rfl ?_; intro w2 k2 hg2 hs2))
    refine bodyPost_ret (res_wd_tmp rfl k2 rfl) rfl ?_
    exact ⟨rfl, below_of_gb hL1.bel hg2 (by omega) hL1.sz⟩
namespace Mul64
theorem maskN (a : Nat) (ha : a < 18446744073709551616) : bits .and .u64 (a : Int) 4294967295 = ((a % 4294967296 : Nat) : Int) := by
  have h := bits_and_u64_nat a 4294967295 ha (by omega)
  have e : a &&& 4294967295 = a % 4294967296 := Nat.and_two_pow_sub_one_eq_mod a 32
  rw [e] at h
  exact h
theorem divN (a : Nat) : (a : Int) / 4294967296 = ((a / 4294967296 : Nat) : Int) := by omega
theorem mulN (a b : Nat) : (a : Int) * (b : Int) = ((a * b : Nat) : Int) := (Int.natCast_mul a b).symm
theorem addN (a b : Nat) : (a : Int) + (b : Int) = ((a + b : Nat) : Int) := (Int.natCast_add a b).symm
theorem wrapN (a : Nat) (ha : a < 18446744073709551616) : IntKind.u64.wrap (a : Int) = (a : Int) := by rw [IntKind.wrap_u64]; omega
theorem wrapM (a : Nat) : IntKind.u64.wrap (a : Int) = ((a % 18446744073709551616 : Nat) : Int) := by rw [IntKind.wrap_u64]; omega
end Mul64
set_option maxHeartbeats 1000000 in
theorem mul64_any (x y : Nat) (hx : x < 18446744073709551616) (hy : y < 18446744073709551616) (w : World) :
    Calls Tryz.prog 167 #[.int .u64 x, .int .u64 y] w fun e w' => e = .returned (.tuple #[.int .u64 ((x * y / 18446744073709551616 : Nat) : Int), .int .u64 ((x * y % 18446744073709551616 : Nat) : Int)]) ∧ w = w' := by
  obtain ⟨bd, bt, bw, hhi⟩ := Lib.mul64_hi x y hx hy
  have ba := Lib.half_mul_le (a := x / 4294967296) (b := y / 4294967296) (by omega) (by omega)
  have bb := Lib.half_mul_le (a := x / 4294967296) (b := y % 4294967296) (by omega) (by omega)
  have bc := Lib.half_mul_le (a := x % 4294967296) (b := y / 4294967296) (by omega) (by omega)
  have ba' : x / 4294967296 * (y / 4294967296) < 18446744073709551616 := by omega
  have bb' : x / 4294967296 * (y % 4294967296) < 18446744073709551616 := by omega
  have bc' : x % 4294967296 * (y / 4294967296) < 18446744073709551616 := by omega
  have bh1 : x / 4294967296 * (y / 4294967296) + (x / 4294967296 * (y % 4294967296) + x % 4294967296 * (y % 4294967296) / 4294967296) / 4294967296 < 18446744073709551616 := by omega
  have bh : x / 4294967296 * (y / 4294967296) + (x / 4294967296 * (y % 4294967296) + x % 4294967296 * (y % 4294967296) / 4294967296) / 4294967296 + ((x / 4294967296 * (y % 4294967296) + x % 4294967296 * (y % 4294967296) / 4294967296) % 4294967296 + x % 4294967296 * (y / 4294967296)) / 4294967296 < 18446744073709551616 := by omega
  go_enter Tryz.func167, Tryz.ntmps167
  go_wp2
  simp only [Mul64.maskN x hx, Mul64.maskN y hy, Mul64.divN, Mul64.mulN, Mul64.addN, Mul64.wrapN _ bd, Mul64.wrapN _ bb', Mul64.wrapN _ bt, Mul64.maskN _ bt, Mul64.wrapN _ bc', Mul64.wrapN _ bw, Mul64.wrapN _ ba', Mul64.wrapN _ bh1, Mul64.wrapN _ bh, Mul64.wrapM (x * y)]
  rw [hhi]
  go_ret2
  exact ⟨rfl, rfl⟩
theorem mul64_i {x y : Int} (hx : 0 ≤ x) (hy : 0 ≤ y) (hx2 : x < 18446744073709551616) (hy2 : y < 18446744073709551616) (w : World) :
    Calls Tryz.prog 167 #[.int .u64 x, .int .u64 y] w fun e w' => e = .returned (.tuple #[.int .u64 (hi6 (x * y)), .int .u64 (lo6 (x * y))]) ∧ w = w' := by
  obtain ⟨x, rfl⟩ := Int.eq_ofNat_of_zero_le hx
  obtain ⟨y, rfl⟩ := Int.eq_ofNat_of_zero_le hy
  refine (mul64_any x y (by omega) (by omega) w).mono fun e w' ⟨h1, h2⟩ => ⟨?_, h2⟩
  rw [h1]
  have e1 : ((x * y / 18446744073709551616 : Nat) : Int) = hi6 ((x : Int) * y) := by unfold hi6; rw [← Int.natCast_mul]; omega
  have e2 : ((x * y % 18446744073709551616 : Nat) : Int) = lo6 ((x : Int) * y) := by unfold lo6; rw [← Int.natCast_mul]; omega
  rw [e1, e2]
theorem ab_bd {x : Int} (h : J64 x) : 0 ≤ ab x ∧ ab x ≤ 9223372036854775808 := by unfold ab; unfold J64 at h; split <;> omega
theorem ab_mul (a b : Int) : (if (!(decide (a < 0) == decide (b < 0))) = true then -(ab a * ab b) else ab a * ab b) = a * b := by
  unfold ab
  by_cases h1 : a < 0 <;> by_cases h2 : b < 0 <;> simp [h1, h2, Int.neg_mul, Int.mul_neg]
theorem prod_le {x y : Int} (hx : 0 ≤ x) (hx2 : x ≤ 9223372036854775808) (hy : 0 ≤ y) (hy2 : y ≤ 9223372036854775808) : 0 ≤ x * y ∧ x * y ≤ 85070591730234615865843651857942052864 := by
  constructor
  · exact Int.mul_nonneg hx hy
  · have := Int.mul_le_mul hx2 hy2 hy (by omega : (0:Int) ≤ 9223372036854775808)
    omega
set_option maxRecDepth 100000 in
set_option maxHeartbeats 4000000 in
theorem wmul_any (a b : Int) (w : World) (ha : J64 a) (hb : J64 b) :
    Calls Tryz.prog 186 #[.int .i64 a, .int .i64 b] w fun e w' => e = .returned (WV (a * b)) ∧ Below w.heap.size w w' := by
  have hA := fun w' => wabs_any a w' ha
  have hB := fun w' => wabs_any b w' hb
  obtain ⟨x0, x1⟩ := ab_bd ha
  obtain ⟨y0, y1⟩ := ab_bd hb
  have hM := fun w' => mul64_i x0 y0 (by omega) (by omega) w'
  obtain ⟨p0, p1⟩ := prod_le x0 x1 y0 y1
  have hS := fun w' => (wsigned_any (ab a * ab b) (!(decide (a < 0) == decide (b < 0))) w' p0 ⟨by omega, by omega⟩).mono (R' := fun e w'' => e = .returned (.tuple #[WV (a * b), .bool true]) ∧ Below w'.heap.size w' w'') fun e w'' ⟨h1, h2⟩ => ⟨by rw [h1, ab_mul], h2⟩
  have hL := (Lie.start w).alloc #[.int .i64 0, .int .u64 0] 243
  clear ha hb x0 x1 y0 y1 p0 p1
  generalize decide (a < 0) = da at *
  generalize decide (b < 0) = db at *
  generalize ab a = xa at *
  generalize ab b = xb at *
  generalize xa * xb = pp at *
  generalize hr : a * b = r at *
  clear hr
  go_enter Tryz.func186, Tryz.ntmps186
  go_wp2_with fail
  refine (hA _).mono ?_
  rintro e w1 ⟨rfl, rfl⟩
  go_wp2_with fail
  refine (hB _).mono ?_
  rintro e w1 ⟨rfl, rfl⟩
  go_wp2_with fail
  refine (hM _).mono ?_
  rintro e w1 ⟨rfl, rfl⟩
  go_wp2_with (first
    | (go_at_call 263; (with_reducible refine (hS _).mono ?_); rintro e w1 ⟨rfl, hb1⟩; have hL1 := (hL.nx hb1).alloc (wdA r) 243; have k1 : Bk _ w.heap.size 243 #[.int .i64 0, .int .u64 0] := hL1.k 1 (by simp))
    | (refine stWd rfl _ _ rfl k1 rfl rfl rfl ?_; intro w2 k2 hg2 hs2))
  refine bodyPost_ret (res_wd rfl k2 rfl) rfl ?_
  exact ⟨rfl, below_of_gb hL1.bel hg2 (by omega) hL1.sz⟩
theorem apart_facts {a : Int} (ha : Wd a) (hn : a < 0) : ∃ ua c : Int, IntKind.u64.wrap (hi6 a) = ua ∧
    (∀ w, (callFunc 318 #[.int .u64 0, .int .u64 (lo6 a), .int .u64 0]).run Tryz.prog w = .ok (.value (.tuple #[.int .u64 (lo6 (ab a)), .int .u64 c])) w) ∧
    (∃ d, ∀ w, (callFunc 318 #[.int .u64 0, .int .u64 ua, .int .u64 c]).run Tryz.prog w = .ok (.value (.tuple #[.int .u64 (hi6 (ab a)), .int .u64 d])) w) := by
  have e : ab a = -a := by unfold ab; rw [if_pos hn]
  rw [e]
  unfold Wd at ha
  refine ⟨_, if 0 < lo6 a then 1 else 0, uw _, fun w => run_sub' (by omega) (by unfold lo6; omega) (by omega) (by unfold lo6; omega) (by omega) (by omega) (by unfold lo6; omega) (by rw [Int.add_zero]) w, _, fun w => run_sub' (by omega) (by omega) (by omega) (by omega) (by split <;> omega) (by split <;> omega) (by unfold lo6 hi6; split <;> omega) rfl w⟩
set_option maxRecDepth 100000 in
set_option maxHeartbeats 4000000 in
theorem apart_any (a : Int) (w : World) (ha : Wd a) : Calls Tryz.prog 359 #[WV a] w fun e w' => e = .returned (.tuple #[SV (ab a), .bool (decide (a < 0))]) ∧ Below w.heap.size w w' := by
  by_cases hn : a < 0
  · obtain ⟨ua, c, e1, e2, d, e3⟩ := apart_facts ha hn
    have hd := decide_eq_true hn
    have h1 := (wh a).s.2 hn
    clear ha hn
    go_enter Tryz.func359, Tryz.ntmps359
    go_wp2
    go_returns
    exact ⟨by rw [hd], by go_grown⟩
  · have hd := decide_eq_false hn
    have h1 : 0 ≤ hi6 a := by unfold hi6; omega
    have e1 : IntKind.u64.wrap (hi6 a) = hi6 (ab a) := by rw [uw]; unfold ab; rw [if_neg hn]; unfold hi6; unfold Wd at ha; omega
    have e2 : lo6 a = lo6 (ab a) := by unfold ab; rw [if_neg hn]
    have E2 := Lib.hid e2
    clear ha hn e2
    go_enter Tryz.func359, Tryz.ntmps359
    go_wp2
    go_returns
    exact ⟨by rw [hd]; show _ = Ending.returned (.tuple #[.agg #[.int .u64 (hi6 (ab a)), .int .u64 (lo6 (ab a))], .bool false]); rw [← E2.out], by go_grown⟩
end Go.Proofs.YtgohbkkeppknoaaGreatDoor
end
