/- Several texts in one: Wide numbers: times a number; as numbers of 64 bits. Wide numbers as numbers of 64 bits. Wide numbers, shifted by 16. How many bits a number has. One digit of a long quotient, by a guess that is mended: plain arithmetic. -/
import Derived.Test.YtgohbkkeppknoaaGreatDoorCmdParsesZz9
import Derived.Deep.RegionHeld3
import Derived.Deep.DeepCutAuto
import Derived.RegionTactic
import Derived.Deep.RegionWith
import Derived.Deep.QuietTactic
import Derived.BigQuiet
import Derived.Lib.BitFns
section
set_option linter.unusedVariables false
namespace Go.Proofs.YtgohbkkeppknoaaGreatDoor
open Go.RowKit
theorem scale_facts {s y : Int} (hs : 0 ≤ s) (hy : 0 ≤ y) (hy2 : y < 18446744073709551616) (hp : Wd (s * y)) :
    hi6 (hi6 s * y) = 0 ∧ lo6 (hi6 s * y) = hi6 s * y ∧ lo6 (lo6 s * y) = lo6 (s * y) ∧ 0 ≤ hi6 s * y ∧ hi6 s * y < 9223372036854775808 ∧ hi6 (lo6 s * y) + hi6 s * y = hi6 (s * y) ∧ 0 ≤ hi6 (lo6 s * y) ∧ hi6 (s * y) < 9223372036854775808 ∧ 0 ≤ hi6 s ∧ 0 ≤ lo6 s ∧ lo6 s < 18446744073709551616 ∧ 0 ≤ s * y := by
  have e : s = hi6 s * 18446744073709551616 + lo6 s := by unfold hi6 lo6; omega
  have e2 : s * y = hi6 s * y * 18446744073709551616 + lo6 s * y := by
    rw [e, Int.add_mul, Int.mul_right_comm]
    rw [← e]
  have h1 : 0 ≤ hi6 s := by unfold hi6; omega
  have h2 : 0 ≤ lo6 s := by unfold lo6; omega
  have h2' : lo6 s < 18446744073709551616 := by unfold lo6; omega
  have h3 : 0 ≤ hi6 s * y := Int.mul_nonneg h1 hy
  have h4 : 0 ≤ lo6 s * y := Int.mul_nonneg h2 hy
  have h5 : 0 ≤ s * y := Int.mul_nonneg hs hy
  unfold Wd at hp
  generalize hi6 s * y = p at *
  generalize lo6 s * y = q at *
  generalize s * y = t at *
  refine ⟨?_, ?_, ?_, h3, ?_, ?_, ?_, ?_, h1, h2, h2', h5⟩
  all_goals (unfold hi6 lo6 at *; omega)
set_option maxRecDepth 100000 in
set_option maxHeartbeats 4000000 in
theorem wscale_any (a b : Int) (w : World) (ha : Wd a) (hb : J64 b) (hp : Wd (ab a * ab b)) :
    Calls Tryz.prog 336 #[WV a, .int .i64 b] w fun e w' => e = .returned (.tuple #[WV (a * b), .bool true]) ∧ Below w.heap.size w w' := by
  have hA := fun w' => apart_any a w' ha
  have hB := fun w' => wabs_any b w' hb
  obtain ⟨y0, y1⟩ := ab_bd hb
  have s0 : 0 ≤ ab a := by unfold ab; split <;> omega
  obtain ⟨f1, f2, f3, f4, f5, f6, f7, f8, f9, f10, f11, f12⟩ := scale_facts s0 y0 (by omega) hp
  have hM1 := fun w' => mul64_i f9 y0 (by unfold Wd at ha; unfold ab hi6; split <;> omega) (by omega) w'
  have hM2 := fun w' => mul64_i f10 y0 f11 (by omega) w'
  rw [f1, f2] at hM1
  rw [f3] at hM2
  have e4 := fun w => run_add' (c := 0) f7 f4 (by omega) (by omega) (s := hi6 (ab a * ab b)) (d := 0) (by omega) (by omega) w
  have hS := fun w' => (wsigned_any (ab a * ab b) (!(decide (a < 0) == decide (b < 0))) w' f12 hp).mono (R' := fun e w'' => e = .returned (.tuple #[WV (a * b), .bool true]) ∧ Below w'.heap.size w' w'') fun e w'' ⟨h1, h2⟩ => ⟨by rw [h1, ab_mul], h2⟩
  have hL := ((Lie.start w).alloc (wdA a) 243).alloc #[.int .i64 0, .int .u64 0] 243
  simp only [World.size_alloc] at hL
  clear ha hb hp y0 y1 f1 f2 f3 f4 f5 f6 f7 f8 f9 f10 f11 f12 s0
  generalize decide (a < 0) = da at *
  generalize decide (b < 0) = db at *
  generalize ab a * ab b = pp at *
  generalize hi6 (ab a) * ab b = mid at *
  generalize hi6 (lo6 (ab a) * ab b) = hh at *
  generalize ab b = xb at *
  generalize hr : a * b = r at *
  clear hr
  go_enter Tryz.func336, Tryz.ntmps336
  go_wp2_with fail
  refine (hA _).mono ?_
  rintro e w1 ⟨rfl, hb1⟩
  replace hL := (hL.nx hb1).alloc (szA (ab a)) 337
  go_wp2_with fail
  refine (hB _).mono ?_
  rintro e w2 ⟨rfl, rfl⟩
  go_wp2_with fail
  refine (hM1 _).mono ?_
  rintro e w2 ⟨rfl, rfl⟩
  go_wp2_with fail
  refine (hM2 _).mono ?_
  rintro e w2 ⟨rfl, rfl⟩
  go_wp2_with (first
    | (go_at_call 263; (with_reducible refine (hS _).mono ?_); rintro e w3 ⟨rfl, hb3⟩; have hL1 := hL.nx hb3; have k1 : Bk _ (w.heap.size + 1) 243 #[.int .i64 0, .int .u64 0] := hL1.k 1 (by simp))
    | (refine stWd rfl _ _ rfl k1 rfl rfl rfl ?_; intro w4 k2 hg2 hs2))
  refine bodyPost_ret (res_wd_tmp rfl k2 rfl) rfl ?_
  exact ⟨rfl, below_of_gb hL1.bel hg2 (by omega) hL1.sz⟩
end Go.Proofs.YtgohbkkeppknoaaGreatDoor
end
section
set_option linter.unusedVariables false
namespace Go.Proofs.YtgohbkkeppknoaaGreatDoor
open Go.RowKit
theorem wd2_keep {w w' : World} {B g : Nat} {x y : Value} (h : w.cell? ⟨g, 0, none⟩ = some x ∧ w.cell? ⟨g, 1, none⟩ = some y) (hg : g < B) (hb : Below B w w') : w'.cell? ⟨g, 0, none⟩ = some x ∧ w'.cell? ⟨g, 1, none⟩ = some y ∧ Below B w w' :=
  ⟨(hb.cell (by exact hg)).trans h.1, (hb.cell (by exact hg)).trans h.2, hb⟩
theorem fits_facts (z : Int) : ∃ x, wrap64 (lo6 z) = x ∧ J64 x ∧ (J64 z → x = z) ∧ (¬ J64 z → hi6 x ≠ hi6 z) := by
  refine ⟨_, rfl, ?_, ?_, ?_⟩ <;> rw [w64] <;> unfold J64 lo6 <;> (try unfold hi6) <;> omega
set_option maxRecDepth 100000 in
set_option maxHeartbeats 4000000 in
theorem fits64_yes (z : Int) (w : World) (hz : J64 z) : Calls Tryz.prog 191 #[WV z] w fun e w' => e = .returned (.tuple #[.int .i64 z, .bool true]) ∧ Below w.heap.size w w' := by
  obtain ⟨x, e1, hx, hx1, hx2⟩ := fits_facts z
  obtain rfl := hx1 hz
  have hO := fun w' => wof_any x w' hx
  have hK := Bk.new w 243 (wdA x)
  have hbz := (Below.refl w.heap.size w).alloc (Nat.le_refl _) (.cells (wdA x) 243)
  clear hx hx1 hz hx2
  go_enter Tryz.func191, Tryz.ntmps191
  go_upto_region 2 with fail
  generalize w.alloc (.cells (wdA x) 243) = w1 at *
  have hc := hK.cell2
  have hlt := hK.lt
  obtain ⟨c0, c1⟩ := hc
  go_region_held3 (fun w' => w'.cell? ⟨w.heap.size, 0, none⟩ = some (.int .i64 (hi6 x)) ∧ w'.cell? ⟨w.heap.size, 1, none⟩ = some (.int .u64 (lo6 x)) ∧ Below w1.heap.size w1 w')
    (first | with_reducible exact wd2_keep ⟨c0, c1⟩ hlt hbl | (refine wd2_keep ⟨c0, c1⟩ hlt ?_; go_grown))
    (first | (go_at_call 189; (with_reducible refine (hO _).mono ?_); rintro e wl ⟨rfl, hbl'⟩; have hbl : Below w1.heap.size w1 wl := by first | exact hbl' | exact Below.trans (by go_grown) hbl'))
  all_goals
    rename_i hHeld
    have hbx := hHeld.2.2
    clear hHeld
    go_wp2_with fail
    go_returns
    exact ⟨rfl, hbz.trans (hbx.mono hbz.size)⟩
set_option maxRecDepth 100000 in
set_option maxHeartbeats 4000000 in
theorem fits64_no (z : Int) (w : World) (hz : ¬ J64 z) : Calls Tryz.prog 191 #[WV z] w fun e w' => e = .returned (.tuple #[.int .i64 0, .bool false]) ∧ Below w.heap.size w w' := by
  obtain ⟨x, e1, hx, hx1, hx2⟩ := fits_facts z
  have hne : ¬ hi6 x = hi6 z := hx2 hz
  have hO := fun w' => wof_any x w' hx
  have hK := Bk.new w 243 (wdA z)
  have hbz := (Below.refl w.heap.size w).alloc (Nat.le_refl _) (.cells (wdA z) 243)
  clear hx hx1 hz hx2
  go_enter Tryz.func191, Tryz.ntmps191
  go_upto_region 2 with fail
  generalize w.alloc (.cells (wdA z) 243) = w1 at *
  have hc := hK.cell2
  have hlt := hK.lt
  obtain ⟨c0, c1⟩ := hc
  go_region_held3 (fun w' => w'.cell? ⟨w.heap.size, 0, none⟩ = some (.int .i64 (hi6 z)) ∧ w'.cell? ⟨w.heap.size, 1, none⟩ = some (.int .u64 (lo6 z)) ∧ Below w1.heap.size w1 w')
    (first | with_reducible exact wd2_keep ⟨c0, c1⟩ hlt hbl | (refine wd2_keep ⟨c0, c1⟩ hlt ?_; go_grown))
    (first | (go_at_call 189; (with_reducible refine (hO _).mono ?_); rintro e wl ⟨rfl, hbl'⟩; have hbl : Below w1.heap.size w1 wl := by first | exact hbl' | exact Below.trans (by go_grown) hbl'))
  all_goals
    rename_i hHeld
    have hbx := hHeld.2.2
    clear hHeld
    go_wp2_with fail
    go_returns
    exact ⟨rfl, hbz.trans (hbx.mono hbz.size)⟩
end Go.Proofs.YtgohbkkeppknoaaGreatDoor
end
section
set_option linter.unusedVariables false
namespace Go.Proofs.YtgohbkkeppknoaaGreatDoor
open Go.RowKit
theorem or_add {k b i X : Int} (n : Nat) (hi : i = 2 ^ n) (hX : X = i * k) (hk : 0 ≤ k) (hb : 0 ≤ b) (hb2 : b < i) (hX2 : X < 18446744073709551616) (hb3 : b < 18446744073709551616) : bits .or .u64 X b = X + b := by
  obtain ⟨k, rfl⟩ := Int.eq_ofNat_of_zero_le hk
  obtain ⟨b, rfl⟩ := Int.eq_ofNat_of_zero_le hb
  have e : X = ((2 ^ n * k : Nat) : Int) := by rw [hX, hi]; simp
  subst e
  have hb4 : b < 2 ^ n := by rw [hi] at hb2; exact_mod_cast hb2
  rw [bits_or_u64_nat _ _ (by omega) (by omega), ← Nat.two_pow_add_eq_or_of_lt hb4]
  omega
theorem or_comm64 {a b : Int} (ha : 0 ≤ a) (hb : 0 ≤ b) (ha2 : a < 18446744073709551616) (hb2 : b < 18446744073709551616) : bits .or .u64 a b = bits .or .u64 b a := by
  obtain ⟨a, rfl⟩ := Int.eq_ofNat_of_zero_le ha
  obtain ⟨b, rfl⟩ := Int.eq_ofNat_of_zero_le hb
  rw [bits_or_u64_nat _ _ (by omega) (by omega), bits_or_u64_nat _ _ (by omega) (by omega), Nat.or_comm]
theorem shl_facts {z : Int} (h : Wd (z * 65536)) : wrap64 (bits BinOp.or IntKind.u64 (IntKind.u64.wrap (IntKind.u64.wrap (hi6 z) * 65536)) (lo6 z / 281474976710656)) = hi6 (z * 65536) ∧ IntKind.u64.wrap (lo6 z * 65536) = lo6 (z * 65536) := by
  rw [uw, uw, uw]
  have e : hi6 z % 18446744073709551616 * 65536 % 18446744073709551616 = 65536 * (hi6 z % 281474976710656) := by omega
  rw [e, or_add 16 (i := 65536) (by decide) rfl (by omega) (by unfold lo6; omega) (by unfold lo6; omega) (by omega) (by unfold lo6; omega), w64]
  unfold Wd at h
  unfold hi6 lo6
  omega
theorem shr_facts (z : Int) : hi6 z / 65536 = hi6 (z / 65536) ∧ bits BinOp.or IntKind.u64 (lo6 z / 65536) (IntKind.u64.wrap (IntKind.u64.wrap (hi6 z) * 281474976710656)) = lo6 (z / 65536) := by
  rw [uw, uw]
  have e : hi6 z % 18446744073709551616 * 281474976710656 % 18446744073709551616 = 281474976710656 * (hi6 z % 65536) := by omega
  rw [e, or_comm64 (by unfold lo6; omega) (by omega) (by unfold lo6; omega) (by omega), or_add 48 (i := 281474976710656) (by decide) rfl (by omega) (by unfold lo6; omega) (by unfold lo6; omega) (by omega) (by unfold lo6; omega)]
  unfold hi6 lo6
  omega
theorem shl_any (z : Int) (w : World) (h : Wd (z * 65536)) : Calls Tryz.prog 333 #[WV z, .int .i64 16] w fun e w' => e = .returned (WV (z * 65536)) ∧ Below w.heap.size w w' := by
  obtain ⟨e1, e2⟩ := shl_facts h
  clear h
  go_enter Tryz.func333, Tryz.ntmps333
  go_wp2
  go_returns
  exact ⟨rfl, by go_grown⟩
theorem shr_any (z : Int) (w : World) : Calls Tryz.prog 334 #[WV z, .int .i64 16] w fun e w' => e = .returned (WV (z / 65536)) ∧ Below w.heap.size w w' := by
  obtain ⟨e1, e2⟩ := shr_facts z
  go_enter Tryz.func334, Tryz.ntmps334
  go_wp2
  go_returns
  exact ⟨rfl, by go_grown⟩
set_option maxRecDepth 100000 in
set_option maxHeartbeats 4000000 in
theorem shl16_any (z : Int) (w : World) (h : Wd (z * 65536)) : Calls Tryz.prog 294 #[WV z, .int .i64 16] w fun e w' => e = .returned (.tuple #[WV (z * 65536), .bool true]) ∧ Below w.heap.size w w' := by
  have hL := ((Lie.start w).alloc (wdA z) 243).alloc #[.int .i64 0, .int .u64 0] 243
  simp only [World.size_alloc] at hL
  by_cases hz : z = 0
  · have hS := fun w' => (wsign_any z w').mono (R' := fun e w'' => e = .returned (.int .i64 0) ∧ Below w'.heap.size w' w'') fun e w'' ⟨h1, h2⟩ => ⟨by rw [h1, hz]; rfl, h2⟩
    have HZ : Hid (WV z = WV (z * 65536)) := by show _ = _; rw [hz]; rfl
    clear hz h
    go_enter Tryz.func294, Tryz.ntmps294
    go_wp2_with (first
      | (go_at_call 301; (with_reducible refine (hS _).mono ?_); rintro e w1 ⟨rfl, hb1⟩; have hL1 := hL.nx hb1; have k0 : Bk _ w.heap.size 243 (wdA z) := hL1.k 1 (by simp); have k1 : Bk _ (w.heap.size + 1) 243 #[.int .i64 0, .int .u64 0] := hL1.k 0 (by simp); obtain ⟨c0, c1⟩ := k0.cell2)
      | (refine stWd rfl _ _ rfl k1 rfl rfl rfl ?_; intro w4 k2 hg2 hs2))
    refine bodyPost_ret (res_wd_tmp rfl k2 rfl) rfl ?_
    exact ⟨by rw [HZ.out.symm]; rfl, below_of_gb hL1.bel hg2 (by omega) hL1.sz⟩
  · have hs0 : (sgn z == 0) = false := by unfold sgn; split <;> (try split) <;> simp_all
    have hSg := fun w' => wsign_any z w'
    have hSl := fun w' => shl_any z w' h
    have hSr := fun w' => (shr_any (z * 65536) w').mono (R' := fun e w'' => e = .returned (WV z) ∧ Below w'.heap.size w' w'') fun e w'' ⟨h1, h2⟩ => ⟨by rw [h1, Int.mul_ediv_cancel _ (by decide)], h2⟩
    clear hz h
    generalize hr : z * 65536 = r at *
    clear hr
    go_enter Tryz.func294, Tryz.ntmps294
    go_wp2_with fail
    refine (hSg _).mono ?_
    rintro e w1 ⟨rfl, hb1⟩
    replace hL := hL.nx hb1
    have k0 : Bk _ w.heap.size 243 (wdA z) := hL.k 1 (by simp)
    obtain ⟨c0, c1⟩ := k0.cell2
    go_wp2_with fail
    refine (hSl _).mono ?_
    rintro e w2 ⟨rfl, hb2⟩
    replace hL := (hL.nx hb2).alloc (wdA r) 243
    clear c0 c1 k0 hSg hSl
    have k0 : Bk _ w.heap.size 243 (wdA z) := hL.k 2 (by simp)
    have k3 : Bk _ w2.heap.size 243 (wdA r) := hL.k 0 (by simp)
    go_upto_region 8 with fail
    generalize w2.alloc (.cells (wdA r) 243) = w3 at *
    obtain ⟨c0, c1⟩ := k0.cell2
    obtain ⟨d0, d1⟩ := k3.cell2
    have l0 := k0.lt
    have l3 := k3.lt
    go_region_held3 (fun w' => (w'.cell? ⟨w.heap.size, 0, none⟩ = some (.int .i64 (hi6 z)) ∧ w'.cell? ⟨w.heap.size, 1, none⟩ = some (.int .u64 (lo6 z)) ∧ Below w3.heap.size w3 w') ∧ w'.cell? ⟨w2.heap.size, 0, none⟩ = some (.int .i64 (hi6 r)) ∧ w'.cell? ⟨w2.heap.size, 1, none⟩ = some (.int .u64 (lo6 r)) ∧ Below w3.heap.size w3 w')
      (first | with_reducible exact ⟨wd2_keep ⟨c0, c1⟩ l0 hbl, wd2_keep ⟨d0, d1⟩ l3 hbl⟩ | (refine ⟨wd2_keep ⟨c0, c1⟩ l0 ?_, wd2_keep ⟨d0, d1⟩ l3 ?_⟩ <;> go_grown))
      (first | (go_at_call 334; (with_reducible refine (hSr _).mono ?_); rintro e wl ⟨rfl, hbl'⟩; have hbl : Below w3.heap.size w3 wl := by first | exact hbl' | exact Below.trans (by go_grown) hbl'))
    all_goals
      rename_i hHeld
      have hbx := hHeld.2.2.2
      clear hHeld c0 c1 d0 d1
      have hLx := hL.nx hbx
      have k1 : Bk _ (w.heap.size + 1) 243 #[.int .i64 0, .int .u64 0] := hLx.k 1 (by simp)
      have k3' : Bk _ w2.heap.size 243 (wdA r) := hLx.k 0 (by simp)
      obtain ⟨d0, d1⟩ := k3'.cell2
      go_wp2_with (refine stWd rfl _ _ rfl k1 rfl rfl rfl ?_; intro w4 k2 hg2 hs2)
      refine bodyPost_ret (res_wd_tmp rfl k2 rfl) rfl ?_
      exact ⟨rfl, below_of_gb hLx.bel hg2 (by omega) hLx.sz⟩
end Go.Proofs.YtgohbkkeppknoaaGreatDoor
end
section
set_option linter.unusedVariables false
namespace Go.Proofs.YtgohbkkeppknoaaGreatDoor
open Go.RowKit
theorem len8_at (k : Int) (hk : 0 ≤ k ∧ k ≤ 56) (i : Int) (h0 : 0 ≤ i) (h1 : i < 256) (h : i.toNat < Lib.len8tab.size) : wrap64 (k + wrap64 ((Lib.len8tab[i.toNat]'h).toNat : Int)) = k + (Lib.bitLen i.toNat : Int) := by
  have e := Lib.len8_of i h0 (by omega)
  have l := Lib.bitLen_le8' i h0 (by omega)
  unfold Lib.len8 at e
  rw [getElem?_pos Lib.len8tab i.toNat h] at e
  simp only [Option.getD_some] at e
  rw [e, w64, w64]
  omega
set_option maxHeartbeats 4000000 in
set_option maxRecDepth 100000 in
theorem len64_any (x : Int) (w : World) (h0 : 0 ≤ x) (h1 : x ≤ 18446744073709551615) :
    Calls Tryz.prog 352 #[.int .u64 x] w fun e w' => e = .returned (.int .i64 (Lib.bitLen x.toNat)) ∧ w = w' := by
  have hsz : Lib.len8tab.size = 256 := Lib.len8tab_size
  go_enter Tryz.func352, Tryz.ntmps352
  go_wp2
  all_goals (go_ret; refine ⟨congrArg Ending.returned (congrArg (Value.int IntKind.i64) ?_), rfl⟩)
  all_goals first
    | (rw [len8_at _ (by omega) _ (by omega) (by omega)]
       have e : (x / 4294967296 / 65536 / 256).toNat = x.toNat / 72057594037927936 := by omega
       have s := Lib.bitLen_shift56 x.toNat (by omega) (by omega)
       rw [e]
       omega)
    | (rw [len8_at _ (by omega) _ (by omega) (by omega)]
       have e : (x / 4294967296 / 65536).toNat = x.toNat / 281474976710656 := by omega
       have s := Lib.bitLen_shift48 x.toNat (by omega) (by omega)
       rw [e]
       omega)
    | (rw [len8_at _ (by omega) _ (by omega) (by omega)]
       have e : (x / 4294967296 / 256).toNat = x.toNat / 1099511627776 := by omega
       have s := Lib.bitLen_shift40 x.toNat (by omega) (by omega)
       rw [e]
       omega)
    | (rw [len8_at _ (by omega) _ (by omega) (by omega)]
       have e : (x / 4294967296).toNat = x.toNat / 4294967296 := by omega
       have s := Lib.bitLen_shift32 x.toNat (by omega) (by omega)
       rw [e]
       omega)
    | (rw [len8_at _ (by omega) _ (by omega) (by omega)]
       have e : (x / 65536 / 256).toNat = x.toNat / 16777216 := by omega
       have s := Lib.bitLen_shift24 x.toNat (by omega) (by omega)
       rw [e]
       omega)
    | (rw [len8_at _ (by omega) _ (by omega) (by omega)]
       have e : (x / 65536).toNat = x.toNat / 65536 := by omega
       have s := Lib.bitLen_shift16 x.toNat (by omega) (by omega)
       rw [e]
       omega)
    | (rw [len8_at _ (by omega) _ (by omega) (by omega)]
       have e : (x / 256).toNat = x.toNat / 256 := by omega
       have s := Lib.bitLen_shift8 x.toNat (by omega) (by omega)
       rw [e]
       omega)
    | (have e := len8_at 0 (by omega) x h0 (by omega) (by omega)
       rw [Int.zero_add, Int.zero_add] at e
       rw [← e, w64, w64])
set_option maxRecDepth 100000 in
theorem bitLen_pow : ∀ (f x : Nat), 0 < x → x < 2 ^ f → 2 ^ (Lib.bitLenAux f x - 1) ≤ x ∧ x < 2 ^ (Lib.bitLenAux f x) ∧ 0 < Lib.bitLenAux f x ∧ Lib.bitLenAux f x ≤ f := by
  intro f
  induction f with
  | zero => intro x h1 h2; simp at h2; omega
  | succ f ih =>
    intro x h1 h2
    have e : Lib.bitLenAux (f + 1) x = 1 + Lib.bitLenAux f (x / 2) := by
      rw [Lib.bitLenAux]; split <;> omega
    rw [e]
    by_cases h3 : x / 2 = 0
    · have h4 : x = 1 := by omega
      subst h4
      rw [show (1 : Nat) / 2 = 0 from rfl]
      have : Lib.bitLenAux f 0 = 0 := by cases f <;> simp [Lib.bitLenAux]
      rw [this]
      simp
    · obtain ⟨a1, a2, a3, a4⟩ := ih (x / 2) (by omega) (by rw [Nat.pow_succ] at h2; omega)
      generalize Lib.bitLenAux f (x / 2) = k at *
      obtain ⟨j, rfl⟩ : ∃ j, k = j + 1 := ⟨k - 1, by omega⟩
      rw [show j + 1 - 1 = j by omega] at a1
      rw [show 1 + (j + 1) - 1 = j + 1 by omega, show 1 + (j + 1) = (j + 1) + 1 by omega, Nat.pow_succ 2 (j + 1)]
      rw [Nat.pow_succ] at a2 ⊢
      omega
set_option maxRecDepth 100000 in
/-- the leading zeros of a number that is not 0. -/
theorem lz_any (y : Int) (w : World) (h0 : 0 < y) (h1 : y < 18446744073709551616) : ∃ s : Nat, s ≤ 63 ∧ y * 2 ^ s < 18446744073709551616 ∧ 9223372036854775808 ≤ y * 2 ^ s ∧
    ∀ w : World, Calls Tryz.prog 364 #[.int .u64 y] w fun e w' => e = .returned (.int .i64 s) ∧ w = w' := by
  obtain ⟨y, rfl⟩ := Int.eq_ofNat_of_zero_le (by omega : 0 ≤ y)
  obtain ⟨a1, a2, a3, a4⟩ := bitLen_pow 64 y (by omega) (by omega)
  have e : Lib.bitLenAux 64 y = Lib.bitLen y := rfl
  rw [e] at a1 a2 a3 a4
  refine ⟨64 - Lib.bitLen y, by omega, ?_, ?_, fun w => ?_⟩
  · have h : y * 2 ^ (64 - Lib.bitLen y) < 2 ^ Lib.bitLen y * 2 ^ (64 - Lib.bitLen y) := Nat.mul_lt_mul_of_pos_right a2 (Nat.pow_pos (by omega))
    rw [← Nat.pow_add, show Lib.bitLen y + (64 - Lib.bitLen y) = 64 by omega, show (2 : Nat) ^ 64 = 18446744073709551616 from rfl] at h
    have h' := Int.ofNat_lt.2 h
    rw [Int.natCast_mul, Int.natCast_pow] at h'
    exact h'
  · have h : 2 ^ (Lib.bitLen y - 1) * 2 ^ (64 - Lib.bitLen y) ≤ y * 2 ^ (64 - Lib.bitLen y) := Nat.mul_le_mul_right _ a1
    rw [← Nat.pow_add, show Lib.bitLen y - 1 + (64 - Lib.bitLen y) = 63 by omega, show (2 : Nat) ^ 63 = 9223372036854775808 from rfl] at h
    have h' := Int.ofNat_le.2 h
    rw [Int.natCast_mul, Int.natCast_pow] at h'
    exact h'
  · have hb : (Lib.bitLen ((y : Nat) : Int).toNat : Int) = (Lib.bitLen y : Int) := by simp
    have hL := fun w' => (len64_any (y : Int) w' (by omega) (by omega)).mono (R' := fun e w'' => e = .returned (.int .i64 (Lib.bitLen y)) ∧ w' = w'') fun e w'' ⟨h1, h2⟩ => ⟨by rw [h1, hb], h2⟩
    have e2 : (((64 - Lib.bitLen y : Nat)) : Int) = 64 - (Lib.bitLen y : Int) := by omega
    rw [e2]
    clear hb a1 a2 a3 e e2
    go_enter Tryz.func364, Tryz.ntmps364
    go_wp2_with (go_at_call 352; (with_reducible refine (hL _).mono ?_); rintro e w1 ⟨rfl, rfl⟩)
    go_ret
    exact ⟨rfl, rfl⟩
end Go.Proofs.YtgohbkkeppknoaaGreatDoor
end
section
set_option linter.unusedVariables false
namespace Go.Proofs.YtgohbkkeppknoaaGreatDoor
/-- The divisor's two digits, what is divided, the next digit. -/
structure Dg (D d1 d0 U l : Int) : Prop where
  e : D = d1 * 4294967296 + d0
  a1 : 2147483648 ≤ d1
  a2 : d1 < 4294967296
  b1 : 0 ≤ d0
  b2 : d0 < 4294967296
  u1 : 0 ≤ U
  u2 : U < D
  l1 : 0 ≤ l
  l2 : l < 4294967296
/-- The digit. -/
def dgq (D U l : Int) : Int := (U * 4294967296 + l) / D
/-- A guess of the digit that may be too great, and what is left by it. -/
structure Gs (D d1 U l q r : Int) : Prop where
  lo : dgq D U l ≤ q
  hi : q ≤ 4294967297
  re : r = U - q * d1
  r0 : 0 ≤ r
  r1 : r < 4294967296
section
variable {D d1 d0 U l q r : Int}
theorem Dg.pos (h : Dg D d1 d0 U l) : 0 < D := by have := h.e; have := h.a1; have := h.b1; omega
theorem Dg.lt (h : Dg D d1 d0 U l) : dgq D U l < 4294967296 := by
  unfold dgq
  have h0 := h.pos; have h1 := h.u2; have h2 := h.l2
  exact Int.ediv_lt_of_lt_mul h0 (by omega)
theorem Dg.ge (h : Dg D d1 d0 U l) : 0 ≤ dgq D U l := by
  unfold dgq
  have h0 := h.pos; have h1 := h.u1; have h2 := h.l1
  exact Int.ediv_nonneg (by omega) (by omega)
theorem Gs.start (h : Dg D d1 d0 U l) : Gs D d1 U l (U / d1) (U - U / d1 * d1) := by
  have h0 := h.pos
  have hd : 0 < d1 := by have := h.a1; omega
  have hm := Int.emod_add_mul_ediv U d1
  have hm2 := Int.emod_nonneg U (by omega : d1 ≠ 0)
  have hm3 := Int.emod_lt_of_pos U hd
  have ec : d1 * (U / d1) = U / d1 * d1 := Int.mul_comm _ _
  refine ⟨?_, ?_, rfl, by omega, by have := h.a2; omega⟩
  · apply Int.le_ediv_of_mul_le hd
    have k1 : dgq D U l * D ≤ U * 4294967296 + l := Int.ediv_mul_le _ (by omega)
    have k2 : dgq D U l * D = dgq D U l * d1 * 4294967296 + dgq D U l * d0 := by rw [h.e, Int.mul_add, Int.mul_assoc]
    have k3 : 0 ≤ dgq D U l * d0 := Int.mul_nonneg h.ge h.b1
    have := h.l2
    generalize dgq D U l * d1 = p at *
    generalize dgq D U l * d0 = p' at *
    omega
  · have k1 : U < d1 * 4294967298 := by have := h.e; have := h.u2; have := h.b2; have := h.a1; omega
    have k2 : U / d1 < 4294967298 := Int.ediv_lt_of_lt_mul hd (by rw [Int.mul_comm]; exact k1)
    omega
theorem Gs.step (h : Dg D d1 d0 U l) (g : Gs D d1 U l q r) (hc : 4294967296 ≤ q ∨ 4294967296 * r + l < q * d0) : dgq D U l ≤ q - 1 := by
  rcases hc with hc | hc
  · have := h.lt; omega
  · have k : dgq D U l < q := by
      unfold dgq
      apply Int.ediv_lt_of_lt_mul h.pos
      have k2 : q * D = q * d1 * 4294967296 + q * d0 := by rw [h.e, Int.mul_add, Int.mul_assoc]
      have := g.re
      rw [k2]
      generalize q * d1 = p at *
      generalize q * d0 = p' at *
      omega
    omega
theorem Gs.next (h : Dg D d1 d0 U l) (g : Gs D d1 U l q r) (hc : 4294967296 ≤ q ∨ 4294967296 * r + l < q * d0) (hr : r + d1 < 4294967296) : Gs D d1 U l (q - 1) (r + d1) := by
  have h1 := g.step h hc
  have h2 := g.hi; have h3 := g.re; have h4 := g.r0; have h5 := h.a1
  refine ⟨h1, by omega, ?_, by omega, hr⟩
  rw [Int.sub_mul]; omega
theorem Gs.far (h : Dg D d1 d0 U l) (g : Gs D d1 U l q r) (hc : 4294967296 ≤ q ∨ 4294967296 * r + l < q * d0) (hr : 4294967296 ≤ r + d1) : q - 1 = dgq D U l := by
  have h1 := g.step h hc
  have h0 := h.ge
  have h2 := g.hi
  have h3 : r + d1 = U - (q - 1) * d1 := by rw [Int.sub_mul, g.re]; omega
  have k : q - 1 ≤ dgq D U l := by
    unfold dgq
    apply Int.le_ediv_of_mul_le h.pos
    have k2 : (q - 1) * D = (q - 1) * d1 * 4294967296 + (q - 1) * d0 := by rw [h.e, Int.mul_add, Int.mul_assoc]
    have k3 : (q - 1) * d0 ≤ 4294967296 * 4294967295 := Int.mul_le_mul (by omega) (by have := h.b2; omega) h.b1 (by omega)
    have := h.l1
    rw [k2]
    generalize (q - 1) * d1 = p at *
    generalize (q - 1) * d0 = p' at *
    omega
  omega
theorem Gs.done (h : Dg D d1 d0 U l) (g : Gs D d1 U l q r) (hq : q < 4294967296) (hc : ¬ 4294967296 * r + l < q * d0) : q = dgq D U l := by
  have h1 := g.lo
  have k : q ≤ dgq D U l := by
    unfold dgq
    apply Int.le_ediv_of_mul_le h.pos
    have k2 : q * D = q * d1 * 4294967296 + q * d0 := by rw [h.e, Int.mul_add, Int.mul_assoc]
    have := g.re
    rw [k2]
    generalize q * d1 = p at *
    generalize q * d0 = p' at *
    omega
  omega
theorem Gs.bd (h : Dg D d1 d0 U l) (g : Gs D d1 U l q r) : 0 ≤ q := by have := g.lo; have := h.ge; omega
theorem Gs.mulbd (h : Dg D d1 d0 U l) (g : Gs D d1 U l q r) (hq : q < 4294967296) : 0 ≤ q * d0 ∧ q * d0 < 18446744073709551616 := by
  have h0 := g.bd h
  constructor
  · exact Int.mul_nonneg h0 h.b1
  · have := Int.mul_le_mul (show q ≤ 4294967295 by omega) (show d0 ≤ 4294967295 by have := h.b2; omega) h.b1 (by omega)
    omega
/-- What is left behind the digit. -/
def lft (D U l : Int) : Int := U * 4294967296 + l - dgq D U l * D
theorem Dg.left (h : Dg D d1 d0 U l) : 0 ≤ lft D U l ∧ lft D U l < D := by
  have h0 := h.pos
  have e := Int.emod_add_mul_ediv (U * 4294967296 + l) D
  have e2 := Int.emod_nonneg (U * 4294967296 + l) (by omega : D ≠ 0)
  have e3 := Int.emod_lt_of_pos (U * 4294967296 + l) h0
  unfold lft dgq
  rw [Int.mul_comm ((U * 4294967296 + l) / D) D]
  omega
end
/-- Two digits make the quotient. -/
theorem two_dgt {D d1 d0 U l1 l0 y hi lo : Int} {s : Nat} (h : Dg D d1 d0 U l1) (h2 : Dg D d1 d0 (lft D U l1) l0) (hy : 0 < y) (hD : D = y * 2 ^ s) (hN : U * 18446744073709551616 + (l1 * 4294967296 + l0) = (hi * 18446744073709551616 + lo) * 2 ^ s) :
    dgq D U l1 * 4294967296 + dgq D (lft D U l1) l0 = (hi * 18446744073709551616 + lo) / y ∧ lft D (lft D U l1) l0 / 2 ^ s = (hi * 18446744073709551616 + lo) % y := by
  have hp : (0 : Int) < 2 ^ s := Int.pow_pos (by omega)
  have e1 : lft D U l1 = U * 4294967296 + l1 - dgq D U l1 * D := rfl
  have e2 : lft D (lft D U l1) l0 = lft D U l1 * 4294967296 + l0 - dgq D (lft D U l1) l0 * D := rfl
  obtain ⟨k1, k2⟩ := h2.left
  generalize hR : lft D (lft D U l1) l0 = R at *
  generalize hX : lft D U l1 = X at *
  generalize dgq D X l0 = q0 at *
  generalize dgq D U l1 = q1 at *
  have e3 : (hi * 18446744073709551616 + lo) * 2 ^ s = (q1 * 4294967296 + q0) * D + R := by
    rw [← hN, Int.add_mul, Int.mul_right_comm, e2, e1]
    generalize q1 * D = p at *
    generalize q0 * D = p' at *
    omega
  generalize hi * 18446744073709551616 + lo = N at *
  have e4 : N * 2 ^ s = ((q1 * 4294967296 + q0) * y) * 2 ^ s + R := by rw [e3, hD, Int.mul_assoc]
  have e5 : R = (N - (q1 * 4294967296 + q0) * y) * 2 ^ s := by rw [Int.sub_mul]; omega
  generalize hr : N - (q1 * 4294967296 + q0) * y = r at *
  have r0 : 0 ≤ r := by
    rcases Int.lt_or_le r 0 with h | h
    · have := Int.mul_neg_of_neg_of_pos h hp; omega
    · exact h
  have r1 : r < y := by
    rcases Int.lt_or_le r y with h | h
    · exact h
    · have := Int.mul_le_mul_of_nonneg_right h (show (0:Int) ≤ 2 ^ s by omega); omega
  have hN2 : N = r + y * (q1 * 4294967296 + q0) := by rw [Int.mul_comm y]; omega
  constructor
  · rw [hN2, Int.add_mul_ediv_left _ _ (by omega : y ≠ 0), Int.ediv_eq_zero_of_lt r0 r1, Int.zero_add]
  · rw [e5, Int.mul_ediv_cancel _ (by omega : (2:Int) ^ s ≠ 0), hN2, Int.add_mul_emod_self_left, Int.emod_eq_of_lt r0 r1]
open Go.RowKit in
theorem dv_facts {hi lo y : Int} {s : Nat} (hy : 0 < y) (hs : s ≤ 63) (h1 : y * 2 ^ s < 18446744073709551616) (h2 : 9223372036854775808 ≤ y * 2 ^ s) (hh : 0 < hi) (hh2 : hi < y) (hl : 0 ≤ lo) (hl2 : lo < 18446744073709551616) :
    ∃ D d1 d0 U l1 l0 L : Int, IntKind.u64.wrap (y * 2 ^ s) = D ∧ D / 4294967296 = d1 ∧ bits BinOp.and IntKind.u64 D 4294967295 = d0 ∧ bits BinOp.or IntKind.u64 (IntKind.u64.wrap (hi * 2 ^ s)) (lo / 2 ^ (64 - s)) = U ∧
      IntKind.u64.wrap (lo * 2 ^ s) = L ∧ L / 4294967296 = l1 ∧ bits BinOp.and IntKind.u64 L 4294967295 = l0 ∧ Dg D d1 d0 U l1 ∧ 0 ≤ l0 ∧ l0 < 4294967296 ∧ D = y * 2 ^ s ∧ U * 18446744073709551616 + (l1 * 4294967296 + l0) = (hi * 18446744073709551616 + lo) * 2 ^ s := by
  have hp : (0 : Int) < 2 ^ s := Int.pow_pos (by omega)
  have hp2 : (0 : Int) < 2 ^ (64 - s) := Int.pow_pos (by omega)
  have hpp : (2 : Int) ^ s * 2 ^ (64 - s) = 18446744073709551616 := by rw [← Int.pow_add, show s + (64 - s) = 64 by omega]; rfl
  have hh3 : (hi + 1) * 2 ^ s ≤ y * 2 ^ s := Int.mul_le_mul_of_nonneg_right (by omega) (by omega)
  rw [Int.add_mul, Int.one_mul] at hh3
  have hh4 : 0 < hi * 2 ^ s := Int.mul_pos hh hp
  have ea := Int.emod_add_mul_ediv lo (2 ^ (64 - s))
  have eb := Int.emod_nonneg lo (by omega : (2 : Int) ^ (64 - s) ≠ 0)
  have ec := Int.emod_lt_of_pos lo hp2
  have ha0 : 0 ≤ lo / 2 ^ (64 - s) := Int.ediv_nonneg hl (by omega)
  have ha1 : lo / 2 ^ (64 - s) < 2 ^ s := Int.ediv_lt_of_lt_mul hp2 (by rw [hpp]; exact hl2)
  have hb0 : 0 ≤ lo % 2 ^ (64 - s) * 2 ^ s := Int.mul_nonneg eb (by omega)
  have hb1 : lo % 2 ^ (64 - s) * 2 ^ s < 18446744073709551616 := by rw [← hpp, Int.mul_comm]; exact Int.mul_lt_mul_of_pos_left ec hp
  have hlo : lo * 2 ^ s = lo / 2 ^ (64 - s) * 18446744073709551616 + lo % 2 ^ (64 - s) * 2 ^ s := by
    have e : lo = lo / 2 ^ (64 - s) * 2 ^ (64 - s) + lo % 2 ^ (64 - s) := by rw [Int.mul_comm]; omega
    calc lo * 2 ^ s = (lo / 2 ^ (64 - s) * 2 ^ (64 - s) + lo % 2 ^ (64 - s)) * 2 ^ s := by rw [← e]
      _ = lo / 2 ^ (64 - s) * 2 ^ (64 - s) * 2 ^ s + lo % 2 ^ (64 - s) * 2 ^ s := Int.add_mul _ _ _
      _ = _ := by rw [Int.mul_assoc, Int.mul_comm (2 ^ (64 - s)) (2 ^ s), hpp]
  have w1 : IntKind.u64.wrap (y * 2 ^ s) = y * 2 ^ s := by rw [uw]; exact Int.emod_eq_of_lt (by omega) h1
  have w2 : IntKind.u64.wrap (hi * 2 ^ s) = hi * 2 ^ s := by rw [uw]; exact Int.emod_eq_of_lt (by omega) (by omega)
  have w3 : IntKind.u64.wrap (lo * 2 ^ s) = lo % 2 ^ (64 - s) * 2 ^ s := by rw [uw, hlo]; omega
  have hU := or_add (X := hi * 2 ^ s) (b := lo / 2 ^ (64 - s)) (k := hi) (i := 2 ^ s) s rfl (Int.mul_comm _ _) (by omega) ha0 ha1 (by omega) (by omega)
  generalize hA : lo / 2 ^ (64 - s) = a at *
  generalize hBm : lo % 2 ^ (64 - s) * 2 ^ s = L at *
  generalize hDm : y * 2 ^ s = D at *
  generalize hHm : hi * 2 ^ s = H at *
  have msk : ∀ x : Int, 0 ≤ x → x < 18446744073709551616 → bits BinOp.and IntKind.u64 x 4294967295 = x % 4294967296 := fun x k1 k2 => by
    obtain ⟨x, rfl⟩ := Int.eq_ofNat_of_zero_le k1
    rw [Mul64.maskN x (by omega)]
    omega
  refine ⟨D, _, _, H + a, _, _, L, w1, rfl, msk D (by omega) h1, by rw [w2]; exact hU, w3, rfl, msk L hb0 hb1, ?_, by omega, by omega, rfl, ?_⟩
  · exact ⟨by omega, by omega, by omega, by omega, by omega, by omega, by omega, by omega, by omega⟩
  · rw [Int.add_mul (hi * 18446744073709551616), Int.mul_right_comm hi, hHm, hlo]
    omega
end Go.Proofs.YtgohbkkeppknoaaGreatDoor
end
