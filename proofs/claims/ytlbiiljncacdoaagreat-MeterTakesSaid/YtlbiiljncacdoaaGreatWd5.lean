/- Wide numbers, shifted by 16. -/
import Derived.Test.YtlbiiljncacdoaaGreatWd4
set_option linter.unusedVariables false
namespace Go.Proofs.YtlbiiljncacdoaaGreat
open Go.RowKit
theorem or_add {k b i X : Int} (n : Nat) (hi : i = 2 ^ n) (hX : X = i * k) (hk : 0 ≤ k) (hb : 0 ≤ b) (hb2 : b < i) (hX2 : X < 18446744073709551616) (hb3 : b < 18446744073709551616) : bits .or .u64 X b = X + b := by
  obtain ⟨k, rfl⟩ := Int.eq_ofNat_of_zero_le hk
  obtain ⟨b, rfl⟩ := Int.eq_ofNat_of_zero_le hb
  have e : X = ((2 ^ n * k : Nat) : Int) := by rw [hX, hi]; simp
  subst e
  have hb4 : b < 2 ^ n := by rw [hi] at hb2; exact_mod_cast hb2
  rw [bits_or_u64_nat _ _ (by omega) (by omega), ← Nat.two_pow_add_eq_or_of_lt hb4]
  omega
theorem or_comm64 {a b : Int} (ha : 0 ≤ a) (hb : 0 ≤ b) (ha2 : a < 18446744073709551616) (hb2 : b < 18446744073709551616) : bits .or .u64 a b = bits .or .u64 b a := by
  obtain ⟨a, rfl⟩ := Int.eq_ofNat_of_zero_le ha
  obtain ⟨b, rfl⟩ := Int.eq_ofNat_of_zero_le hb
  rw [bits_or_u64_nat _ _ (by omega) (by omega), bits_or_u64_nat _ _ (by omega) (by omega), Nat.or_comm]
theorem shl_facts {z : Int} (h : Wd (z * 65536)) : wrap64 (bits BinOp.or IntKind.u64 (IntKind.u64.wrap (IntKind.u64.wrap (hi6 z) * 65536)) (lo6 z / 281474976710656)) = hi6 (z * 65536) ∧ IntKind.u64.wrap (lo6 z * 65536) = lo6 (z * 65536) := by
  rw [uw, uw, uw]
  have e : hi6 z % 18446744073709551616 * 65536 % 18446744073709551616 = 65536 * (hi6 z % 281474976710656) := by omega
  rw [e, or_add 16 (i := 65536) (by decide) rfl (by omega) (by unfold lo6; omega) (by unfold lo6; omega) (by omega) (by unfold lo6; omega), w64]
  unfold Wd at h
  unfold hi6 lo6
  omega
theorem shr_facts (z : Int) : hi6 z / 65536 = hi6 (z / 65536) ∧ bits BinOp.or IntKind.u64 (lo6 z / 65536) (IntKind.u64.wrap (IntKind.u64.wrap (hi6 z) * 281474976710656)) = lo6 (z / 65536) := by
  rw [uw, uw]
  have e : hi6 z % 18446744073709551616 * 281474976710656 % 18446744073709551616 = 281474976710656 * (hi6 z % 65536) := by omega
  rw [e, or_comm64 (by unfold lo6; omega) (by omega) (by unfold lo6; omega) (by omega), or_add 48 (i := 281474976710656) (by decide) rfl (by omega) (by unfold lo6; omega) (by unfold lo6; omega) (by omega) (by unfold lo6; omega)]
  unfold hi6 lo6
  omega
theorem shl_any (z : Int) (w : World) (h : Wd (z * 65536)) : Calls Tryz.prog 264 #[WV z, .int .i64 16] w fun e w' => e = .returned (WV (z * 65536)) ∧ Below w.heap.size w w' := by
  obtain ⟨e1, e2⟩ := shl_facts h
  clear h
  go_enter Tryz.func264, Tryz.ntmps264
  go_wp2
  go_returns
  exact ⟨rfl, by go_grown⟩
theorem shr_any (z : Int) (w : World) : Calls Tryz.prog 265 #[WV z, .int .i64 16] w fun e w' => e = .returned (WV (z / 65536)) ∧ Below w.heap.size w w' := by
  obtain ⟨e1, e2⟩ := shr_facts z
  go_enter Tryz.func265, Tryz.ntmps265
  go_wp2
  go_returns
  exact ⟨rfl, by go_grown⟩
set_option maxRecDepth 100000 in
set_option maxHeartbeats 4000000 in
theorem shl16_any (z : Int) (w : World) (h : Wd (z * 65536)) : Calls Tryz.prog 246 #[WV z, .int .i64 16] w fun e w' => e = .returned (.tuple #[WV (z * 65536), .bool true]) ∧ Below w.heap.size w w' := by
  have hL := ((Lie.start w).alloc (wdA z) 261).alloc #[.int .i64 0, .int .u64 0] 261
  simp only [World.size_alloc] at hL
  by_cases hz : z = 0
  · have hS := fun w' => (wsign_any z w').mono (R' := fun e w'' => e = .returned (.int .i64 0) ∧ Below w'.heap.size w' w'') fun e w'' ⟨h1, h2⟩ => ⟨by rw [h1, hz]; rfl, h2⟩
    have HZ : Hid (WV z = WV (z * 65536)) := by show _ = _; rw [hz]; rfl
    clear hz h
    go_enter Tryz.func246, Tryz.ntmps246
    go_wp2_with (first
      | (go_at_call 256; (with_reducible refine (hS _).mono ?_); rintro e w1 ⟨rfl, hb1⟩; have hL1 := hL.nx hb1; have k0 : Bk _ w.heap.size 261 (wdA z) := hL1.k 1 (by simp); have k1 : Bk _ (w.heap.size + 1) 261 #[.int .i64 0, .int .u64 0] := hL1.k 0 (by simp); obtain ⟨c0, c1⟩ := k0.cell2)
      | (refine stWd rfl _ _ rfl k1 rfl rfl rfl ?_; intro w4 k2 hg2 hs2))
    refine bodyPost_ret (res_wd_tmp rfl k2 rfl) rfl ?_
    exact ⟨by rw [HZ.out.symm]; rfl, below_of_gb hL1.bel hg2 (by omega) hL1.sz⟩
  · have hs0 : (sgn z == 0) = false := by unfold sgn; split <;> (try split) <;> simp_all
    have hSg := fun w' => wsign_any z w'
    have hSl := fun w' => shl_any z w' h
    have hSr := fun w' => (shr_any (z * 65536) w').mono (R' := fun e w'' => e = .returned (WV z) ∧ Below w'.heap.size w' w'') fun e w'' ⟨h1, h2⟩ => ⟨by rw [h1, Int.mul_ediv_cancel _ (by decide)], h2⟩
    clear hz h
    generalize hr : z * 65536 = r at *
    clear hr
    go_enter Tryz.func246, Tryz.ntmps246
    go_wp2_with fail
    refine (hSg _).mono ?_
    rintro e w1 ⟨rfl, hb1⟩
    replace hL := hL.nx hb1
    have k0 : Bk _ w.heap.size 261 (wdA z) := hL.k 1 (by simp)
    obtain ⟨c0, c1⟩ := k0.cell2
    go_wp2_with fail
    refine (hSl _).mono ?_
    rintro e w2 ⟨rfl, hb2⟩
    replace hL := (hL.nx hb2).alloc (wdA r) 261
    clear c0 c1 k0 hSg hSl
    have k0 : Bk _ w.heap.size 261 (wdA z) := hL.k 2 (by simp)
    have k3 : Bk _ w2.heap.size 261 (wdA r) := hL.k 0 (by simp)
    go_upto_region 8 with fail
    generalize w2.alloc (.cells (wdA r) 261) = w3 at *
    obtain ⟨c0, c1⟩ := k0.cell2
    obtain ⟨d0, d1⟩ := k3.cell2
    have l0 := k0.lt
    have l3 := k3.lt
    go_region_held3 (fun w' => (w'.cell? ⟨w.heap.size, 0, none⟩ = some (.int .i64 (hi6 z)) ∧ w'.cell? ⟨w.heap.size, 1, none⟩ = some (.int .u64 (lo6 z)) ∧ Below w3.heap.size w3 w') ∧ w'.cell? ⟨w2.heap.size, 0, none⟩ = some (.int .i64 (hi6 r)) ∧ w'.cell? ⟨w2.heap.size, 1, none⟩ = some (.int .u64 (lo6 r)) ∧ Below w3.heap.size w3 w')
      (first | with_reducible exact ⟨wd2_keep ⟨c0, c1⟩ l0 hbl, wd2_keep ⟨d0, d1⟩ l3 hbl⟩ | (refine ⟨wd2_keep ⟨c0, c1⟩ l0 ?_, wd2_keep ⟨d0, d1⟩ l3 ?_⟩ <;> go_grown))
      (first | (go_at_call 265; (with_reducible refine (hSr _).mono ?_); rintro e wl ⟨rfl, hbl'⟩; have hbl : Below w3.heap.size w3 wl := by first | exact hbl' | exact Below.trans (by go_grown) hbl'))
    all_goals
      rename_i hHeld
      have hbx := hHeld.2.2.2
      clear hHeld c0 c1 d0 d1
      have hLx := hL.nx hbx
      have k1 : Bk _ (w.heap.size + 1) 261 #[.int .i64 0, .int .u64 0] := hLx.k 1 (by simp)
      have k3' : Bk _ w2.heap.size 261 (wdA r) := hLx.k 0 (by simp)
      obtain ⟨d0, d1⟩ := k3'.cell2
      go_wp2_with (refine stWd rfl _ _ rfl k1 rfl rfl rfl ?_; intro w4 k2 hg2 hs2)
      refine bodyPost_ret (res_wd_tmp rfl k2 rfl) rfl ?_
      exact ⟨rfl, below_of_gb hLx.bel hg2 (by omega) hLx.sz⟩
end Go.Proofs.YtlbiiljncacdoaaGreat
