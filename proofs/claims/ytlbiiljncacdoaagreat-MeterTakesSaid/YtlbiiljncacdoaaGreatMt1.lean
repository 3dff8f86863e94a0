/- Matrices: numbers that may be, places, cofactors. -/
import Derived.Test.YtlbiiljncacdoaaGreatQt3
import Derived.Test.YtlbiiljncacdoaaGreatQTail
set_option linter.unusedVariables false
namespace Go.Proofs.YtlbiiljncacdoaaGreat
open Go.RowKit
def M31 (x : Int) : Prop := -2147483648 ≤ x ∧ x ≤ 2147483648
abbrev mA (m : Nat → Int) : Array Value := #[.int .i64 (m 0), .int .i64 (m 1), .int .i64 (m 2), .int .i64 (m 3), .int .i64 (m 4), .int .i64 (m 5), .int .i64 (m 6), .int .i64 (m 7), .int .i64 (m 8)]
theorem mout_any (x : Int) (w : World) (h : M31 x) : Calls Tryz.prog 284 #[.int .i64 x] w fun e w' => e = .returned (.bool false) ∧ w = w' := by
  obtain ⟨h1, h2⟩ := h
  go_enter Tryz.func284, Tryz.ntmps284
  go_wp2
  go_ret
  exact ⟨ret_bool (by simp; omega), rfl⟩
theorem Bk.cell9 {w : World} {g : Nat} {t : TypeId} {v0 v1 v2 v3 v4 v5 v6 v7 v8 : Value} (h : Bk w g t #[v0, v1, v2, v3, v4, v5, v6, v7, v8]) : w.cell? ⟨g, 0, none⟩ = some v0 ∧ w.cell? ⟨g, 1, none⟩ = some v1 ∧ w.cell? ⟨g, 2, none⟩ = some v2 ∧ w.cell? ⟨g, 3, none⟩ = some v3 ∧ w.cell? ⟨g, 4, none⟩ = some v4 ∧ w.cell? ⟨g, 5, none⟩ = some v5 ∧ w.cell? ⟨g, 6, none⟩ = some v6 ∧ w.cell? ⟨g, 7, none⟩ = some v7 ∧ w.cell? ⟨g, 8, none⟩ = some v8 :=
  ⟨by rw [h.cell]; rfl, by rw [h.cell]; rfl, by rw [h.cell]; rfl, by rw [h.cell]; rfl, by rw [h.cell]; rfl, by rw [h.cell]; rfl, by rw [h.cell]; rfl, by rw [h.cell]; rfl, by rw [h.cell]; rfl⟩
theorem mA_at {m : Nat → Int} {w : World} {g : Nat} {t : TypeId} (h : Bk w g t (mA m)) (i : Nat) (hi : i < 9) : w.cell? ⟨g, i, none⟩ = some (.int .i64 (m i)) := by
  rw [h.cell]
  have h9 : i = 0 ∨ i = 1 ∨ i = 2 ∨ i = 3 ∨ i = 4 ∨ i = 5 ∨ i = 6 ∨ i = 7 ∨ i = 8 := by omega
  rcases h9 with rfl | rfl | rfl | rfl | rfl | rfl | rfl | rfl | rfl <;> rfl
set_option maxRecDepth 100000 in
set_option maxHeartbeats 2000000 in
theorem mindex_any (m : Nat → Int) (g : Nat) (w : World) (hK : Bk w g 296 (mA m)) (hm : ∀ i, i < 9 → M31 (m i)) :
    Calls Tryz.prog 244 #[.slice (some ⟨g, 0, none⟩) 9 9, .func (.func 284) #[] #[]] w fun e w' => e = .returned (.int .i64 (-1)) ∧ w = w' := by
  have HM := Lib.hid hm
  clear hm
  go_enter Tryz.func244, Tryz.ntmps244
  go_wp2_with fail
  go_loop [8] (fun v => ∃ k : Nat, k ≤ 9 ∧ v = .int .i64 k) (fun v => 9 - (intOf v).toNat)
  case atStart => exact ⟨0, by omega, rfl⟩
  case round =>
    obtain ⟨k, hk, rfl⟩ := hrel
    by_cases hlt : k < 9
    · have hc := mA_at hK k hlt
      have hmk := HM.out k hlt
      go_wp2_with ((with_reducible refine (mout_any _ _ hmk).mono ?_); rintro e w1 ⟨rfl, rfl⟩)
      exact ⟨⟨k + 1, by omega, by go_num⟩, by simp [intOf]; omega⟩
    · obtain rfl : k = 9 := by omega
      go_wp2_with fail
      go_ret
      exact ⟨rfl, rfl⟩
set_option maxHeartbeats 1000000 in
theorem mright_any (m : Nat → Int) (w : World) (hm : ∀ i, i < 9 → M31 (m i)) : Calls Tryz.prog 273 #[.agg (mA m)] w fun e w' => e = .returned (.bool true) ∧ Below w.heap.size w w' := by
  have HM := Lib.hid hm
  clear hm
  have hK := Bk.new w 296 (mA m)
  have hC : ∀ (w' : World) (g : Nat), Bk w' g 296 (mA m) → Calls Tryz.prog 208 #[.slice (some ⟨g, 0, none⟩) 9 9, .func (.func 284) #[] #[]] w' fun e w'' => e = .returned (.bool false) ∧ w' = w'' := fun w' g hk => by
    go_enter Tryz.func208, Tryz.ntmps208
    go_wp2_with (go_at_call 244; (with_reducible refine (mindex_any m g _ hk HM.out).mono ?_); rintro e w1 ⟨rfl, rfl⟩)
    go_ret
    exact ⟨rfl, rfl⟩
  go_enter Tryz.func273, Tryz.ntmps273
  go_wp2_with (go_at_call 208; (with_reducible refine (hC _ _ (by exact hK)).mono ?_); rintro e w1 ⟨rfl, rfl⟩)
  go_returns
  exact ⟨rfl, by go_grown⟩
def mAt (m : Nat → Int) (r c : Int) : Int := m (r % 3 * 3 + c % 3).toNat
set_option maxRecDepth 100000 in
set_option maxHeartbeats 4000000 in
theorem mat_any (m : Nat → Int) (r c : Int) (w : World) (hr : 0 ≤ r) (hr2 : r ≤ 4) (hc : 0 ≤ c) (hc2 : c ≤ 4) : Calls Tryz.prog 287 #[.agg (mA m), .int .i64 r, .int .i64 c] w fun e w' => e = .returned (.int .i64 (mAt m r c)) ∧ Below w.heap.size w w' := by
  have hK := Bk.new w 296 (mA m)
  obtain ⟨i, hi, hi9⟩ : ∃ i : Nat, r % 3 * 3 + c % 3 = (i : Int) ∧ i < 9 := ⟨(r % 3 * 3 + c % 3).toNat, by omega, by omega⟩
  have hx := mA_at hK i hi9
  have HM : Hid (mAt m r c = m i) := by show _ = _; unfold mAt; rw [hi, Int.toNat_natCast]
  go_enter Tryz.func287, Tryz.ntmps287
  go_wp2
  go_returns
  exact ⟨ret_int HM.out.symm, by go_grown⟩
theorem mAt_bd {m : Nat → Int} (hm : ∀ i, i < 9 → M31 (m i)) (r c : Int) : M31 (mAt m r c) := hm _ (by omega)
theorem prod31 {x y : Int} (hx : M31 x) (hy : M31 y) : -4611686018427387904 ≤ x * y ∧ x * y ≤ 4611686018427387904 := by
  unfold M31 at *
  have h := Nat.mul_le_mul (show x.natAbs ≤ 2147483648 by omega) (show y.natAbs ≤ 2147483648 by omega)
  rw [← Int.natAbs_mul] at h
  omega
theorem m31_j {x : Int} (h : M31 x) : J64 x := by unfold M31 at h; unfold J64; omega
set_option maxHeartbeats 4000000 in
theorem mless_any (a b c d : Int) (w : World) (ha : M31 a) (hb : M31 b) (hc : M31 c) (hd : M31 d) : Calls Tryz.prog 286 #[.int .i64 a, .int .i64 b, .int .i64 c, .int .i64 d] w fun e w' => e = .returned (WV (a * b - c * d)) ∧ Below w.heap.size w w' := by
  have p1 := prod31 ha hb
  have p2 := prod31 hc hd
  have h1 := fun w' => wmul_any a b w' (m31_j ha) (m31_j hb)
  have h2 := fun w' => wmul_any c d w' (m31_j hc) (m31_j hd)
  have h3 := fun w' => wsub_any (a * b) (c * d) w' (by unfold Wd; omega) (by unfold Wd; omega) (by unfold Wd; omega)
  have hL := (Lie.start w).alloc #[.int .i64 0, .int .u64 0] 261
  clear p1 p2 ha hb hc hd
  generalize a * b - c * d = z at *
  generalize a * b = x at *
  generalize c * d = y at *
  go_enter Tryz.func286, Tryz.ntmps286
  go_wp2_with fail
  refine (h1 _).mono ?_
  rintro e w1 ⟨rfl, hb1⟩
  replace hL := hL.nx hb1
  go_wp2_with fail
  refine (h2 _).mono ?_
  rintro e w2 ⟨rfl, hb2⟩
  replace hL := hL.nx hb2
  go_wp2_with (first
    | (go_at_call 289; (with_reducible refine (h3 _).mono ?_); rintro e w3 ⟨rfl, hb3⟩; have hL3 := (hL.nx hb3).alloc (wdA z) 261; have k3 : Bk _ w.heap.size 261 #[.int .i64 0, .int .u64 0] := hL3.k 1 (by simp))
    | (refine stWd rfl _ _ rfl k3 rfl rfl rfl ?_; intro w4 k4 hg4 hs4))
  refine bodyPost_ret (res_wd rfl k4 rfl) rfl ?_
  exact ⟨rfl, below_of_gb hL3.bel hg4 (by omega) hL3.sz⟩
theorem keep9 {w w' : World} {B g : Nat} {v0 v1 v2 v3 v4 v5 v6 v7 v8 : Value}
    (h : w.cell? ⟨g, 0, none⟩ = some v0 ∧ w.cell? ⟨g, 1, none⟩ = some v1 ∧ w.cell? ⟨g, 2, none⟩ = some v2 ∧ w.cell? ⟨g, 3, none⟩ = some v3 ∧ w.cell? ⟨g, 4, none⟩ = some v4 ∧ w.cell? ⟨g, 5, none⟩ = some v5 ∧ w.cell? ⟨g, 6, none⟩ = some v6 ∧ w.cell? ⟨g, 7, none⟩ = some v7 ∧ w.cell? ⟨g, 8, none⟩ = some v8)
    (hg : g < B) (hb : Below B w w') :
    (w'.cell? ⟨g, 0, none⟩ = some v0 ∧ w'.cell? ⟨g, 1, none⟩ = some v1 ∧ w'.cell? ⟨g, 2, none⟩ = some v2 ∧ w'.cell? ⟨g, 3, none⟩ = some v3 ∧ w'.cell? ⟨g, 4, none⟩ = some v4 ∧ w'.cell? ⟨g, 5, none⟩ = some v5 ∧ w'.cell? ⟨g, 6, none⟩ = some v6 ∧ w'.cell? ⟨g, 7, none⟩ = some v7 ∧ w'.cell? ⟨g, 8, none⟩ = some v8) ∧ Below B w w' := by
  obtain ⟨h0, h1, h2, h3, h4, h5, h6, h7, h8⟩ := h
  exact ⟨⟨(hb.cell (by exact hg)).trans h0, (hb.cell (by exact hg)).trans h1, (hb.cell (by exact hg)).trans h2, (hb.cell (by exact hg)).trans h3, (hb.cell (by exact hg)).trans h4, (hb.cell (by exact hg)).trans h5, (hb.cell (by exact hg)).trans h6, (hb.cell (by exact hg)).trans h7, (hb.cell (by exact hg)).trans h8⟩, hb⟩
theorem Bk.range {w : World} {g : Nat} {t : TypeId} {cs : Array Value} (h : Bk w g t cs) : w.rangeAt g 0 cs.toList := fun j v hj => by
  rw [Nat.zero_add, h.cell]; simpa using hj
theorem range_below {w w' : World} {B g : Nat} {l : List Value} (h : w.rangeAt g 0 l) (hg : g < B) (hb : Below B w w') : w'.rangeAt g 0 l ∧ Below B w w' := ⟨fun j v hj => (hb.cell (by exact hg)).trans (h j v hj), hb⟩
theorem m_info : (Tryz.prog.info? 296).map (·.size) = some 9 := by kernel_rfl
def cof (m : Nat → Int) (r c : Int) : Int := mAt m (r + 1) (c + 1) * mAt m (r + 2) (c + 2) - mAt m (r + 1) (c + 2) * mAt m (r + 2) (c + 1)
set_option maxRecDepth 100000 in
set_option maxHeartbeats 8000000 in
theorem cof_any (m : Nat → Int) (r c : Int) (w : World) (hm : ∀ i, i < 9 → M31 (m i)) (hr : 0 ≤ r) (hr2 : r ≤ 2) (hc : 0 ≤ c) (hc2 : c ≤ 2) :
    Calls Tryz.prog 275 #[.agg (mA m), .int .i64 r, .int .i64 c] w fun e w' => e = .returned (WV (cof m r c)) ∧ Below w.heap.size w w' := by
  have hA := fun (w' : World) (x y : Int) (h1 : 0 ≤ x) (h2 : x ≤ 4) (h3 : 0 ≤ y) (h4 : y ≤ 4) => mat_any m x y w' h1 h2 h3 h4
  have hLs := fun w' => mless_any (mAt m (r + 1) (c + 1)) (mAt m (r + 2) (c + 2)) (mAt m (r + 1) (c + 2)) (mAt m (r + 2) (c + 1)) w' (mAt_bd hm _ _) (mAt_bd hm _ _) (mAt_bd hm _ _) (mAt_bd hm _ _)
  have HC := Lib.hid (show cof m r c = mAt m (r + 1) (c + 1) * mAt m (r + 2) (c + 2) - mAt m (r + 1) (c + 2) * mAt m (r + 2) (c + 1) from rfl)
  rw [← HC.out] at hLs
  clear HC hm
  have a1 : IntKind.i64.wrap (r + 1) = r + 1 := IntWalk.i64_in _ ⟨by omega, by omega⟩
  have a2 : IntKind.i64.wrap (r + 2) = r + 2 := IntWalk.i64_in _ ⟨by omega, by omega⟩
  have a3 : IntKind.i64.wrap (c + 1) = c + 1 := IntWalk.i64_in _ ⟨by omega, by omega⟩
  have a4 : IntKind.i64.wrap (c + 2) = c + 2 := IntWalk.i64_in _ ⟨by omega, by omega⟩
  have b11 := fun w' => hA w' (r + 1) (c + 1) (by omega) (by omega) (by omega) (by omega)
  have b22 := fun w' => hA w' (r + 2) (c + 2) (by omega) (by omega) (by omega) (by omega)
  have b12 := fun w' => hA w' (r + 1) (c + 2) (by omega) (by omega) (by omega) (by omega)
  have b21 := fun w' => hA w' (r + 2) (c + 1) (by omega) (by omega) (by omega) (by omega)
  clear hA
  have hL := ((Lie.start w).alloc (mA m) 296).alloc #[.int .i64 0, .int .u64 0] 261
  simp only [World.size_alloc] at hL
  go_enter Tryz.func275, Tryz.ntmps275
  go_upto_region 1 with fail
  generalize (w.alloc (.cells (mA m) 296)).alloc (.cells #[.int .i64 0, .int .u64 0] 261) = w1 at *
  have k0 : Bk w1 w.heap.size 296 (mA m) := hL.k 1 (by simp)
  have k1 : Bk w1 (w.heap.size + 1) 261 #[.int .i64 0, .int .u64 0] := hL.k 0 (by simp)
  have hcl := k0.cell9
  have hlt := k0.lt
  obtain ⟨c0, c1, c2, c3, c4, c5, c6, c7, c8⟩ := hcl
  have hb0 : Below w1.heap.size w1 w1.drew := below_drewN (Below.refl _ _) 1
  refine wp_region_quiet_tail 25 (by kernel_rfl) (by kernel_rfl) ?_
  simp only [List.take_succ_cons, List.take_zero, List.drop_succ_cons, List.drop_zero]
  repeat (first | (refine wpQuiet_load rfl _ _ rfl k0 rfl Tryz.underlying296 rfl m_info ?_; simp only [Act.put, List.setIfInBounds_toArray, List.set_cons_zero, List.set_cons_succ]) | go_big_quiet_step ((first | with_reducible exact quiet_below (b11 _) | with_reducible exact quiet_below (b22 _) | with_reducible exact quiet_below (b12 _) | with_reducible exact quiet_below (b21 _) | with_reducible exact quiet_below (hLs _))) | quiet_step ((first | with_reducible exact quiet_below (b11 _) | with_reducible exact quiet_below (b22 _) | with_reducible exact quiet_below (b12 _) | with_reducible exact quiet_below (b21 _) | with_reducible exact quiet_below (hLs _))))
  refine wpQuiet_nil ?_
  intro _ hw'
  obtain ⟨⟨d, os⟩, hw''⟩ := hw'
  subst hw''
  have hbx := below_regrown w1 d os
  generalize Go.Sort.grow (redrawn w1 d) os = wx at *
  have hLx := hL.nx hbx
  have k1x : Bk wx (w.heap.size + 1) 261 #[.int .i64 0, .int .u64 0] := hLx.k 0 (by simp)
  go_wp2_with (refine stWd rfl _ _ rfl k1x rfl rfl rfl ?_; intro w4 k4 hg4 hs4)
  refine bodyPost_ret (res_wd rfl k4 rfl) rfl ?_
  exact ⟨rfl, below_of_gb hLx.bel hg4 (by omega) hLx.sz⟩
end Go.Proofs.YtlbiiljncacdoaaGreat
