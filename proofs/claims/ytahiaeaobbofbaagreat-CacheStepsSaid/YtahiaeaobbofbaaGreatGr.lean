/- grid: what is wrong with a grid; how many tiles it has. -/
import Derived.Test.YtahiaeaobbofbaaGreatRowG
import Derived.Test.YtahiaeaobbofbaaGreatLie
import Derived.Test.YtahiaeaobbofbaaGreatQTail
import Derived.BigQuiet
import Derived.Deep.QuietTactic
import Derived.WalkSpells
set_option linter.unusedVariables false
namespace Go.Proofs.YtahiaeaobbofbaaGreat
open Go.RowKit
abbrev grA (W H TW TH : Int) : Array Value := #[.int .i64 W, .int .i64 H, .int .i64 TW, .int .i64 TH]
abbrev grV (W H TW TH : Int) : Value := .agg (grA W H TW TH)
def grC (W H TW TH : Int) : Int := if 32768 < W ∨ 32768 < H then 30 else if W < 1 ∨ H < 1 then 12 else if TW < 1 ∨ 4096 < TW ∨ TH < 1 ∨ 4096 < TH then 10 else 0
theorem gr_cases (W H TW TH : Int) : (32768 < W ∧ Hid (grC W H TW TH = 30)) ∨ (W ≤ 32768 ∧ 32768 < H ∧ Hid (grC W H TW TH = 30)) ∨ (W ≤ 32768 ∧ H ≤ 32768 ∧ W < 1 ∧ Hid (grC W H TW TH = 12)) ∨ (W ≤ 32768 ∧ H ≤ 32768 ∧ 1 ≤ W ∧ H < 1 ∧ Hid (grC W H TW TH = 12))
    ∨ (W ≤ 32768 ∧ H ≤ 32768 ∧ 1 ≤ W ∧ 1 ≤ H ∧ TW < 1 ∧ Hid (grC W H TW TH = 10)) ∨ (W ≤ 32768 ∧ H ≤ 32768 ∧ 1 ≤ W ∧ 1 ≤ H ∧ 1 ≤ TW ∧ 4096 < TW ∧ Hid (grC W H TW TH = 10)) ∨ (W ≤ 32768 ∧ H ≤ 32768 ∧ 1 ≤ W ∧ 1 ≤ H ∧ 1 ≤ TW ∧ TW ≤ 4096 ∧ TH < 1 ∧ Hid (grC W H TW TH = 10)) ∨ (W ≤ 32768 ∧ H ≤ 32768 ∧ 1 ≤ W ∧ 1 ≤ H ∧ 1 ≤ TW ∧ TW ≤ 4096 ∧ 1 ≤ TH ∧ 4096 < TH ∧ Hid (grC W H TW TH = 10))
    ∨ (W ≤ 32768 ∧ H ≤ 32768 ∧ 1 ≤ W ∧ 1 ≤ H ∧ 1 ≤ TW ∧ TW ≤ 4096 ∧ 1 ≤ TH ∧ TH ≤ 4096 ∧ Hid (grC W H TW TH = 0)) := by
  unfold grC Hid
  by_cases h1 : 32768 < W
  · exact .inl ⟨h1, by rw [if_pos (.inl h1)]⟩
  by_cases h2 : 32768 < H
  · exact .inr (.inl ⟨by omega, h2, by rw [if_pos (.inr h2)]⟩)
  rw [if_neg (by omega)]
  by_cases h3 : W < 1
  · exact .inr (.inr (.inl ⟨by omega, by omega, h3, by rw [if_pos (.inl h3)]⟩))
  by_cases h4 : H < 1
  · exact .inr (.inr (.inr (.inl ⟨by omega, by omega, by omega, h4, by rw [if_pos (.inr h4)]⟩)))
  rw [if_neg (by omega)]
  by_cases h5 : TW < 1
  · exact .inr (.inr (.inr (.inr (.inl ⟨by omega, by omega, by omega, by omega, h5, by rw [if_pos (.inl h5)]⟩))))
  by_cases h6 : 4096 < TW
  · exact .inr (.inr (.inr (.inr (.inr (.inl ⟨by omega, by omega, by omega, by omega, by omega, h6, by rw [if_pos (.inr (.inl h6))]⟩)))))
  by_cases h7 : TH < 1
  · exact .inr (.inr (.inr (.inr (.inr (.inr (.inl ⟨by omega, by omega, by omega, by omega, by omega, by omega, h7, by rw [if_pos (.inr (.inr (.inl h7)))]⟩))))))
  by_cases h8 : 4096 < TH
  · exact .inr (.inr (.inr (.inr (.inr (.inr (.inr (.inl ⟨by omega, by omega, by omega, by omega, by omega, by omega, by omega, h8, by rw [if_pos (.inr (.inr (.inr h8)))]⟩)))))))
  · exact .inr (.inr (.inr (.inr (.inr (.inr (.inr (.inr ⟨by omega, by omega, by omega, by omega, by omega, by omega, by omega, by omega, by rw [if_neg (by omega)]⟩)))))))
theorem grC_zero {W H TW TH : Int} : grC W H TW TH = 0 ↔ ((1 ≤ W ∧ W ≤ 32768) ∧ (1 ≤ H ∧ H ≤ 32768) ∧ (1 ≤ TW ∧ TW ≤ 4096) ∧ (1 ≤ TH ∧ TH ≤ 4096)) := by
  unfold grC
  constructor
  · intro h
    split at h
    · cases h
    · split at h
      · cases h
      · split at h
        · cases h
        · omega
  · rintro h
    rw [if_neg (by omega), if_neg (by omega), if_neg (by omega)]
set_option maxRecDepth 100000 in
set_option maxHeartbeats 8000000 in
theorem gcheck_any (W H TW TH : Int) (w : World) : Calls Tryz.prog 80 #[grV W H TW TH] w fun e w' => e = .returned (.int .i64 (grC W H TW TH)) ∧ Below w.heap.size w w' := by
  have hb := (Below.refl w.heap.size w).alloc (Nat.le_refl _) (.cells (grA W H TW TH) 97)
  rcases gr_cases W H TW TH with ⟨h1, HE⟩ | ⟨h1, h2, HE⟩ | ⟨h1, h2, h3, HE⟩ | ⟨h1, h2, h3, h4, HE⟩ | ⟨h1, h2, h3, h4, h5, HE⟩ | ⟨h1, h2, h3, h4, h5, h6, HE⟩ | ⟨h1, h2, h3, h4, h5, h6, h7, HE⟩ | ⟨h1, h2, h3, h4, h5, h6, h7, h8, HE⟩ | ⟨h1, h2, h3, h4, h5, h6, h7, h8, HE⟩
  all_goals
    go_enter Tryz.func80, Tryz.ntmps80
    go_wp2_with fail
    go_returns
    exact ⟨by rw [HE.out]; rfl, hb⟩
theorem gr_size : (Tryz.prog.info? 97).map (·.size) = some 4 := by kernel_rfl
theorem rgr_size : (Tryz.prog.info? 116).map (·.size) = some 4 := by kernel_rfl
set_option maxHeartbeats 2000000 in
theorem gright_any (W H TW TH : Int) (w : World) : Calls Tryz.prog 63 #[grV W H TW TH] w fun e w' => e = .returned (.bool (grC W H TW TH == 0)) ∧ Below w.heap.size w w' := by
  have hL := (Lie.start w).alloc (grA W H TW TH) 97
  have hK : Bk (w.alloc (.cells (grA W H TW TH) 97)) w.heap.size 97 (grA W H TW TH) := hL.k 0 (by simp)
  have hC := fun w' => gcheck_any W H TW TH w'
  generalize grC W H TW TH = C at *
  go_enter Tryz.func63, Tryz.ntmps63
  go_wp2_with (first
    | (refine ldB rfl _ _ rfl hK rfl Tryz.underlying97 rfl gr_size ?_)
    | (go_at_call 80; (with_reducible refine (hC _).mono ?_); rintro e w1 ⟨rfl, hb1⟩))
  go_returns
  exact ⟨rfl, (hL.nx hb1).bel⟩
/-- how many tiles stand along a side. -/
def grN (W T : Int) : Int := (W + T - 1) / T
theorem grN_bd {W T : Int} (hW : 1 ≤ W ∧ W ≤ 32768) (hT : 1 ≤ T ∧ T ≤ 4096) : 1 ≤ grN W T ∧ grN W T ≤ 36864 ∧ Int.tdiv (W + T - 1) T = grN W T := by
  unfold grN
  refine ⟨?_, ?_, Int.tdiv_eq_ediv_of_nonneg (by omega)⟩
  · rw [Int.le_ediv_iff_mul_le (by omega)]; omega
  · exact Int.le_trans (Int.ediv_le_self T (by omega)) (by omega)
set_option maxRecDepth 100000 in
set_option maxHeartbeats 4000000 in
theorem gcols_any (W H TW TH : Int) (w : World) (h0 : grC W H TW TH = 0) : Calls Tryz.prog 66 #[grV W H TW TH] w fun e w' => e = .returned (.int .i64 (grN W TW)) ∧ Below w.heap.size w w' := by
  obtain ⟨hW, hH, hTW, hTH⟩ := grC_zero.1 h0
  obtain ⟨n0, n1, n2⟩ := grN_bd hW hTW
  have hL := (Lie.start w).alloc (grA W H TW TH) 97
  have hK : Bk (w.alloc (.cells (grA W H TW TH) 97)) w.heap.size 97 (grA W H TW TH) := hL.k 0 (by simp)
  have hR := fun w' => gright_any W H TW TH w'
  rw [h0] at hR
  have k1 : wrap64 (W + TW) = W + TW := IntWalk.wrap64_in _ ⟨by omega, by omega⟩
  have k2 : wrap64 (W + TW - 1) = W + TW - 1 := IntWalk.wrap64_in _ ⟨by omega, by omega⟩
  have k3 : wrap64 (Int.tdiv (W + TW - 1) TW) = grN W TW := by rw [n2]; exact IntWalk.wrap64_in _ ⟨by omega, by omega⟩
  have t1 : 1 ≤ TW := hTW.1
  have b0 : (TW == 0) = false := by simp; omega
  have b1 : (TW == -1) = false := by simp; omega
  clear h0 hW hH hTW hTH n0 n1
  have N2 := Lib.hid n2
  clear n2
  go_enter Tryz.func66, Tryz.ntmps66
  go_wp2_with (first
    | (refine ldB rfl _ _ rfl hK rfl Tryz.underlying97 rfl gr_size ?_)
    | (go_at_call 63; (with_reducible refine (hR _).mono ?_); rintro e w1 ⟨rfl, hb1⟩; have q1 := (hK.nx hb1).cell4; obtain ⟨c0, c1, c2, c3⟩ := q1))
  go_returns
  exact ⟨ret_int (by first | exact k3 | exact N2.out | rfl), (hL.nx hb1).bel⟩
set_option maxRecDepth 100000 in
set_option maxHeartbeats 4000000 in
theorem grows_any (W H TW TH : Int) (w : World) (h0 : grC W H TW TH = 0) : Calls Tryz.prog 91 #[grV W H TW TH] w fun e w' => e = .returned (.int .i64 (grN H TH)) ∧ Below w.heap.size w w' := by
  obtain ⟨hW, hH, hTW, hTH⟩ := grC_zero.1 h0
  obtain ⟨n0, n1, n2⟩ := grN_bd hH hTH
  have hL := (Lie.start w).alloc (grA W H TW TH) 97
  have hK : Bk (w.alloc (.cells (grA W H TW TH) 97)) w.heap.size 97 (grA W H TW TH) := hL.k 0 (by simp)
  have hR := fun w' => gright_any W H TW TH w'
  rw [h0] at hR
  have k1 : wrap64 (H + TH) = H + TH := IntWalk.wrap64_in _ ⟨by omega, by omega⟩
  have k2 : wrap64 (H + TH - 1) = H + TH - 1 := IntWalk.wrap64_in _ ⟨by omega, by omega⟩
  have k3 : wrap64 (Int.tdiv (H + TH - 1) TH) = grN H TH := by rw [n2]; exact IntWalk.wrap64_in _ ⟨by omega, by omega⟩
  have t1 : 1 ≤ TH := hTH.1
  have b0 : (TH == 0) = false := by simp; omega
  have b1 : (TH == -1) = false := by simp; omega
  clear h0 hW hH hTW hTH n0 n1
  have N2 := Lib.hid n2
  clear n2
  go_enter Tryz.func91, Tryz.ntmps91
  go_wp2_with (first
    | (refine ldB rfl _ _ rfl hK rfl Tryz.underlying97 rfl gr_size ?_)
    | (go_at_call 63; (with_reducible refine (hR _).mono ?_); rintro e w1 ⟨rfl, hb1⟩; have q1 := (hK.nx hb1).cell4; obtain ⟨c0, c1, c2, c3⟩ := q1))
  go_returns
  exact ⟨ret_int (by first | exact k3 | exact N2.out | rfl), (hL.nx hb1).bel⟩
set_option maxRecDepth 100000 in
set_option maxHeartbeats 4000000 in
theorem gcount_any (W H TW TH : Int) (w : World) (h0 : grC W H TW TH = 0) : Calls Tryz.prog 77 #[grV W H TW TH] w fun e w' => e = .returned (.int .i64 (grN W TW * grN H TH)) ∧ Below w.heap.size w w' := by
  obtain ⟨hW, hH, hTW, hTH⟩ := grC_zero.1 h0
  obtain ⟨n0, n1, _⟩ := grN_bd hW hTW
  obtain ⟨m0, m1, _⟩ := grN_bd hH hTH
  have hL := (Lie.start w).alloc (grA W H TW TH) 97
  have hK : Bk (w.alloc (.cells (grA W H TW TH) 97)) w.heap.size 97 (grA W H TW TH) := hL.k 0 (by simp)
  have hC := fun w' => gcols_any W H TW TH w' h0
  have hR := fun w' => grows_any W H TW TH w' h0
  have p1 : grN W TW * grN H TH ≤ 36864 * 36864 := Int.mul_le_mul n1 m1 (by omega) (by omega)
  have p0 : 0 ≤ grN W TW * grN H TH := Int.mul_nonneg (by omega) (by omega)
  have k1 : IntKind.i64.wrap (grN W TW * grN H TH) = grN W TW * grN H TH := IntWalk.i64_in _ ⟨by omega, by omega⟩
  clear h0 hW hH hTW hTH n0 n1 m0 m1 p0 p1
  generalize grN W TW = X at *
  generalize grN H TH = Y at *
  go_enter Tryz.func77, Tryz.ntmps77
  go_wp2_with fail
  generalize hw1 : w.alloc (.cells (grA W H TW TH) 97) = w1 at *
  clear hw1
  refine wp_region_quiet_below (by kernel_rfl) (by kernel_rfl) ?_
  repeat (first
    | (refine wpQuiet_load rfl _ _ rfl hK rfl Tryz.underlying97 rfl gr_size ?_; simp only [Act.put, List.setIfInBounds_toArray, List.set_cons_zero, List.set_cons_succ])
    | go_big_quiet_step ((first | with_reducible exact quiet_below (hC _) | with_reducible exact quiet_below (hR _)))
    | quiet_step ((first | with_reducible exact quiet_below (hC _) | with_reducible exact quiet_below (hR _))))
  refine wpQuiet_nil ?_
  intro _ hw'
  obtain ⟨⟨dd, os⟩, hw''⟩ := hw'
  subst hw''
  have hbx := below_regrown w1 dd os
  generalize Go.Sort.grow (redrawn w1 dd) os = wx at *
  have hb := (hL.nx hbx).bel
  clear hC hR
  go_wp2_with fail
  go_returns
  exact ⟨rfl, hb⟩
end Go.Proofs.YtahiaeaobbofbaaGreat
