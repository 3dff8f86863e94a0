/- meter: what a warp costs. -/
import Derived.Test.YtlbiiljncacdoaaGreatMe3
set_option linter.unusedVariables false
namespace Go.Proofs.YtlbiiljncacdoaaGreat
open Go.RowKit
def eaC (kn n : Int) : Int := if kn = 1 then 4 else if kn = 2 then 16 else if kn = 3 then 4 * n * n else 1
set_option maxRecDepth 100000 in
set_option maxHeartbeats 4000000 in
theorem meach_any (k : Int) (A : Option Addr) (sn cp : Nat) (W H kn n mo c0 c1 c2 c3 mi : Int) (w : World) (hn : kn = 3 → 1 ≤ n ∧ n ≤ 8) :
    Calls Tryz.prog 119 #[.agg (wrA k A sn cp W H kn n mo c0 c1 c2 c3 mi)] w fun e w' => e = .returned (.int .i64 (eaC kn n)) ∧ Below w.heap.size w w' := by
  have hb := (Below.refl w.heap.size w).alloc (Nat.le_refl _) (.cells (wrA k A sn cp W H kn n mo c0 c1 c2 c3 mi) 107)
  have hc : (kn = 1 ∧ Hid (eaC kn n = 4)) ∨ (kn = 2 ∧ Hid (eaC kn n = 16)) ∨ (kn = 3 ∧ Hid (eaC kn n = 4 * n * n)) ∨ (kn ≠ 1 ∧ kn ≠ 2 ∧ kn ≠ 3 ∧ Hid (eaC kn n = 1)) := by
    unfold eaC Hid
    by_cases h1 : kn = 1 <;> by_cases h2 : kn = 2 <;> by_cases h3 : kn = 3 <;> simp [h1, h2, h3] <;> omega
  rcases hc with ⟨h1, HE⟩ | ⟨h1, HE⟩ | ⟨h1, HE⟩ | ⟨h1, h2, h3, HE⟩
  · subst h1; clear hn
    go_enter Tryz.func119, Tryz.ntmps119
    go_wp2_with fail
    go_returns
    exact ⟨by rw [HE.out]; rfl, hb⟩
  · subst h1; clear hn
    go_enter Tryz.func119, Tryz.ntmps119
    go_wp2_with fail
    go_returns
    exact ⟨by rw [HE.out]; rfl, hb⟩
  · obtain ⟨n1, n8⟩ := hn h1
    subst h1; clear hn
    have m1 : n * n ≤ 8 * 8 := Int.mul_le_mul n8 n8 (by omega) (by omega)
    have m0 : 0 ≤ n * n := Int.mul_nonneg (by omega) (by omega)
    have k1 : wrap64 (4 * n) = 4 * n := IntWalk.wrap64_in _ ⟨by omega, by omega⟩
    have ea : 4 * n * n = 4 * (n * n) := Int.mul_assoc _ _ _
    have k2 : wrap64 (4 * n * n) = 4 * n * n := IntWalk.wrap64_in _ ⟨by omega, by omega⟩
    clear ea m0 m1
    go_enter Tryz.func119, Tryz.ntmps119
    go_wp2_with fail
    go_returns
    exact ⟨by rw [HE.out]; exact ret_int k2, hb⟩
  · have b1 : (kn == 1) = false := by simp [h1]
    have b2 : (kn == 2) = false := by simp [h2]
    have b3 : (kn == 3) = false := by simp [h3]
    clear hn h1 h2 h3
    go_enter Tryz.func119, Tryz.ntmps119
    go_wp2_with fail
    go_returns
    exact ⟨by rw [HE.out]; rfl, hb⟩
theorem wr_size : (Tryz.prog.info? 107).map (·.size) = some 12 := by kernel_rfl
theorem smC_zero {kn n mo : Int} : smC kn n mo = 0 ↔ ((0 ≤ kn ∧ kn ≤ 3) ∧ (kn = 3 → 1 ≤ n ∧ n ≤ 8) ∧ 0 ≤ mo ∧ mo ≤ 3) := by
  unfold smC boC
  split
  · split
    · constructor
      · intro h; omega
      · rintro ⟨_, h, _⟩; omega
    · split
      · constructor
        · intro h; omega
        · rintro ⟨_, _, h⟩; omega
      · constructor
        · intro _; exact ⟨by omega, by omega, by omega, by omega⟩
        · intro _; rfl
  · constructor
    · intro h; omega
    · rintro ⟨h, _⟩; omega
theorem msC_zero {W H : Int} : msC W H = 0 ↔ ((1 ≤ W ∧ W ≤ 32768) ∧ (1 ≤ H ∧ H ≤ 32768) ∧ W * H ≤ 4194304) := by
  unfold msC
  split
  · constructor
    · intro h; omega
    · rintro ⟨h, _⟩; omega
  · split
    · constructor
      · intro h; omega
      · rintro ⟨h, _⟩; omega
    · split
      · constructor
        · intro h; omega
        · rintro ⟨_, _, h⟩; omega
      · constructor
        · intro _; exact ⟨by omega, by omega, by omega⟩
        · intro _; rfl
theorem wrC_zero {W H kn n mo mi xc : Int} : wrC W H kn n mo mi xc = 0 ↔ (smC kn n mo = 0 ∧ msC W H = 0 ∧ (0 ≤ mi ∧ mi ≤ 15) ∧ xc = 0) := by
  unfold wrC
  split
  · rename_i h; constructor
    · intro h'; exact absurd h' h
    · rintro ⟨h', _⟩; exact absurd h' h
  · rename_i h; split
    · rename_i h2; constructor
      · intro h'; exact absurd h' h2
      · rintro ⟨_, h', _⟩; exact absurd h' h2
    · rename_i h2; split
      · constructor
        · intro h; omega
        · rintro ⟨_, _, h, _⟩; omega
      · constructor
        · intro h3; exact ⟨by omega, by omega, by omega, h3⟩
        · rintro ⟨_, _, _, h⟩; exact h
theorem ea_bd {kn n : Int} (hn : kn = 3 → 1 ≤ n ∧ n ≤ 8) : 1 ≤ eaC kn n ∧ eaC kn n ≤ 256 := by
  unfold eaC
  split
  · omega
  · split
    · omega
    · split
      · rename_i h
        obtain ⟨n1, n8⟩ := hn h
        have m1 : n * n ≤ 8 * 8 := Int.mul_le_mul n8 n8 (by omega) (by omega)
        have m0 : 1 * 1 ≤ n * n := Int.mul_le_mul n1 n1 (by omega) (by omega)
        rw [Int.mul_assoc]; omega
      · omega
set_option maxRecDepth 100000 in
set_option maxHeartbeats 8000000 in
theorem mcost_any (k : Int) (A : Option Addr) (sn cp : Nat) (W H kn n mo c0 c1 c2 c3 mi xc : Int) (w : World)
    (hX : ∀ w', Below w.heap.size w w' → Calls Tryz.prog 27 #[.agg #[.int .i64 k, .slice A sn cp], .int .i64 W, .int .i64 H] w' fun e w'' => e = .returned (.int .i64 xc) ∧ Below w'.heap.size w' w'') :
    Calls Tryz.prog 59 #[.agg (wrA k A sn cp W H kn n mo c0 c1 c2 c3 mi)] w fun e w' => e = .returned (.tuple #[.int .i64 (if wrC W H kn n mo mi xc = 0 then W * H * eaC kn n else 0), .int .i64 (wrC W H kn n mo mi xc)]) ∧ Below w.heap.size w w' := by
  have hL := (Lie.start w).alloc (wrA k A sn cp W H kn n mo c0 c1 c2 c3 mi) 107
  have hK : Bk (w.alloc (.cells (wrA k A sn cp W H kn n mo c0 c1 c2 c3 mi) 107)) w.heap.size 107 (wrA k A sn cp W H kn n mo c0 c1 c2 c3 mi) := hL.k 0 (by simp)
  have hW := mwarp_any k A sn cp W H kn n mo c0 c1 c2 c3 mi xc (w.alloc (.cells (wrA k A sn cp W H kn n mo c0 c1 c2 c3 mi) 107)) (fun w' hb => hX w' (hL.bel.trans (hb.mono hL.sz)))
  clear hX
  by_cases h0 : wrC W H kn n mo mi xc = 0
  · obtain ⟨z1, z2, z3, z4⟩ := wrC_zero.1 h0
    obtain ⟨⟨y0, y1⟩, y2, y3, y4⟩ := smC_zero.1 z1
    obtain ⟨⟨x0, x1⟩, ⟨x2, x3⟩, x4⟩ := msC_zero.1 z2
    have hE := fun w' => meach_any k A sn cp W H kn n mo c0 c1 c2 c3 mi w' y2
    obtain ⟨e0, e1⟩ := ea_bd y2
    have m0 : 1 * 1 ≤ W * H := Int.mul_le_mul x0 x2 (by omega) (by omega)
    have m1 := Int.mul_le_mul x4 e1 (by omega) (by omega)
    have m2 : 0 ≤ W * H * eaC kn n := Int.mul_nonneg (by omega) (by omega)
    have w1 : IntKind.i64.wrap (W * H) = W * H := IntWalk.i64_in _ ⟨by omega, by omega⟩
    have w2 : IntKind.i64.wrap (W * H * eaC kn n) = W * H * eaC kn n := IntWalk.i64_in _ ⟨by omega, by omega⟩
    rw [if_pos h0, h0]
    rw [h0] at hW
    clear h0 z1 z2 z3 z4 y0 y1 y2 y3 y4 x0 x1 x2 x3 x4 m0 m1 m2 e0 e1
    generalize eaC kn n = E at *
    go_enter Tryz.func59, Tryz.ntmps59
    go_wp2_with (first
      | (refine ldB rfl _ _ rfl hK rfl Tryz.underlying107 rfl wr_size ?_)
      | (go_at_call 58; (with_reducible refine hW.mono ?_); rintro e w3 ⟨rfl, hb3⟩))
    have hL3 := hL.nx hb3
    have hK3 := hK.nx hb3
    obtain ⟨d0, d1, d2, d3, d4, d5, d6, d7, d8, d9, d10, d11⟩ := hK3.cell12
    clear hW hL hK hb3 d0 d1 d4 d5 d6 d7 d8 d9 d10 d11
    have r2 := fun (n : Nat) (os : Array Obj) => cell_regrown d2 n os
    have r3 := fun (n : Nat) (os : Array Obj) => cell_regrown d3 n os
    refine wp_region_quiet_below (by kernel_rfl) (by kernel_rfl) ?_
    repeat (first
      | (refine wpQuiet_load rfl _ _ rfl hK3 rfl Tryz.underlying107 rfl wr_size ?_; simp only [Act.put, List.setIfInBounds_toArray, List.set_cons_zero, List.set_cons_succ])
      | go_big_quiet_step ((with_reducible exact quiet_below (hE _)))
      | quiet_step ((with_reducible exact quiet_below (hE _))))
    refine wpQuiet_nil ?_
    intro _ hw'
    obtain ⟨⟨d, os⟩, hw''⟩ := hw'
    subst hw''
    have hbx := below_regrown w3 d os
    generalize Go.Sort.grow (redrawn w3 d) os = wx at *
    have hb := (hL3.nx hbx).bel
    clear r2 r3 d2 d3 hE
    go_wp2_with fail
    go_returns
    exact ⟨rfl, hb⟩
  · have hb1 : (wrC W H kn n mo mi xc != 0) = true := by simp [h0]
    rw [if_neg h0]
    clear h0
    generalize wrC W H kn n mo mi xc = C at *
    go_enter Tryz.func59, Tryz.ntmps59
    go_wp2_with (first
      | (refine ldB rfl _ _ rfl hK rfl Tryz.underlying107 rfl wr_size ?_)
      | (go_at_call 58; (with_reducible refine hW.mono ?_); rintro e w3 ⟨rfl, hb3⟩))
    go_returns
    exact ⟨rfl, (hL.nx hb3).bel⟩
end Go.Proofs.YtlbiiljncacdoaaGreat
