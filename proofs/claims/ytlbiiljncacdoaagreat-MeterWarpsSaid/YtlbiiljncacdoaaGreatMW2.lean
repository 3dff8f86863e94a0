/- The law MeterWarps: the walk. -/
import Derived.Test.YtlbiiljncacdoaaGreatMW1
set_option linter.unusedVariables false
namespace Go.Proofs.YtlbiiljncacdoaaGreat
open Go.RowKit
set_option maxRecDepth 100000 in
set_option maxHeartbeats 8000000 in
theorem rcost_any (k : Int) (A : Option Addr) (sn cp : Nat) (W H kn n mo c0 c1 c2 c3 mi : Int) (w : World) (hk : 0 ≤ kn ∧ kn ≤ 3) (hn : kn = 3 → 1 ≤ n ∧ n ≤ 8) (hW : 1 ≤ W ∧ W ≤ 32768) (hH : 1 ≤ H ∧ H ≤ 32768) (hp : W * H ≤ 4194304) :
    Calls Tryz.prog 62 #[.agg (wrA k A sn cp W H kn n mo c0 c1 c2 c3 mi)] w fun e w' => e = .returned (.int .i64 (W * H * eaC kn n)) ∧ Below w.heap.size w w' := by
  have hL := (Lie.start w).alloc (wrA k A sn cp W H kn n mo c0 c1 c2 c3 mi) 107
  have hK : Bk (w.alloc (.cells (wrA k A sn cp W H kn n mo c0 c1 c2 c3 mi) 107)) w.heap.size 107 (wrA k A sn cp W H kn n mo c0 c1 c2 c3 mi) := hL.k 0 (by simp)
  obtain ⟨d0, d1, d2, d3, d4, d5, d6, d7, d8, d9, d10, d11⟩ := hK.cell12
  clear d0 d1 d6 d7 d8 d9 d10 d11
  obtain ⟨e0, e1⟩ := ea_bd hn
  have m0 : 1 * 1 ≤ W * H := Int.mul_le_mul hW.1 hH.1 (by omega) (by omega)
  have m1 := Int.mul_le_mul hp e1 (by omega) (by omega)
  have m2 : 0 ≤ W * H * eaC kn n := Int.mul_nonneg (by omega) (by omega)
  have eH : Hid (W * H * eaC kn n = W * H * eaC kn n) := rfl
  obtain ⟨q, hq⟩ : ∃ q, W * H * eaC kn n = q := ⟨_, rfl⟩
  have w2 : wrap64 (W * H * eaC kn n) = q := by rw [IntWalk.wrap64_in _ ⟨by omega, by omega⟩]; exact hq
  obtain ⟨p, hp'⟩ : ∃ p, W * H = p := ⟨_, rfl⟩
  have w1 : wrap64 (W * H) = p := by rw [IntWalk.wrap64_in _ ⟨by omega, by omega⟩]; exact hp'
  rw [hp'] at w2
  rw [hq]
  clear hq eH m0 m1 m2 hp' hp e0 e1 hW hH
  rcases (show kn = 0 ∨ kn = 1 ∨ kn = 2 ∨ kn = 3 by omega) with rfl | rfl | rfl | rfl
  · rw [show eaC 0 n = 1 from rfl, Int.mul_one] at w2
    clear hk hn
    obtain ⟨z, hz⟩ : ∃ z, wrap64 (wrap64 (4 * n) * n) = z := ⟨_, rfl⟩
    have hbK := hL.alloc #[.int .i64 1, .int .i64 4, .int .i64 16, .int .i64 z] 3
    go_enter Tryz.func62, Tryz.ntmps62
    go_wp2_with fail
    go_returns
    exact ⟨by rw [← w2]; rfl, hbK.bel⟩
  · rw [show eaC 1 n = 4 from rfl] at w2
    clear hk hn
    obtain ⟨z, hz⟩ : ∃ z, wrap64 (wrap64 (4 * n) * n) = z := ⟨_, rfl⟩
    have hbK := hL.alloc #[.int .i64 1, .int .i64 4, .int .i64 16, .int .i64 z] 3
    go_enter Tryz.func62, Tryz.ntmps62
    go_wp2_with fail
    go_returns
    exact ⟨by rw [← w2]; rfl, hbK.bel⟩
  · rw [show eaC 2 n = 16 from rfl] at w2
    clear hk hn
    obtain ⟨z, hz⟩ : ∃ z, wrap64 (wrap64 (4 * n) * n) = z := ⟨_, rfl⟩
    have hbK := hL.alloc #[.int .i64 1, .int .i64 4, .int .i64 16, .int .i64 z] 3
    go_enter Tryz.func62, Tryz.ntmps62
    go_wp2_with fail
    go_returns
    exact ⟨by rw [← w2]; rfl, hbK.bel⟩
  · rw [show eaC 3 n = 4 * n * n from rfl] at w2
    obtain ⟨n0, n1⟩ := hn rfl
    have k1 : 1 * 1 ≤ n * n := Int.mul_le_mul n0 n0 (by omega) (by omega)
    have k2 : n * n ≤ 8 * 8 := Int.mul_le_mul n1 n1 (by omega) (by omega)
    obtain ⟨z, hz⟩ : ∃ z, 4 * n * n = z := ⟨_, rfl⟩
    have hz2 : wrap64 (4 * n * n) = z := by rw [IntWalk.wrap64_in _ ⟨by rw [Int.mul_assoc]; omega, by rw [Int.mul_assoc]; omega⟩]; exact hz
    rw [hz] at w2
    clear hk hn hz k1 k2
    have hbK := hL.alloc #[.int .i64 1, .int .i64 4, .int .i64 16, .int .i64 z] 3
    go_enter Tryz.func62, Tryz.ntmps62
    go_wp2_with fail
    go_returns
    exact ⟨by rw [← w2]; rfl, hbK.bel⟩
set_option maxRecDepth 100000 in
set_option maxHeartbeats 16000000 in
theorem walkMeterWarps (k : Int) (A : Option Addr) (sn cp : Nat) (W H kn n mo c0 c1 c2 c3 mi xc : Int) (w : World)
    (hX : sn ≤ 9000 → ∀ w', Below w.heap.size w w' → Calls Tryz.prog 27 #[.agg #[.int .i64 k, .slice A sn cp], .int .i64 W, .int .i64 H] w' fun e w'' => e = .returned (.int .i64 xc) ∧ Below w'.heap.size w' w'')
    (hR : sn ≤ 9000 → ∀ w', Below w.heap.size w w' → Calls Tryz.prog 26 #[.agg #[.int .i64 k, .slice A sn cp], .int .i64 W, .int .i64 H] w' fun e w'' => e = .returned (.int .i64 xc) ∧ Below w'.heap.size w' w'')
    (hAl : ∀ w : World, Calls Tryz.prog 61 #[] w fun e w' => e = .returned (.bool true) ∧ Below w.heap.size w w') :
    Calls Tryz.prog 12 #[.agg (wrA k A sn cp W H kn n mo c0 c1 c2 c3 mi)] w fun e w' => e = .returned (.bool true) ∧ Below w.heap.size w w' := by
  have hL := (Lie.start w).alloc (wrA k A sn cp W H kn n mo c0 c1 c2 c3 mi) 107
  have hK : Bk (w.alloc (.cells (wrA k A sn cp W H kn n mo c0 c1 c2 c3 mi) 107)) w.heap.size 107 (wrA k A sn cp W H kn n mo c0 c1 c2 c3 mi) := hL.k 0 (by simp)
  obtain ⟨d0, d1, _⟩ := hK.cell12
  by_cases h9 : 9000 < sn
  · clear hX hR
    go_enter Tryz.func12, Tryz.ntmps12
    go_wp2_with fail
    go_returns
    exact ⟨rfl, hL.bel⟩
  replace hX := hX (by omega)
  replace hR := hR (by omega)
  have h1 := fun (w' : World) (hb : Below w.heap.size w w') => mwarp_any k A sn cp W H kn n mo c0 c1 c2 c3 mi xc w' (fun w'' hb' => hX w'' (hb.trans (hb'.mono hb.size)))
  have h2 := fun (w' : World) (hb : Below w.heap.size w w') => mcost_any k A sn cp W H kn n mo c0 c1 c2 c3 mi xc w' (fun w'' hb' => hX w'' (hb.trans (hb'.mono hb.size)))
  have h3 := fun (w' : World) (hb : Below w.heap.size w w') => rwarp_any k A sn cp W H kn n mo c0 c1 c2 c3 mi xc w' (fun w'' hb' => hR w'' (hb.trans (hb'.mono hb.size)))
  have h4 : wrC W H kn n mo mi xc = 0 → ∀ w' : World, Calls Tryz.prog 62 #[.agg (wrA k A sn cp W H kn n mo c0 c1 c2 c3 mi)] w' fun e w'' => e = .returned (.int .i64 (W * H * eaC kn n)) ∧ Below w'.heap.size w' w'' := fun h0 w' => by
    obtain ⟨z1, z2, z3, z4⟩ := wrC_zero.1 h0
    obtain ⟨y0, y2, y3⟩ := smC_zero.1 z1
    obtain ⟨x0, x2, x4⟩ := msC_zero.1 z2
    exact rcost_any k A sn cp W H kn n mo c0 c1 c2 c3 mi w' y0 y2 x0 x2 x4
  clear hX hR
  by_cases hz : wrC W H kn n mo mi xc = 0
  · replace h4 := h4 hz
    rw [if_pos hz] at h2
    rw [hz] at h1 h2 h3
    clear hz
    generalize W * H * eaC kn n = z at *
    go_enter Tryz.func12, Tryz.ntmps12
    go_wp2_with (first
      | (refine ldB rfl _ _ rfl hK rfl Tryz.underlying107 rfl wr_size ?_)
      | (go_at_call 58; (with_reducible refine (h1 _ hL.bel).mono ?_); rintro e w1 ⟨rfl, hb1⟩; have hL1 := hL.nx hb1; have hK1 := hK.nx hb1)
      | (refine ldB rfl _ _ rfl hK1 rfl Tryz.underlying107 rfl wr_size ?_)
      | (go_at_call 59; (with_reducible refine (h2 _ hL1.bel).mono ?_); rintro e w2 ⟨rfl, hb2⟩; have hL2 := hL1.nx hb2; have hK2 := hK1.nx hb2)
      | (refine ldB rfl _ _ rfl hK2 rfl Tryz.underlying107 rfl wr_size ?_)
      | (go_at_call 60; (with_reducible refine (h3 _ hL2.bel).mono ?_); rintro e w3 ⟨rfl, hb3⟩; have hL3 := hL2.nx hb3; have hK3 := hK2.nx hb3)
      | (refine ldB rfl _ _ rfl hK3 rfl Tryz.underlying107 rfl wr_size ?_)
      | (go_at_call 62; (with_reducible refine (h4 _).mono ?_); rintro e w4 ⟨rfl, hb4⟩; have hL4 := hL3.nx hb4)
      | (go_at_call 61; (with_reducible refine (hAl _).mono ?_); rintro e wz ⟨rfl, hbz⟩))
    go_returns
    exact ⟨rfl, (hL4.nx hbz).bel⟩
  · rw [if_neg hz] at h2
    clear h4
    generalize wrC W H kn n mo mi xc = C at *
    have hbz : (C != 0) = true := by simp [hz]
    clear hz
    go_enter Tryz.func12, Tryz.ntmps12
    go_wp2_with (first
      | (refine ldB rfl _ _ rfl hK rfl Tryz.underlying107 rfl wr_size ?_)
      | (go_at_call 58; (with_reducible refine (h1 _ hL.bel).mono ?_); rintro e w1 ⟨rfl, hb1⟩; have hL1 := hL.nx hb1; have hK1 := hK.nx hb1)
      | (refine ldB rfl _ _ rfl hK1 rfl Tryz.underlying107 rfl wr_size ?_)
      | (go_at_call 59; (with_reducible refine (h2 _ hL1.bel).mono ?_); rintro e w2 ⟨rfl, hb2⟩; have hL2 := hL1.nx hb2; have hK2 := hK1.nx hb2)
      | (refine ldB rfl _ _ rfl hK2 rfl Tryz.underlying107 rfl wr_size ?_)
      | (go_at_call 60; (with_reducible refine (h3 _ hL2.bel).mono ?_); rintro e w3 ⟨rfl, hb3⟩; have hL3 := hL2.nx hb3)
      | (go_at_call 61; (with_reducible refine (hAl _).mono ?_); rintro e wz ⟨rfl, hbz⟩))
    go_returns
    exact ⟨rfl, (hL3.nx hbz).bel⟩
end Go.Proofs.YtlbiiljncacdoaaGreat
