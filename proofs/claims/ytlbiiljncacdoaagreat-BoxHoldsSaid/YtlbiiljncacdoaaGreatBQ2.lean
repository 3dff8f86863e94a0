/- The reference's Both, of whatever rectangles; a part of a part. -/
import Derived.Test.YtlbiiljncacdoaaGreatKJ
set_option linter.unusedVariables false
namespace Go.Proofs.YtlbiiljncacdoaaGreat
open Go.RowKit
attribute [local go_sem high] run_maxM run_minM
set_option maxRecDepth 100000 in
set_option maxHeartbeats 4000000 in
theorem rboth_e (a b c d e f g h : Int) (w : World) (h1 : rc_emptyR a b c d) (h2 : ¬ rc_emptyR e f g h) (hr : 0 ≤ e ∧ 0 ≤ f) : Calls Tryz.prog 54 #[rc_rect4 a b c d, rc_rect4 e f g h] w fun e' w' => e' = .returned (rcv (bothR a b c d e f g h)) ∧ Below w.heap.size w w' := by
  have hL := (((Lie.start w).alloc (rc_rectA a b c d) 78).alloc (rc_rectA e f g h) 78).alloc (rc_rectA 0 0 0 0) 78
  simp only [World.size_alloc] at hL
  have HE : Hid (bothR a b c d e f g h = (0, 0, 0, 0)) := by unfold bothR Hid; rw [if_pos (.inl h1)]
  have k2 := hL.k 2 (by simp)
  have k3 := hL.k 1 (by simp)
  simp only [List.getElem_cons_zero, List.getElem_cons_succ] at k2 k3
  have hN1 := fun w' => rc_rnorm_e a b c d w' h1
  have hN2 := fun w' => rc_rnorm_ok e f g h w' h2
  have h3 : rc_emptyR (max 0 e) (max 0 f) (min 0 g) (min 0 h) := by
    have : min 0 g ≤ max 0 e := by omega
    exact .inr (.inl this)
  have hN := fun w' => rc_rnorm_e _ _ _ _ w' h3
  clear h1 h2 h3 hr
  go_enter Tryz.func54, Tryz.ntmps54
  go_upto_region 2 with (first
    | (refine rc_ldRect rfl _ rfl k2 rfl ?_)
    | (go_at_call 115; (with_reducible refine (hN1 _).mono ?_); rintro e' w1 ⟨rfl, hb1⟩; have hL1 := hL.nx hb1; have hK1 := Bk.new w1 78 (rc_rectA 0 0 0 0))
    | (refine rc_stRect rfl _ _ rfl hK1 rfl rfl rfl ?_; intro w2 k42 hg2 hs2))
  have hL2 := hL1.put hg2 k42
  have k32 : Bk w2 (w.heap.size + 1) 78 (rc_rectA e f g h) := hL2.k 2 (by simp)
  clear hL1 hL hb1 hK1 k2 k3 hg2 hs2 hN1
  go_upto_region 3 with (first
    | (refine rc_ldRect rfl _ rfl k32 rfl ?_)
    | (go_at_call 115; (with_reducible refine (hN2 _).mono ?_); rintro e' w3 ⟨rfl, hb3⟩; have hL3 := hL2.nx hb3; have hK3 := Bk.new w3 78 (rc_rectA 0 0 0 0))
    | (refine rc_stRect rfl _ _ rfl hK3 rfl rfl rfl ?_; intro w4 k44 hg4 hs4))
  have hL4 := hL3.put hg4 k44
  generalize w1.heap.size = g5 at *
  generalize w3.heap.size = g6 at *
  have k54 : Bk w4 g5 78 (rc_rectA 0 0 0 0) := hL4.k 1 (by simp)
  have kr4 : Bk w4 (w.heap.size + 1 + 1) 78 (rc_rectA 0 0 0 0) := hL4.k 2 (by simp)
  obtain ⟨x0, x1, x2, x3⟩ := k54.cell4
  obtain ⟨y0, y1, y2, y3⟩ := k44.cell4
  clear hL3 hL2 hb3 hK3 k32 k42 hg4 hs4 hN2 k44 k54
  go_wp2_with (first
    | (go_at_call 115; (with_reducible refine (hN _).mono ?_); rintro e' w5 ⟨rfl, hb5⟩; have hL5 := hL4.nx hb5; have kr5 := kr4.nx hb5)
    | (refine rc_stRect rfl _ _ rfl kr5 rfl rfl rfl ?_; intro w6 k46 hg6 hs6))
  refine bodyPost_ret (rc_res_rect rfl k46 rfl) rfl ?_
  exact ⟨by rw [HE.out], below_of_gb hL5.bel hg6 (by omega) hL5.sz⟩
theorem rboth_any (a b c d e f g h : Int) (w : World) (h2 : ¬ rc_emptyR e f g h) (hr : 0 ≤ e ∧ 0 ≤ f) : Calls Tryz.prog 54 #[rc_rect4 a b c d, rc_rect4 e f g h] w fun e' w' => e' = .returned (rcv (bothR a b c d e f g h)) ∧ Below w.heap.size w w' := by
  by_cases h1 : rc_emptyR a b c d
  · exact rboth_e a b c d e f g h w h1 h2 hr
  · exact rboth_ok a b c d e f g h w h1 h2
/-- A part of a part lies within it. -/
theorem both_in {a b c d e f g h p q r s : Int} (hB : bothR a b c d e f g h = (p, q, r, s)) (hne : ¬ rc_emptyR p q r s) : e ≤ p ∧ f ≤ q ∧ r ≤ g ∧ s ≤ h := by
  unfold bothR at hB
  split at hB
  · simp only [Prod.mk.injEq] at hB
    obtain ⟨rfl, rfl, rfl, rfl⟩ := hB
    exact absurd (by simp [rc_emptyR]) hne
  · simp only [Prod.mk.injEq] at hB
    omega
end Go.Proofs.YtlbiiljncacdoaaGreat
