/- The reference: what is wrong with a way. -/
import Derived.Test.YtlbiiljncacdoaaGreatMw
set_option linter.unusedVariables false
namespace Go.Proofs.YtlbiiljncacdoaaGreat
open Go.RowKit
set_option maxRecDepth 100000 in
set_option maxHeartbeats 16000000 in
theorem rway_any (TW TH ca : Int) (l : List Int) (A : Option Addr) (n cp : Nat) (W H : Int) (w : World) (hl : l.length = n) (hn : n ≤ 100000) (hr : Rd w w.heap.size A (l.map (Value.int .i64))) :
    Calls Tryz.prog 69 #[wyV TW TH ca A n cp, .int .i64 W, .int .i64 H] w fun e w' => e = .returned (.int .i64 (wyC TW TH ca l W H)) ∧ Below w.heap.size w w' := by
  have hL := ((Lie.start w).alloc (wyA TW TH ca A n cp) 119).alloc (grA W H TW TH) 175
  simp only [World.size_alloc] at hL
  have k3 := hL.k 1 (by simp)
  have k7 := hL.k 0 (by simp)
  simp only [List.getElem_cons_zero, List.getElem_cons_succ] at k3 k7
  have hC := fun w' => rgcheck_any W H TW TH w'
  have hcs := wy_cases TW TH ca l n hl W H
  have hI := fun w' (hb : Below w.heap.size w w') => rpis_any l A n cp (grN W TW * grN H TH) w' hl hn ((hr.below hb).more hb.size)
  clear hl hr
  rcases hcs with ⟨h0, HE⟩ | hcs
  · have hb1 : (grC W H TW TH != 0) = true := by simp [h0]
    clear hI
    generalize grC W H TW TH = C at *
    clear h0
    go_enter Tryz.func69, Tryz.ntmps69
    go_wp2_with (first
      | (refine ldB rfl _ _ rfl k7 rfl Tryz.underlying175 rfl rgr_size ?_)
      | (go_at_call 125; (with_reducible refine (hC _).mono ?_); rintro e w3 ⟨rfl, hb3⟩))
    go_returns
    exact ⟨by rw [HE.out]; rfl, (hL.nx hb3).bel⟩
  · have h0 : grC W H TW TH = 0 := by
      rcases hcs with ⟨h, _⟩ | ⟨h, _⟩ | ⟨h, _⟩ | ⟨h, _⟩ | ⟨h, _⟩
      all_goals exact h
    obtain ⟨hW, hH, hTW, hTH⟩ := grC_zero.1 h0
    obtain ⟨n0, n1, n2⟩ := grN_bd hW hTW
    obtain ⟨m0, m1, m2⟩ := grN_bd hH hTH
    have p1 : grN W TW * grN H TH ≤ 36864 * 36864 := Int.mul_le_mul n1 m1 (by omega) (by omega)
    have p0 : 0 ≤ grN W TW * grN H TH := Int.mul_nonneg (by omega) (by omega)
    have x1 : IntKind.i64.wrap (W + TW) = W + TW := IntWalk.i64_in _ ⟨by omega, by omega⟩
    have x2 : IntKind.i64.wrap (W + TW - 1) = W + TW - 1 := IntWalk.i64_in _ ⟨by omega, by omega⟩
    have x3 : IntKind.i64.wrap (Int.tdiv (W + TW - 1) TW) = grN W TW := by rw [n2]; exact IntWalk.i64_in _ ⟨by omega, by omega⟩
    have x4 : IntKind.i64.wrap (H + TH) = H + TH := IntWalk.i64_in _ ⟨by omega, by omega⟩
    have x5 : IntKind.i64.wrap (H + TH - 1) = H + TH - 1 := IntWalk.i64_in _ ⟨by omega, by omega⟩
    have x6 : IntKind.i64.wrap (Int.tdiv (H + TH - 1) TH) = grN H TH := by rw [m2]; exact IntWalk.i64_in _ ⟨by omega, by omega⟩
    have x7 : IntKind.i64.wrap (grN W TW * grN H TH) = grN W TW * grN H TH := IntWalk.i64_in _ ⟨by omega, by omega⟩
    have t1 : 1 ≤ TW := hTW.1
    have t2 : 1 ≤ TH := hTH.1
    have b0 : (TW == 0) = false := by simp; omega
    have b1 : (TW == -1) = false := by simp; omega
    have b2 : (TH == 0) = false := by simp; omega
    have b3 : (TH == -1) = false := by simp; omega
    rw [h0] at hC
    have HCS := Lib.hid hcs
    clear hcs h0 hW hH hTW hTH n0 n1 n2 m0 m1 m2 p0 p1
    generalize grN W TW = X at *
    generalize grN H TH = Y at *
    obtain ⟨N, hN⟩ : ∃ z, X * Y = z := ⟨_, rfl⟩
    rw [hN] at hI HCS
    replace x7 := x7.trans hN
    clear hN
    go_enter Tryz.func69, Tryz.ntmps69
    go_upto_region 5 with (first
      | (refine ldB rfl _ _ rfl k7 rfl Tryz.underlying175 rfl rgr_size ?_)
      | (go_at_call 125; (with_reducible refine (hC _).mono ?_); rintro e w3 ⟨rfl, hb3⟩))
    have hL3 := hL.nx hb3
    have k33 := k3.nx hb3
    clear hL k3 k7 hb3 hC
    obtain ⟨d0, d1, d2, d3⟩ := k33.cell4
    have hbz := hL3.bel
    rcases HCS.out with ⟨_, h1, HE⟩ | ⟨_, h1, h2, HE⟩ | ⟨_, h1, h2, h3, HE⟩ | ⟨_, h1, h2, h3, h4, HE⟩ | ⟨_, h1, h2, h3, h4, HE⟩
    · have g1 : ca < 1 := of_decide_eq_true h1
      clear HCS h1
      go_wp2_with fail
      go_returns
      exact ⟨by rw [HE.out]; rfl, hbz⟩
    · have g1 : ¬ ca < 1 := of_decide_eq_false h1
      have g2 : 65536 < ca := of_decide_eq_true h2
      clear HCS h1 h2
      go_wp2_with fail
      go_returns
      exact ⟨by rw [HE.out]; rfl, hbz⟩
    all_goals
      have g1 : ¬ ca < 1 := of_decide_eq_false h1
      have g2 : ¬ 65536 < ca := of_decide_eq_false h2
      (try have g3 : ¬ 0 < n := of_decide_eq_false h3)
      (try have g3 : 0 < n := of_decide_eq_true h3)
      have hI3 := fun (w' : World) (hb : Below w3.heap.size w3 w') => hI w' (hbz.trans (hb.mono hbz.size))
      (try rw [h4] at hI3)
      clear HCS h1 h2 h3 hI
      (try clear h4)
      go_wp2_with fail
      go_quiet (fail)
      replace k33 := k33.drewN nq
      replace hbz := below_drewN hbz nq
      have hbd : Below w3.heap.size w3 (w3.drewN nq) := below_drewN (Below.refl _ _) nq
      clear d0 d1 d2 d3
      obtain ⟨d0, d1, d2, d3⟩ := k33.cell4
      have hI4 := hI3 _ hbd
      clear hI3
      generalize w3.drewN nq = w4 at *
      go_wp2_with (go_at_call 126; (with_reducible refine hI4.mono ?_); rintro e w5 ⟨rfl, hb5⟩)
      go_returns
      first
        | exact ⟨by rw [HE.out]; rfl, hbz.trans (hb5.mono hbz.size)⟩
        | exact ⟨by rw [HE.out]; rfl, hbz⟩
end Go.Proofs.YtlbiiljncacdoaaGreat
