/- The reference's answer of chapter 44: what is wrong with a warp, what it costs. -/
import Derived.Test.YtencbfmcmpmdnaaGreatDoorNP
import Derived.Test.YtencbfmcmpmdnaaGreatDoorKS
set_option linter.unusedVariables false
namespace Go.Proofs.YtencbfmcmpmdnaaGreatDoor
open Go.RowKit
theorem sm_cases (k n mo : Int) : (k < 0 ∧ Hid (smC k n mo = 10)) ∨ (0 ≤ k ∧ 3 < k ∧ Hid (smC k n mo = 10)) ∨ (k = 3 ∧ n < 1 ∧ Hid (smC k n mo = 11)) ∨ (k = 3 ∧ 1 ≤ n ∧ 8 < n ∧ Hid (smC k n mo = 11)) ∨
    (((k = 3 ∧ 1 ≤ n ∧ n ≤ 8) ∨ (0 ≤ k ∧ k < 3)) ∧ ((mo < 0 ∧ Hid (smC k n mo = 10)) ∨ (0 ≤ mo ∧ 3 < mo ∧ Hid (smC k n mo = 10)) ∨ (0 ≤ mo ∧ mo ≤ 3 ∧ Hid (smC k n mo = 0)))) := by
  by_cases h : 0 ≤ k ∧ k ≤ 3
  · by_cases h3 : k = 3
    · by_cases h1 : n < 1
      · exact .inr (.inr (.inl ⟨h3, h1, by show _ = _; unfold smC; rw [if_pos h, if_pos ⟨h3, .inl h1⟩]⟩))
      by_cases h2 : 8 < n
      · exact .inr (.inr (.inr (.inl ⟨h3, by omega, h2, by show _ = _; unfold smC; rw [if_pos h, if_pos ⟨h3, .inr h2⟩]⟩)))
      have e : smC k n mo = boC mo := by unfold smC; rw [if_pos h, if_neg (by omega)]
      refine .inr (.inr (.inr (.inr ⟨.inl ⟨h3, by omega, by omega⟩, ?_⟩)))
      rw [e]
      by_cases m1 : mo < 0
      · exact .inl ⟨m1, by show _ = _; unfold boC; rw [if_pos (.inl m1)]⟩
      by_cases m2 : 3 < mo
      · exact .inr (.inl ⟨by omega, m2, by show _ = _; unfold boC; rw [if_pos (.inr m2)]⟩)
      exact .inr (.inr ⟨by omega, by omega, by show _ = _; unfold boC; rw [if_neg (by omega)]⟩)
    · have e : smC k n mo = boC mo := by unfold smC; rw [if_pos h, if_neg (by omega)]
      refine .inr (.inr (.inr (.inr ⟨.inr ⟨by omega, by omega⟩, ?_⟩)))
      rw [e]
      by_cases m1 : mo < 0
      · exact .inl ⟨m1, by show _ = _; unfold boC; rw [if_pos (.inl m1)]⟩
      by_cases m2 : 3 < mo
      · exact .inr (.inl ⟨by omega, m2, by show _ = _; unfold boC; rw [if_pos (.inr m2)]⟩)
      exact .inr (.inr ⟨by omega, by omega, by show _ = _; unfold boC; rw [if_neg (by omega)]⟩)
  · have e : smC k n mo = 10 := by unfold smC; rw [if_neg h]
    by_cases h0 : k < 0
    · exact .inl ⟨h0, e⟩
    · exact .inr (.inl ⟨by omega, by omega, e⟩)
set_option maxRecDepth 100000 in
set_option maxHeartbeats 8000000 in
theorem rsm_any (k n mo c0 c1 c2 c3 : Int) (w : World) : Calls Tryz.prog 12 #[.int .i64 k, .int .i64 n, boV mo c0 c1 c2 c3] w fun e w' => e = .returned (.int .i64 (smC k n mo)) ∧ Below w.heap.size w w' := by
  have hb := (Below.refl w.heap.size w).alloc (Nat.le_refl _) (.cells (boA mo c0 c1 c2 c3) 27)
  rcases sm_cases k n mo with ⟨h0, HE⟩ | ⟨h0, h1, HE⟩ | ⟨h0, h1, HE⟩ | ⟨h0, h1, h2, HE⟩ | ⟨hk, hm⟩
  · go_enter Tryz.func12, Tryz.ntmps12
    go_wp2_with fail
    go_returns
    exact ⟨by rw [HE.out]; rfl, hb⟩
  · go_enter Tryz.func12, Tryz.ntmps12
    go_wp2_with fail
    go_returns
    exact ⟨by rw [HE.out]; rfl, hb⟩
  · subst h0
    go_enter Tryz.func12, Tryz.ntmps12
    go_wp2_with fail
    go_returns
    exact ⟨by rw [HE.out]; rfl, hb⟩
  · subst h0
    go_enter Tryz.func12, Tryz.ntmps12
    go_wp2_with fail
    go_returns
    exact ⟨by rw [HE.out]; rfl, hb⟩
  · rcases hk with ⟨rfl, h1, h2⟩ | ⟨h1, h2⟩
    · rcases hm with ⟨m0, HE⟩ | ⟨m0, m1, HE⟩ | ⟨m0, m1, HE⟩
      all_goals
        go_enter Tryz.func12, Tryz.ntmps12
        go_wp2_with fail
        go_returns
        exact ⟨by rw [HE.out]; rfl, hb⟩
    · have hk3 : (k == 3) = false := by have : k ≠ 3 := by omega
                                        simp [this]
      rcases hm with ⟨m0, HE⟩ | ⟨m0, m1, HE⟩ | ⟨m0, m1, HE⟩
      all_goals
        go_enter Tryz.func12, Tryz.ntmps12
        go_wp2_with fail
        go_returns
        exact ⟨by rw [HE.out]; rfl, hb⟩
set_option maxRecDepth 100000 in
set_option maxHeartbeats 8000000 in
theorem mrfits_any (W H : Int) (w : World) : Calls Tryz.prog 13 #[.int .i64 W, .int .i64 H, .int .i64 1] w fun e w' => e = .returned (.int .i64 (msC W H)) ∧ w = w' := by
  have hc : (32768 < W ∧ Hid (msC W H = 30)) ∨ (W ≤ 32768 ∧ 32768 < H ∧ Hid (msC W H = 30)) ∨ (W ≤ 32768 ∧ H ≤ 32768 ∧ W < 1 ∧ Hid (msC W H = 12)) ∨ (W ≤ 32768 ∧ H ≤ 32768 ∧ 1 ≤ W ∧ H < 1 ∧ Hid (msC W H = 12)) ∨ (W ≤ 32768 ∧ H ≤ 32768 ∧ 1 ≤ W ∧ 1 ≤ H ∧ 4194304 < W * H ∧ Hid (msC W H = 30)) ∨ (W ≤ 32768 ∧ H ≤ 32768 ∧ 1 ≤ W ∧ 1 ≤ H ∧ W * H ≤ 4194304 ∧ Hid (msC W H = 0)) := by
    unfold msC Hid
    by_cases h1 : 32768 < W <;> by_cases h2 : 32768 < H <;> by_cases h3 : W < 1 <;> by_cases h4 : H < 1 <;> by_cases h5 : 4194304 < W * H <;> simp [h1, h2, h3, h4, h5] <;> omega
  rcases hc with ⟨h1, HE⟩ | ⟨h1, h2, HE⟩ | ⟨h1, h2, h3, HE⟩ | ⟨h1, h2, h3, h4, HE⟩ | ⟨h1, h2, h3, h4, h5, HE⟩ | ⟨h1, h2, h3, h4, h5, HE⟩
  all_goals try
    have m1 := Int.mul_le_mul h1 h2 (by omega) (by omega)
    have m0 : 1 * 1 ≤ W * H := Int.mul_le_mul h3 h4 (by omega) (by omega)
    obtain ⟨z, hz⟩ : ∃ z, W * H = z := ⟨_, rfl⟩
    have w1 : wrap64 (W * H) = z := by rw [IntWalk.wrap64_in _ ⟨by omega, by omega⟩]; exact hz
    rw [hz] at h5
    clear hz m0 m1
  all_goals
    go_enter Tryz.func13, Tryz.ntmps13
    go_wp2_with fail
    go_returns
    exact ⟨by rw [HE.out]; rfl, rfl⟩
set_option maxRecDepth 100000 in
set_option maxHeartbeats 8000000 in
theorem rwarp_any (k : Int) (A : Option Addr) (sn cp : Nat) (W H kn n mo c0 c1 c2 c3 mi xc : Int) (w : World)
    (hX : ∀ w', Below w.heap.size w w' → Calls Tryz.prog 14 #[.agg #[.int .i64 k, .slice A sn cp], .int .i64 W, .int .i64 H] w' fun e w'' => e = .returned (.int .i64 xc) ∧ Below w'.heap.size w' w'') :
    Calls Tryz.prog 5 #[.agg (wrA k A sn cp W H kn n mo c0 c1 c2 c3 mi)] w fun e w' => e = .returned (.int .i64 (wrC W H kn n mo mi xc)) ∧ Below w.heap.size w w' := by
  have hL := (Lie.start w).alloc (wrA k A sn cp W H kn n mo c0 c1 c2 c3 mi) 29
  have hc : (smC kn n mo ≠ 0 ∧ Hid (wrC W H kn n mo mi xc = smC kn n mo)) ∨ (smC kn n mo = 0 ∧ msC W H ≠ 0 ∧ Hid (wrC W H kn n mo mi xc = msC W H)) ∨ (smC kn n mo = 0 ∧ msC W H = 0 ∧ mi < 0 ∧ Hid (wrC W H kn n mo mi xc = 10)) ∨ (smC kn n mo = 0 ∧ msC W H = 0 ∧ 0 ≤ mi ∧ 15 < mi ∧ Hid (wrC W H kn n mo mi xc = 10)) ∨ (smC kn n mo = 0 ∧ msC W H = 0 ∧ 0 ≤ mi ∧ mi ≤ 15 ∧ Hid (wrC W H kn n mo mi xc = xc)) := by
    unfold wrC Hid
    by_cases h1 : smC kn n mo = 0 <;> by_cases h2 : msC W H = 0 <;> by_cases h3 : mi < 0 <;> by_cases h4 : 15 < mi <;> simp [h1, h2, h3, h4] <;> omega
  have hS := fun w' => rsm_any kn n mo c0 c1 c2 c3 w'
  have hZ := fun w' => mrfits_any W H w'
  have hK : Bk (w.alloc (.cells (wrA k A sn cp W H kn n mo c0 c1 c2 c3 mi) 29)) w.heap.size 29 (wrA k A sn cp W H kn n mo c0 c1 c2 c3 mi) := hL.k 0 (by simp)
  obtain ⟨d0, d1, d2, d3, d4, d5, d6, d7, d8, d9, d10, d11⟩ := hK.cell12
  generalize smC kn n mo = s1 at *
  generalize msC W H = s2 at *
  rcases hc with ⟨z1, HE⟩ | ⟨rfl, z2, HE⟩ | ⟨rfl, rfl, h3, HE⟩ | ⟨rfl, rfl, h3, h4, HE⟩ | ⟨rfl, rfl, h3, h4, HE⟩
  · have b1 : (s1 != 0) = true := by simp [z1]
    clear z1 hX
    go_enter Tryz.func5, Tryz.ntmps5
    go_wp2_with (first
      | (go_at_call 12; (with_reducible refine (hS _).mono ?_); rintro e w3 ⟨rfl, hb3⟩))
    go_returns
    exact ⟨by rw [HE.out]; rfl, (hL.nx hb3).bel⟩
  · have b2 : (s2 != 0) = true := by simp [z2]
    clear z2 hX
    go_enter Tryz.func5, Tryz.ntmps5
    go_wp2_with (first
      | (go_at_call 12; (with_reducible refine (hS _).mono ?_); rintro e w3 ⟨rfl, hb3⟩; have hL3 := hL.nx hb3; have hq3 := (hK.nx hb3).cell12; obtain ⟨e0, e1, e2, e3, e4, e5, e6, e7, e8, e9, e10, e11⟩ := hq3)
      | (go_at_call 13; (with_reducible refine (hZ _).mono ?_); rintro e w4 ⟨rfl, rfl⟩))
    go_returns
    exact ⟨by rw [HE.out]; rfl, hL3.bel⟩
  · clear hX
    go_enter Tryz.func5, Tryz.ntmps5
    go_wp2_with (first
      | (go_at_call 12; (with_reducible refine (hS _).mono ?_); rintro e w3 ⟨rfl, hb3⟩; have hL3 := hL.nx hb3; have hq3 := (hK.nx hb3).cell12; obtain ⟨e0, e1, e2, e3, e4, e5, e6, e7, e8, e9, e10, e11⟩ := hq3)
      | (go_at_call 13; (with_reducible refine (hZ _).mono ?_); rintro e w4 ⟨rfl, rfl⟩))
    go_returns
    exact ⟨by rw [HE.out]; rfl, hL3.bel⟩
  · clear hX
    go_enter Tryz.func5, Tryz.ntmps5
    go_wp2_with (first
      | (go_at_call 12; (with_reducible refine (hS _).mono ?_); rintro e w3 ⟨rfl, hb3⟩; have hL3 := hL.nx hb3; have hq3 := (hK.nx hb3).cell12; obtain ⟨e0, e1, e2, e3, e4, e5, e6, e7, e8, e9, e10, e11⟩ := hq3)
      | (go_at_call 13; (with_reducible refine (hZ _).mono ?_); rintro e w4 ⟨rfl, rfl⟩))
    go_returns
    exact ⟨by rw [HE.out]; rfl, hL3.bel⟩
  · go_enter Tryz.func5, Tryz.ntmps5
    go_wp2_with (first
      | (go_at_call 12; (with_reducible refine (hS _).mono ?_); rintro e w3 ⟨rfl, hb3⟩; have hL3 := hL.nx hb3; have hq3 := (hK.nx hb3).cell12; obtain ⟨e0, e1, e2, e3, e4, e5, e6, e7, e8, e9, e10, e11⟩ := hq3)
      | (go_at_call 13; (with_reducible refine (hZ _).mono ?_); rintro e w4 ⟨rfl, rfl⟩)
      | (go_at_call 14; (with_reducible refine (hX _ hL3.bel).mono ?_); rintro e w5 ⟨rfl, hb5⟩))
    go_returns
    exact ⟨by rw [HE.out]; rfl, (hL3.nx hb5).bel⟩
end Go.Proofs.YtencbfmcmpmdnaaGreatDoor
