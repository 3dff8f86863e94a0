/- container/heap over a row of things: down. (Printed by wip/tools/genag3.py.) -/
import Derived.Test.YtiefhmbffmphdaaAG2
set_option linter.unusedVariables false
namespace Go.Proofs.Ytiefhmbffmphdaa
open Go.RowKit
set_option maxRecDepth 100000 in
set_option maxHeartbeats 8000000 in
theorem down_any {F : Nat → Prop} {w : World} {g : Nat} {A : Option Addr} {n c : Nat} {mv0 : Value} {now : Int} {a : Nat → Nat} {K W : Nat → Int} (h : Hw F w g A n c mv0 now a K W) (i0 m : Nat) (hD : Dn W false a m i0) (hm : m ≤ n) (hn : n ≤ 1000000) :
    Calls Try.prog 26 #[ifV g, .int .i64 (i0 : Nat), .int .i64 (m : Nat)] w fun e w' => ∃ (mv : Bool) (b : Nat → Nat), e = .returned (.bool mv) ∧ Hw F w' g A n c mv0 now b K W ∧ Pm a b n ∧ (∀ x, m ≤ x → b x = a x) ∧ (mv = true → Hp W b m) ∧ (mv = false → Up W b m i0 ∧ b = a) ∧ Only F w w' := by
  go_enter Try.func26, Try.ntmps26
  go_wp2_with fail
  go_loopw [7, 8, 9, 10] (fun iv _ _ _ wr => ∃ (i : Nat) (b : Nat → Nat) (mv : Bool), iv = .int .i64 (i : Nat) ∧ Hw F wr g A n c mv0 now b K W ∧ Dn W mv b m i ∧ (if mv = true then i0 < i else i0 = i) ∧ (mv = false → i = i0 ∧ b = a) ∧ Pm a b n ∧ (∀ x, m ≤ x → b x = a x) ∧ Only F w wr) (fun iv _ _ _ _ => m - (intOf iv).toNat)
  case atStart => exact ⟨i0, a, false, rfl, h, hD, rfl, fun _ => ⟨rfl, rfl⟩, pm_refl a n, fun _ _ => rfl, only_refl F w⟩
  case round =>
    clear h hD
    obtain ⟨i, b, mv, rfl, h, hD, hmv, hno, hP, hX, hO⟩ := hrel
    have him := hD.1
    have hmv2 := Lib.hid hmv
    clear hmv
    obtain ⟨j1, hj1⟩ : ∃ j1, j1 = 2 * i + 1 := ⟨_, rfl⟩
    have hq1 : 2 * (i : Int) + 1 = (j1 : Int) := by omega
    have HI1 := Lib.hid hj1
    clear hj1
    by_cases hge : m ≤ j1
    · have hge2 : (m : Int) ≤ (j1 : Int) := by omega
      go_wp2_with fail
      go_returns
      have hI1 := HI1.out
      have hE := dn_end hD (fun c c0 c1 => by omega)
      have e9 : decide (i0 < i) = mv := by
        have h9 := hmv2.out
        cases mv
        · rw [if_neg (by simp)] at h9; exact decide_eq_false (by omega)
        · rw [if_pos rfl] at h9; exact decide_eq_true (by omega)
      exact ⟨mv, b, ret_bool e9, h, hP, hX, hE.1, fun e => ⟨(hno e).1 ▸ hE.2, (hno e).2⟩, hO⟩
    · have hlt1 : (j1 : Int) < (m : Int) := by omega
      obtain ⟨j2, hj2⟩ : ∃ j2, j2 = j1 + 1 := ⟨_, rfl⟩
      have hq2 : (j1 : Int) + 1 = (j2 : Int) := by omega
      have HI2 := Lib.hid hj2
      clear hj2 hge
      by_cases h2 : j2 < m
      · have hlt2 : (j2 : Int) < (m : Int) := by omega
        have hma := me_less g wr _ h.lv
        have hL1 := rless_any h j2 j1 (by omega) (by omega) hn
        by_cases hc : W (b j2) < W (b j1)
        · rw [decide_eq_true hc] at hL1
          go_upto_region 8 with (go_at_call 64; (with_reducible refine hL1.mono ?_); rintro e w1 ⟨rfl, hb1⟩)
          have h1 := h.nx hb1
          have hO1 : Only F w w1 := hO.trans (G := F) (only_below hb1) (fun i h => .inl h)
          clear hL1 hma
          have hI1 := HI1.out
          have hI2 := HI2.out
          have hmin : ∀ c, c < m → (c = 2 * i + 1 ∨ c = 2 * i + 2) → W (b j2) ≤ W (b c) := by
            intro c c0 c1
            rcases c1 with e | e
            · rw [show c = j1 by omega]; omega
            · rw [show c = j2 by omega]; omega
          have hjn : j2 < n ∧ i < n ∧ i ≠ j2 := by omega
          have hjc : j2 = 2 * i + 1 ∨ j2 = 2 * i + 2 := by omega
          clear hI1 hI2
          have hL2 := rless_any h1 j2 i (by omega) (by omega) hn
          have hmb := me_less g w1 _ h1.lv
          by_cases hl : W (b j2) < W (b i)
          · rw [decide_eq_true hl] at hL2
            go_upto_region 9 with (go_at_call 64; (with_reducible refine hL2.mono ?_); rintro e w3 ⟨rfl, hb3⟩)
            have h3 := h1.nx hb3
            have hms := me_swap g w3 _ h3.lv
            have hS := rswap_any h3 i j2 (by omega) (by omega) (by omega) hn
            have hOb : Only F w w3 := (hO1).trans (G := F) (only_below hb3) (fun i h => .inl h)
            clear hL2 hmb
            go_wp2_with (go_at_call 65; (with_reducible refine hS.mono ?_); rintro e w4 ⟨rfl, h4, hO4, hs4⟩)
            refine ⟨⟨j2, sw b i j2, true, rfl, h4, dn_step hD (by omega) (by omega) hmin hl, ?_, (fun e => by cases e), pm_trans hP (pm_sw b (by omega) (by omega)), (fun x hx => by rw [sw_ne b (by omega) (by omega)]; exact hX x hx), hOb.trans hO4 (fun i h => .inl h)⟩, by simp [intOf]; omega⟩
            rw [if_pos rfl]
            have h9 := hmv2.out
            split at h9 <;> omega
          · rw [decide_eq_false hl] at hL2
            go_wp2_with (go_at_call 64; (with_reducible refine hL2.mono ?_); rintro e w3 ⟨rfl, hb3⟩)
            go_returns
            have hE := dn_end hD (fun c c0 c1 => by have := hmin c c0 c1; omega)
            have e9 : decide (i0 < i) = mv := by
              have h9 := hmv2.out
              cases mv
              · rw [if_neg (by simp)] at h9; exact decide_eq_false (by omega)
              · rw [if_pos rfl] at h9; exact decide_eq_true (by omega)
            exact ⟨mv, b, ret_bool e9, h1.nx hb3, hP, hX, hE.1, fun e => ⟨(hno e).1 ▸ hE.2, (hno e).2⟩, (hO1).trans (G := F) (only_below hb3) (fun i h => .inl h)⟩
        · rw [decide_eq_false hc] at hL1
          go_upto_region 8 with (go_at_call 64; (with_reducible refine hL1.mono ?_); rintro e w1 ⟨rfl, hb1⟩)
          have h1 := h.nx hb1
          have hO1 : Only F w w1 := hO.trans (G := F) (only_below hb1) (fun i h => .inl h)
          clear hL1 hma
          have hI1 := HI1.out
          have hI2 := HI2.out
          have hmin : ∀ c, c < m → (c = 2 * i + 1 ∨ c = 2 * i + 2) → W (b j1) ≤ W (b c) := by
            intro c c0 c1
            rcases c1 with e | e
            · rw [show c = j1 by omega]; omega
            · rw [show c = j2 by omega]; omega
          have hjn : j1 < n ∧ i < n ∧ i ≠ j1 := by omega
          have hjc : j1 = 2 * i + 1 ∨ j1 = 2 * i + 2 := by omega
          clear hI1 hI2
          have hL2 := rless_any h1 j1 i (by omega) (by omega) hn
          have hmb := me_less g w1 _ h1.lv
          by_cases hl : W (b j1) < W (b i)
          · rw [decide_eq_true hl] at hL2
            go_upto_region 9 with (go_at_call 64; (with_reducible refine hL2.mono ?_); rintro e w3 ⟨rfl, hb3⟩)
            have h3 := h1.nx hb3
            have hms := me_swap g w3 _ h3.lv
            have hS := rswap_any h3 i j1 (by omega) (by omega) (by omega) hn
            have hOb : Only F w w3 := (hO1).trans (G := F) (only_below hb3) (fun i h => .inl h)
            clear hL2 hmb
            go_wp2_with (go_at_call 65; (with_reducible refine hS.mono ?_); rintro e w4 ⟨rfl, h4, hO4, hs4⟩)
            refine ⟨⟨j1, sw b i j1, true, rfl, h4, dn_step hD (by omega) (by omega) hmin hl, ?_, (fun e => by cases e), pm_trans hP (pm_sw b (by omega) (by omega)), (fun x hx => by rw [sw_ne b (by omega) (by omega)]; exact hX x hx), hOb.trans hO4 (fun i h => .inl h)⟩, by simp [intOf]; omega⟩
            rw [if_pos rfl]
            have h9 := hmv2.out
            split at h9 <;> omega
          · rw [decide_eq_false hl] at hL2
            go_wp2_with (go_at_call 64; (with_reducible refine hL2.mono ?_); rintro e w3 ⟨rfl, hb3⟩)
            go_returns
            have hE := dn_end hD (fun c c0 c1 => by have := hmin c c0 c1; omega)
            have e9 : decide (i0 < i) = mv := by
              have h9 := hmv2.out
              cases mv
              · rw [if_neg (by simp)] at h9; exact decide_eq_false (by omega)
              · rw [if_pos rfl] at h9; exact decide_eq_true (by omega)
            exact ⟨mv, b, ret_bool e9, h1.nx hb3, hP, hX, hE.1, fun e => ⟨(hno e).1 ▸ hE.2, (hno e).2⟩, (hO1).trans (G := F) (only_below hb3) (fun i h => .inl h)⟩
      · have hge2 : (m : Int) ≤ (j2 : Int) := by omega
        go_upto_region 8 with fail
        have hI1 := HI1.out
        have hI2 := HI2.out
        have hmin : ∀ c, c < m → (c = 2 * i + 1 ∨ c = 2 * i + 2) → W (b j1) ≤ W (b c) := by
          intro c c0 c1
          rcases c1 with e | e
          · rw [show c = j1 by omega]; omega
          · omega
        have hjn : j1 < n ∧ i < n ∧ i ≠ j1 := by omega
        have hjc : j1 = 2 * i + 1 ∨ j1 = 2 * i + 2 := by omega
        clear hI1 hI2
        have hL2 := rless_any h j1 i (by omega) (by omega) hn
        have hmb := me_less g wr _ h.lv
        by_cases hl : W (b j1) < W (b i)
        · rw [decide_eq_true hl] at hL2
          go_upto_region 9 with (go_at_call 64; (with_reducible refine hL2.mono ?_); rintro e w3 ⟨rfl, hb3⟩)
          have h3 := h.nx hb3
          have hms := me_swap g w3 _ h3.lv
          have hS := rswap_any h3 i j1 (by omega) (by omega) (by omega) hn
          have hOb : Only F w w3 := (hO).trans (G := F) (only_below hb3) (fun i h => .inl h)
          clear hL2 hmb
          go_wp2_with (go_at_call 65; (with_reducible refine hS.mono ?_); rintro e w4 ⟨rfl, h4, hO4, hs4⟩)
          refine ⟨⟨j1, sw b i j1, true, rfl, h4, dn_step hD (by omega) (by omega) hmin hl, ?_, (fun e => by cases e), pm_trans hP (pm_sw b (by omega) (by omega)), (fun x hx => by rw [sw_ne b (by omega) (by omega)]; exact hX x hx), hOb.trans hO4 (fun i h => .inl h)⟩, by simp [intOf]; omega⟩
          rw [if_pos rfl]
          have h9 := hmv2.out
          split at h9 <;> omega
        · rw [decide_eq_false hl] at hL2
          go_wp2_with (go_at_call 64; (with_reducible refine hL2.mono ?_); rintro e w3 ⟨rfl, hb3⟩)
          go_returns
          have hE := dn_end hD (fun c c0 c1 => by have := hmin c c0 c1; omega)
          have e9 : decide (i0 < i) = mv := by
            have h9 := hmv2.out
            cases mv
            · rw [if_neg (by simp)] at h9; exact decide_eq_false (by omega)
            · rw [if_pos rfl] at h9; exact decide_eq_true (by omega)
          exact ⟨mv, b, ret_bool e9, h.nx hb3, hP, hX, hE.1, fun e => ⟨(hno e).1 ▸ hE.2, (hno e).2⟩, (hO).trans (G := F) (only_below hb3) (fun i h => .inl h)⟩
end Go.Proofs.Ytiefhmbffmphdaa
