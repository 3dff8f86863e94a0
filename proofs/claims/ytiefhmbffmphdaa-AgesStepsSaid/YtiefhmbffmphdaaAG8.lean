/- container/heap over a row of things: Remove. -/
import Derived.Test.YtiefhmbffmphdaaAG7
set_option linter.unusedVariables false
namespace Go.Proofs.Ytiefhmbffmphdaa
open Go.RowKit
set_option maxRecDepth 100000 in
set_option maxHeartbeats 8000000 in
theorem up_gen {F : Nat → Prop} {w : World} {g : Nat} {A : Option Addr} {n c : Nat} {mv : Value} {now : Int} {a : Nat → Nat} {K W : Nat → Int} (h : Hw F w g A n c mv now a K W) (j m : Nat) (hU : Up W a m j) (hm : m ≤ n) (hn : n ≤ 1000000) :
    Calls Try.prog 27 #[ifV g, .int .i64 (j : Nat)] w fun e w' => e = .returned (.tuple #[]) ∧ ∃ a', Hw F w' g A n c mv now a' K W ∧ Hp W a' m ∧ Pm a a' n ∧ (∀ x, m ≤ x → a' x = a x) ∧ Only F w w' := by
  go_enter Try.func27, Try.ntmps27
  go_wp2_with fail
  go_loopw [1, 4] (fun jv _ wr => ∃ (j : Nat) (b : Nat → Nat), jv = .int .i64 (j : Nat) ∧ Hw F wr g A n c mv now b K W ∧ Up W b m j ∧ Pm a b n ∧ (∀ x, m ≤ x → b x = a x) ∧ Only F w wr) (fun jv _ _ => (intOf jv).toNat)
  case atStart => exact ⟨j, a, rfl, h, hU, pm_refl a n, fun _ _ => rfl, only_refl F w⟩
  case round =>
    clear h hU
    obtain ⟨j, b, rfl, h, hU, hP, hX, hO⟩ := hrel
    have hj := hU.1
    by_cases h0 : j = 0
    · subst h0
      go_wp2_with fail
      go_end0
      exact ⟨rfl, b, h, up_end hU (.inl rfl), hP, hX, hO⟩
    · have hq : ((j : Int) - 1) / 2 = (((j - 1) / 2 : Nat) : Int) := by omega
      obtain ⟨i, hi⟩ : ∃ i, i = (j - 1) / 2 := ⟨_, rfl⟩
      have hij : i < j := by omega
      have hne : ((i : Int) == (j : Int)) = false := by simp; omega
      rw [← hi] at hq
      have HI := Lib.hid hi
      clear hi
      have hme := me_less g wr _ h.lv
      have hL := rless_any h j i (by omega) (by omega) hn
      by_cases hl : W (b j) < W (b i)
      · rw [decide_eq_true hl] at hL
        go_upto_region 2 with (go_at_call 64; (with_reducible refine hL.mono ?_); rintro e w1 ⟨rfl, hb1⟩)
        have h1 := h.nx hb1
        have hms := me_swap g w1 _ h1.lv
        have hS := rswap_any h1 i j (by omega) (by omega) (by omega) hn
        clear hme hL h hne hq
        go_wp2_with (go_at_call 65; (with_reducible refine hS.mono ?_); rintro e w2 ⟨rfl, h2, hO2, hs2⟩)
        have hI := HI.out
        refine ⟨⟨i, sw b i j, rfl, h2, ?_, pm_trans hP (pm_sw b (by omega) (by omega)), (fun x hx => by rw [sw_ne b (by omega) (by omega)]; exact hX x hx), (hO.trans (G := F) (only_below hb1) (fun i h => .inl h)).trans hO2 (fun i h => .inl h)⟩, by simp [intOf]; omega⟩
        rw [hI]
        exact up_step hU (by omega) (by rw [← hI]; exact hl)
      · rw [decide_eq_false hl] at hL
        go_wp2_with (go_at_call 64; (with_reducible refine hL.mono ?_); rintro e w1 ⟨rfl, hb1⟩)
        go_end0
        have hI := HI.out
        exact ⟨rfl, b, h.nx hb1, up_end hU (.inr (by rw [← hI]; omega)), hP, hX, hO.trans (G := F) (only_below hb1) (fun i h => .inl h)⟩
set_option maxRecDepth 100000 in
set_option maxHeartbeats 8000000 in
theorem hremove_any {F : Nat → Prop} {w : World} {g : Nat} {A : Option Addr} {n c : Nat} {mv : Value} {now : Int} {a : Nat → Nat} {K W : Nat → Int} (h : Hw F w g A (n + 1) c mv now a K W) (hp : Hp W a (n + 1)) (i : Nat) (hi : i ≤ n) (hn : n < 1000000) :
    Calls Try.prog 21 #[ifV g, .int .i64 (i : Nat)] w fun e w' => e = .returned (.iface 45 (.pointer (some ⟨a i, 0, none⟩))) ∧ ∃ b, Hw F w' g A n c mv now b K W ∧ Hp W b n ∧ Pm a b (n + 1) ∧ b n = a i ∧ Only F w w' := by
  have hme := me_len g w _ h.lv
  have hsz : ((n + 1 : Nat) : Int) - 1 = (n : Int) := by omega
  by_cases hin : i = n
  · subst hin
    have hmp := me_pop g w
    have hPo := rpop_any h hn
    go_enter Try.func21, Try.ntmps21
    go_wp2_with (first
      | (go_at_call 63; (with_reducible refine (rlen_any _ _ _ _).mono ?_); rintro e w1 ⟨rfl, rfl⟩)
      | (go_at_call 66; (with_reducible refine hPo.mono ?_); rintro e w2 ⟨rfl, h2, hO2, _, _⟩))
    go_returns
    exact ⟨rfl, a, h2, hp_less hp (by omega), pm_refl a _, rfl, hO2⟩
  · have hin2 : i < n := by omega
    have hms := me_swap g w _ h.lv
    have hSw := rswap_any h i n (by omega) (by omega) hin (by omega)
    have hb0 : ((n : Int) != (i : Int)) = true := by simp; omega
    have hpm := pm_sw a (i := i) (j := n) (n := n + 1) (by omega) (by omega)
    have hD : Dn W false (sw a i n) n i := dn_start hp (by omega) hin2 (fun j hj hne => sw_ne a hne (by omega))
    have hsn : sw a i n n = a i := (sw_at a i n).2
    clear h hp
    go_enter Try.func21, Try.ntmps21
    go_upto_region 4 with (first
      | (go_at_call 63; (with_reducible refine (rlen_any _ _ _ _).mono ?_); rintro e w1 ⟨rfl, rfl⟩)
      | (go_at_call 65; (with_reducible refine hSw.mono ?_); rintro e w2 ⟨rfl, h2, hO2, hs2⟩))
    have hDo := down_any h2 i n hD (by omega) (by omega)
    clear hme hms hSw hD
    go_upto_region 5 with (go_at_call 26; (with_reducible refine hDo.mono ?_); rintro e w3 ⟨mv', b, rfl, h3, hP, hX, hT, hF, hO3⟩; cases mv')
    · obtain ⟨hU, rfl⟩ := hF (by trivial)
      have hUp := up_gen h3 i n hU (by omega) (by omega)
      go_upto_region 6 with (go_at_call 27; (with_reducible refine hUp.mono ?_); rintro e w4 ⟨rfl, b4, h4, hp4, hP4, hX4, hO4⟩)
      have hmp := me_pop g w4
      have hPo := rpop_any h4 hn
      have hbn : b4 n = a i := (hX4 n (Nat.le_refl _)).trans hsn
      rw [hbn] at hPo
      go_wp2_with (go_at_call 66; (with_reducible refine hPo.mono ?_); rintro e w5 ⟨rfl, h5, hO5, _, _⟩)
      go_returns
      exact ⟨rfl, b4, h5, hp4, pm_trans hpm (pm_trans hP hP4), hbn, ((hO2.trans hO3 (fun i h => .inl h)).trans hO4 (fun i h => .inl h)).trans hO5 (fun i h => .inl h)⟩
    · have hpb := hT (by trivial)
      have hmp := me_pop g w3
      have hPo := rpop_any h3 hn
      have hbn : b n = a i := (hX n (Nat.le_refl _)).trans hsn
      rw [hbn] at hPo
      go_wp2_with (go_at_call 66; (with_reducible refine hPo.mono ?_); rintro e w5 ⟨rfl, h5, hO5, _, _⟩)
      go_returns
      exact ⟨rfl, b, h5, hpb, pm_trans hpm hP, hbn, (hO2.trans hO3 (fun i h => .inl h)).trans hO5 (fun i h => .inl h)⟩
end Go.Proofs.Ytiefhmbffmphdaa
