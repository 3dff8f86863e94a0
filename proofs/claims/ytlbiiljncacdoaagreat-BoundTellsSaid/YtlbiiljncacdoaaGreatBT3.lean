/- bound: Worst and Of; the reference's. -/
import Derived.Test.YtlbiiljncacdoaaGreatBT2
set_option linter.unusedVariables false
namespace Go.Proofs.YtlbiiljncacdoaaGreat
open Go.RowKit
attribute [local go_sem high] run_maxL
theorem rdlB {w : World} {g : Nat} {t : TypeId} {l : List Value} (h : Bk w g t l.toArray) : Rd w w.heap.size (some ⟨g, 0, none⟩) l := fun k hk => by
  refine ⟨g, 0, rfl, h.lt, ?_⟩
  rw [Nat.zero_add, h.cell]
  simp [hk]
set_option maxRecDepth 100000 in
set_option maxHeartbeats 4000000 in
theorem slanted_any (l : List Int) (A : Option Addr) (n cp : Nat) (w : World) (hl : l.length = n) {B : Nat} (hr : Rd w B A (l.map (Value.int .i64))) (hB : B ≤ w.heap.size) (hz : shC l = 0) :
    Calls Tryz.prog 95 #[.slice A n cp] w fun e w' => e = .returned (.tuple #[.int .i64 (bdX (cf l 0) (cf l 1)), .int .i64 (bdY (cf l 1))]) ∧ Below w.heap.size w w' := by
  have hN := snew_any l A n cp w hl hr hB
  obtain ⟨ha, hb, _, _⟩ := rg4_bd (shC_zero.1 hz).2
  have hBd := fun (g : Nat) (w1 : World) (hK : Bk w1 g 240 (shA l)) => bounds_any (cf l 0) (cf l 1) _ _ g w1 hK ha hb
  rw [hz] at hN
  simp only [ShR, hz] at hN
  clear hl hr hz ha hb
  generalize bdX (cf l 0) (cf l 1) = X at *
  generalize bdY (cf l 1) = Y at *
  go_enter Tryz.func95, Tryz.ntmps95
  go_upto_region 2 with (first
    | (go_at_call 159; (with_reducible refine hN.mono ?_); rintro e w1 ⟨p, rfl, ⟨_, hR⟩, hb1⟩))
  obtain ⟨g, rfl, hg, hK⟩ := hR (by trivial)
  replace hBd := hBd g w1 hK
  clear hR hN hK
  go_wp2_with (first
    | (go_at_call 160; (with_reducible refine hBd.mono ?_); rintro e w2 ⟨rfl, hb2⟩))
  go_returns
  exact ⟨rfl, hb1.trans (hb2.mono hb1.size)⟩
theorem plain24_any (w : World) : Calls Tryz.prog 96 #[.int .i64 0, .int .i64 0, .int .i64 32768] w fun e w' => e = .returned (.slice (some ⟨w.heap.size, 0, none⟩) 7 7) ∧ Bk w' w.heap.size 2 #[.int .i64 0, .int .i64 0, .int .i64 32768, .int .i64 0, .int .i64 0, .int .i64 0, .int .i64 0] ∧ Below w.heap.size w w' := by
  have hb := (Below.refl w.heap.size w).alloc (Nat.le_refl _) (.cells #[.int .i64 0, .int .i64 0, .int .i64 32768, .int .i64 0, .int .i64 0, .int .i64 0, .int .i64 0] 2)
  have hK := Bk.new w 2 #[.int .i64 0, .int .i64 0, .int .i64 32768, .int .i64 0, .int .i64 0, .int .i64 0, .int .i64 0]
  go_enter Tryz.func96, Tryz.ntmps96
  go_wp2_with fail
  go_returns
  exact ⟨rfl, hK, hb⟩
def woX (k : Int) : Int := if exB k = true then 1 else if k = 3 then 393216000 else if k = 5 then bdX 262144 262144 else 0
def woY (k : Int) : Int := if exB k = true then 1 else if k = 3 then 393216000 else if k = 5 then bdY 262144 else 0
set_option maxRecDepth 100000 in
set_option maxHeartbeats 4000000 in
theorem worst_any (k : Int) (w : World) : Calls Tryz.prog 39 #[.int .i64 k] w fun e w' => e = .returned (.tuple #[.int .i64 (woX k), .int .i64 (woY k)]) ∧ Below w.heap.size w w' := by
  have hE := exact_any k w
  by_cases h1 : exB k = true
  · have HX : Hid (woX k = 1) := by show _ = _; unfold woX; rw [if_pos h1]
    have HY : Hid (woY k = 1) := by show _ = _; unfold woY; rw [if_pos h1]
    rw [h1] at hE
    clear h1
    go_enter Tryz.func39, Tryz.ntmps39
    go_wp2_with (first
      | (go_at_call 41; (with_reducible refine hE.mono ?_); rintro e w1 ⟨rfl, hb1⟩))
    go_returns
    exact ⟨by rw [HX.out, HY.out]; rfl, hb1⟩
  have h1' : exB k = false := by simpa using h1
  rw [h1'] at hE
  by_cases h3 : k = 3
  · subst h3
    have HX : Hid (woX 3 = 12000 * cf [0, 0, 32768, 0, 0, 0, 0] 2) := by show _ = _; decide +kernel
    have HY : Hid (woY 3 = 12000 * cf [0, 0, 32768, 0, 0, 0, 0] 2) := by show _ = _; decide +kernel
    have hB := fun (g : Nat) (w' : World) (hr : Rd w' w'.heap.size (some ⟨g, 0, none⟩) (([0, 0, 32768, 0, 0, 0, 0] : List Int).map (Value.int .i64))) => bent_any [0, 0, 32768, 0, 0, 0, 0] (some ⟨g, 0, none⟩) 7 7 1 1 w' rfl (Nat.le_refl _) hr (Nat.le_refl _) (by decide +kernel)
    clear h1 h1'
    generalize woX 3 = X at *
    generalize woY 3 = Y at *
    go_enter Tryz.func39, Tryz.ntmps39
    go_wp2_with (first
      | (go_at_call 41; (with_reducible refine hE.mono ?_); rintro e w1 ⟨rfl, hb1⟩)
      | (go_at_call 96; (with_reducible refine (plain24_any _).mono ?_); rintro e w2 ⟨rfl, hK, hb2⟩; have hr := rdlB (l := ([0, 0, 32768, 0, 0, 0, 0] : List Int).map (Value.int .i64)) hK)
      | (go_at_call 94; (with_reducible refine (hB _ _ hr).mono ?_); rintro e w3 ⟨rfl, hb3⟩))
    go_returns
    exact ⟨by rw [HX.out, HY.out]; rfl, hb1.trans ((hb2.trans (hb3.mono hb2.size)).mono hb1.size)⟩
  have n3 : (k == 3) = false := by simp [h3]
  by_cases h5 : k = 5
  · subst h5
    have HX : Hid (woX 5 = bdX (cf [262144, 262144, 0, 0] 0) (cf [262144, 262144, 0, 0] 1)) := by show _ = _; decide +kernel
    have HY : Hid (woY 5 = bdY (cf [262144, 262144, 0, 0] 1)) := by show _ = _; decide +kernel
    have hB := fun (g : Nat) (w' : World) (hr : Rd w' w'.heap.size (some ⟨g, 0, none⟩) (([262144, 262144, 0, 0] : List Int).map (Value.int .i64))) => slanted_any [262144, 262144, 0, 0] (some ⟨g, 0, none⟩) 4 4 w' rfl hr (Nat.le_refl _) (by decide +kernel)
    have hrn := fun w' : World => rdlB (l := ([262144, 262144, 0, 0] : List Int).map (Value.int .i64)) (Bk.new w' 2 #[.int .i64 262144, .int .i64 262144, .int .i64 0, .int .i64 0])
    clear h1 h1' h3
    generalize woX 5 = X at *
    generalize woY 5 = Y at *
    go_enter Tryz.func39, Tryz.ntmps39
    go_wp2_with (first
      | (go_at_call 41; (with_reducible refine hE.mono ?_); rintro e w1 ⟨rfl, hb1⟩; have hr1 := hrn w1; have hb2 := hb1.alloc hb1.size (.cells #[.int .i64 262144, .int .i64 262144, .int .i64 0, .int .i64 0] 2))
      | (go_at_call 95; (with_reducible refine (hB _ _ hr1).mono ?_); rintro e w3 ⟨rfl, hb3⟩))
    go_returns
    exact ⟨by rw [HX.out, HY.out]; rfl, hb2.trans (hb3.mono hb2.size)⟩
  have n5 : (k == 5) = false := by simp [h5]
  have HX : Hid (woX k = 0) := by show _ = _; unfold woX; rw [if_neg h1, if_neg h3, if_neg h5]
  have HY : Hid (woY k = 0) := by show _ = _; unfold woY; rw [if_neg h1, if_neg h3, if_neg h5]
  clear h1 h1' h3 h5
  go_enter Tryz.func39, Tryz.ntmps39
  go_wp2_with (first
    | (go_at_call 41; (with_reducible refine hE.mono ?_); rintro e w1 ⟨rfl, hb1⟩))
  go_returns
  exact ⟨by rw [HX.out, HY.out]; rfl, hb1⟩
theorem rplain_any (a : Int) (w : World) (ha : -262144 ≤ a ∧ a ≤ 262144) : Calls Tryz.prog 97 #[.int .i64 a] w fun e w' => e = .returned (.int .i64 (abZ a)) ∧ w = w' := by
  obtain ⟨a0, a1⟩ := ha
  have HA : Hid (abZ a = max a (-a)) := rfl
  generalize abZ a = z at *
  go_enter Tryz.func97, Tryz.ntmps97
  go_wp2_with fail
  go_returns
  exact ⟨by rw [HA.out]; rfl, rfl⟩
set_option maxRecDepth 100000 in
set_option maxHeartbeats 4000000 in
theorem rbounds_any (a b : Int) (c o n cp : Nat) (w : World) (c0 : w.cell? ⟨c, o, none⟩ = some (.int .i64 a)) (c1 : w.cell? ⟨c, o + 1, none⟩ = some (.int .i64 b)) (hn : 2 ≤ n) (ha : -262144 ≤ a ∧ a ≤ 262144) (hb : -262144 ≤ b ∧ b ≤ 262144) :
    Calls Tryz.prog 40 #[.slice (some ⟨c, o, none⟩) n cp] w fun e w' => e = .returned (.tuple #[.int .i64 (bdX a b), .int .i64 (bdY b)]) ∧ w = w' := by
  have A1 := abZ_bd ha
  have B1 := abZ_bd hb
  have P1 := pr_bd A1 B1
  obtain ⟨z, hz⟩ : ∃ z, abZ a * (65536 + abZ b) = z := ⟨_, rfl⟩
  have ez : wrap64 (abZ a * (65536 + abZ b)) = z := by rw [IntWalk.wrap64_in _ ⟨by omega, by omega⟩]; exact hz
  rw [hz] at P1
  have EX : Hid (bdX a b = 65536 + (z + 131071) / 131072) := by show _ = _; unfold bdX; rw [hz]
  have EY : Hid (bdY b = 32768 + (abZ b + 1) / 2) := rfl
  have e1 : (z + 131071).tdiv 131072 = (z + 131071) / 131072 := Int.tdiv_eq_ediv_of_nonneg (by omega)
  have e2 : (abZ b + 1).tdiv 2 = (abZ b + 1) / 2 := Int.tdiv_eq_ediv_of_nonneg (by omega)
  have d1 := div_bd (p := z + 131071) (d := 131072) (B := 100000000000) (by decide) (by omega) (by omega) (by decide)
  have d2 := div_bd (p := abZ b + 1) (d := 2) (B := 100000000000) (by decide) (by omega) (by omega) (by decide)
  have hPa := fun w' => rplain_any a w' ha
  have hPb := fun w' => rplain_any b w' hb
  generalize bdX a b = X at *
  generalize bdY b = Y at *
  generalize abZ a = a' at *
  generalize abZ b = b' at *
  generalize (z + 131071) / 131072 = q1 at *
  generalize (b' + 1) / 2 = q2 at *
  clear hz ha hb
  go_enter Tryz.func40, Tryz.ntmps40
  go_wp2_with (first
    | (go_at_call 97; (with_reducible refine (hPa _).mono ?_); rintro e w2 ⟨rfl, rfl⟩)
    | (go_at_call 97; (with_reducible refine (hPb _).mono ?_); rintro e w2 ⟨rfl, rfl⟩))
  go_returns
  exact ⟨by rw [EX.out, EY.out]; rfl, rfl⟩
end Go.Proofs.YtlbiiljncacdoaaGreat
