/- bound: how far off a lens and slants may be; Worst. -/
import Derived.Test.YtlbiiljncacdoaaGreatBT1
set_option linter.unusedVariables false
namespace Go.Proofs.YtlbiiljncacdoaaGreat
open Go.RowKit
attribute [local go_sem high] run_maxL
def abZ (a : Int) : Int := max a (-a)
def bdX (a b : Int) : Int := 65536 + (abZ a * (65536 + abZ b) + 131071) / 131072
def bdY (b : Int) : Int := 32768 + (abZ b + 1) / 2
theorem abZ_bd {a : Int} (h : -262144 ≤ a ∧ a ≤ 262144) : 0 ≤ abZ a ∧ abZ a ≤ 262144 := by unfold abZ; omega
theorem pr_bd {a b : Int} (ha : 0 ≤ a ∧ a ≤ 262144) (hb : 0 ≤ b ∧ b ≤ 262144) : 0 ≤ a * (65536 + b) ∧ a * (65536 + b) ≤ 85899345920 :=
  ⟨Int.mul_nonneg ha.1 (by omega), by have := Int.mul_le_mul ha.2 (show 65536 + b ≤ 327680 by omega) (by omega) (by omega); omega⟩
theorem bdX_le {a b : Int} (ha : -262144 ≤ a ∧ a ≤ 262144) (hb : -262144 ≤ b ∧ b ≤ 262144) : bdX a b ≤ bdX 262144 262144 := by
  have := pr_bd (abZ_bd ha) (abZ_bd hb)
  have e : bdX 262144 262144 = 720896 := by decide
  rw [e]; unfold bdX; omega
theorem bdY_le {b : Int} (hb : -262144 ≤ b ∧ b ≤ 262144) : bdY b ≤ bdY 262144 := by
  have := abZ_bd hb
  have e : bdY 262144 = 163840 := by decide
  rw [e]; unfold bdY; omega
theorem lbound_any (l : List Int) (g : Nat) (w : World) (hK : Bk w g 238 (leA l)) (hb : 1 ≤ cf l 2 ∧ cf l 2 ≤ 32768) :
    Calls Tryz.prog 158 #[.pointer (some ⟨g, 0, none⟩)] w fun e w' => e = .returned (.int .i64 (12000 * cf l 2)) ∧ w = w' := by
  unfold leA at hK
  obtain ⟨c0, c1, c2, _⟩ := hK.cell7
  clear hK c0 c1
  generalize cf l 2 = z at *
  obtain ⟨b0, b1⟩ := hb
  go_enter Tryz.func158, Tryz.ntmps158
  go_wp2_with fail
  go_returns
  exact ⟨rfl, rfl⟩
set_option maxRecDepth 100000 in
set_option maxHeartbeats 4000000 in
theorem bent_any (l : List Int) (A : Option Addr) (n cp : Nat) (W H : Int) (w : World) (hl : l.length = n) (hcp : n ≤ cp) {B : Nat} (hr : Rd w B A (l.map (Value.int .i64))) (hB : B ≤ w.heap.size) (hz : leC l W H = 0) :
    Calls Tryz.prog 94 #[.slice A n cp, .int .i64 W, .int .i64 H] w fun e w' => e = .returned (.tuple #[.int .i64 (12000 * cf l 2), .int .i64 (12000 * cf l 2)]) ∧ Below w.heap.size w w' := by
  have hN := lnew_any l A n cp W H w hl hcp hr hB
  have hf := (rgL_bd (leC_zero.1 hz).rg).f
  rw [hz] at hN
  simp only [LeR, hz] at hN
  have hBd := fun (g : Nat) (w1 : World) (hK : Bk w1 g 238 (leA l)) => lbound_any l g w1 hK hf
  generalize 12000 * cf l 2 = z at *
  clear hl hcp hr hz hf
  go_enter Tryz.func94, Tryz.ntmps94
  go_upto_region 2 with (first
    | (go_at_call 157; (with_reducible refine hN.mono ?_); rintro e w1 ⟨p, rfl, ⟨_, hR⟩, hb1⟩))
  obtain ⟨g, rfl, hg, hK⟩ := hR (by trivial)
  replace hBd := hBd g w1 hK
  clear hR hN hK
  go_wp2_with (first
    | (go_at_call 158; (with_reducible refine hBd.mono ?_); rintro e w2 ⟨rfl, rfl⟩))
  go_returns
  exact ⟨rfl, hb1⟩
theorem up_any (x b : Int) (w : World) (hx : 0 ≤ x ∧ x ≤ 85899345920) (hb : 1 ≤ b ∧ b ≤ 131072) :
    Calls Tryz.prog 204 #[.int .i64 x, .int .i64 b] w fun e w' => e = .returned (.int .i64 ((x + b - 1) / b)) ∧ w = w' := by
  obtain ⟨x0, x1⟩ := hx
  obtain ⟨b0, b1⟩ := hb
  have e : (x + b - 1).tdiv b = (x + b - 1) / b := Int.tdiv_eq_ediv_of_nonneg (by omega)
  have hd := div_bd (p := x + b - 1) (d := b) (B := 100000000000) b0 (by omega) (by omega) (by decide)
  generalize (x + b - 1) / b = z at *
  have hne : b ≠ 0 := by omega
  go_enter Tryz.func204, Tryz.ntmps204
  go_wp2_with fail
  go_returns
  exact ⟨by first | rfl | (rw [e]; rfl), rfl⟩
set_option maxRecDepth 100000 in
set_option maxHeartbeats 4000000 in
theorem bounds_any (a b : Int) (v2 v3 : Value) (g : Nat) (w : World) (hK : Bk w g 240 #[.int .i64 a, .int .i64 b, v2, v3]) (ha : -262144 ≤ a ∧ a ≤ 262144) (hb : -262144 ≤ b ∧ b ≤ 262144) :
    Calls Tryz.prog 160 #[.pointer (some ⟨g, 0, none⟩)] w fun e w' => e = .returned (.tuple #[.int .i64 (bdX a b), .int .i64 (bdY b)]) ∧ Below w.heap.size w w' := by
  have hbel := Below.refl w.heap.size w
  obtain ⟨c0, c1, c2, c3⟩ := hK.cell4
  clear hK c2 c3
  have A1 := abZ_bd ha
  have B1 := abZ_bd hb
  have P1 := pr_bd A1 B1
  have na : wrap64 (-a) = -a := IntWalk.wrap64_in _ ⟨by omega, by omega⟩
  have nb : wrap64 (-b) = -b := IntWalk.wrap64_in _ ⟨by omega, by omega⟩
  have ea : max a (-a) = abZ a := rfl
  have eb : max b (-b) = abZ b := rfl
  obtain ⟨z, hz⟩ : ∃ z, abZ a * (65536 + abZ b) = z := ⟨_, rfl⟩
  have ez : wrap64 (abZ a * (65536 + abZ b)) = z := by rw [IntWalk.wrap64_in _ ⟨by omega, by omega⟩]; exact hz
  rw [hz] at P1
  have U1 := fun w' => up_any z 131072 w' P1 (by decide)
  have U2 := fun w' => up_any (abZ b) 2 w' (by omega) (by decide)
  have d1 := div_bd (p := z + 131072 - 1) (d := 131072) (B := 100000000000) (by decide) (by omega) (by omega) (by decide)
  have d2 := div_bd (p := abZ b + 2 - 1) (d := 2) (B := 100000000000) (by decide) (by omega) (by omega) (by decide)
  have EX : Hid (bdX a b = 65536 + (z + 131072 - 1) / 131072) := by show _ = _; unfold bdX; rw [hz]; congr 2; omega
  have EY : Hid (bdY b = 32768 + (abZ b + 2 - 1) / 2) := by show _ = _; unfold bdY; congr 2; omega
  generalize bdX a b = X at *
  generalize bdY b = Y at *
  generalize (z + 131072 - 1) / 131072 = q1 at *
  generalize (abZ b + 2 - 1) / 2 = q2 at *
  clear hz ha hb
  go_enter Tryz.func160, Tryz.ntmps160
  go_upto_region 3 with fail
  go_quiet (fail)
  simp only [na, nb, ea, eb] at *
  clear na nb ea eb
  generalize abZ a = a' at *
  generalize abZ b = b' at *
  go_wp2_with (first
    | (go_at_call 204; (with_reducible refine (U1 _).mono ?_); rintro e w2 ⟨rfl, rfl⟩)
    | (go_at_call 204; (with_reducible refine (U2 _).mono ?_); rintro e w2 ⟨rfl, rfl⟩))
  go_returns
  exact ⟨by rw [EX.out, EY.out]; rfl, below_drewN hbel _⟩
end Go.Proofs.YtlbiiljncacdoaaGreat
