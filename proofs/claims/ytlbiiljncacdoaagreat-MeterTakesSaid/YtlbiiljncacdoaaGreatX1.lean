/- shear: turning by three slants. -/
import Derived.Test.YtlbiiljncacdoaaGreatX0
import Derived.Test.YtlbiiljncacdoaaGreatAf3
import Derived.StillTailTactics
set_option linter.unusedVariables false
namespace Go.Proofs.YtlbiiljncacdoaaGreat
open Go.RowKit
theorem lget {l : List Int} {w : World} {B n : Nat} {A : Option Addr} (hl : l.length = n) (hn : 0 < n) (hr : Rd w B A (l.map (Value.int .i64))) : ∃ b o, A = some ⟨b, o, none⟩ ∧ b < B ∧ w.cell? ⟨b, o, none⟩ = some (.int .i64 (cf l 0)) ∧ ∀ i, i < n → w.cell? ⟨b, o + i, none⟩ = some (.int .i64 (cf l i)) := by
  obtain ⟨b, o, rfl, hb, _⟩ := hr.get 0 (by simp [hl]; omega)
  have h : ∀ i, i < n → w.cell? ⟨b, o + i, none⟩ = some (.int .i64 (cf l i)) := fun i hi => by
    obtain ⟨b', o', e, _, hc⟩ := hr.get i (by simp [hl]; omega)
    injection e with e
    injection e with e1 e2
    subst e1 e2
    rw [hc]
    simp [cf, List.getD_eq_getElem?_getD, List.getElem?_eq_getElem (show i < l.length by omega)]
  exact ⟨b, o, rfl, hb, h 0 hn, h⟩
set_option maxHeartbeats 400000 in
theorem sin_any (a b : Int) (w : World) (hb0 : 0 ≤ b) (hb : b ≤ 9223372036854775807) : Calls Tryz.prog 234 #[.int .i64 a, .int .i64 b] w fun e w' => e = .returned (.bool (inH a b)) ∧ w = w' := by
  have hw : wrap64 (-b) = -b := IntWalk.wrap64_in _ ⟨by omega, by omega⟩
  by_cases h1 : -b ≤ a
  all_goals
    go_enter Tryz.func234, Tryz.ntmps234
    go_wp2
    go_ret
    exact ⟨ret_bool (by rw [inH_eq]; simp <;> omega), rfl⟩
def rg4 (l : List Int) : Bool := inH (cf l 0) 262144 && inH (cf l 1) 262144 && inH (cf l 2) 32768 && inH (cf l 3) 32768
def shC (l : List Int) : Int := if l.length ≠ 4 then 12 else if rg4 l = true then 0 else 11
theorem shC_zero {l : List Int} : shC l = 0 ↔ l.length = 4 ∧ rg4 l = true := by
  unfold shC
  by_cases h : l.length = 4
  · cases h2 : rg4 l <;> simp [h]
  · simp [h]
theorem rg4_bd {l : List Int} (h : rg4 l = true) : (-262144 ≤ cf l 0 ∧ cf l 0 ≤ 262144) ∧ (-262144 ≤ cf l 1 ∧ cf l 1 ≤ 262144) ∧ (-32768 ≤ cf l 2 ∧ cf l 2 ≤ 32768) ∧ (-32768 ≤ cf l 3 ∧ cf l 3 ≤ 32768) := by
  unfold rg4 at h
  simp only [Bool.and_eq_true, inH_iff] at h
  omega
set_option maxRecDepth 100000 in
set_option maxHeartbeats 4000000 in
theorem scheck4 (l : List Int) (A : Option Addr) (n cp : Nat) (w : World) {B : Nat} (hl : l.length = n) (hr : Rd w B A (l.map (Value.int .i64))) :
    Calls Tryz.prog 203 #[.slice A n cp] w fun e w' => e = .returned (.int .i64 (shC l)) ∧ w = w' := by
  by_cases hn : n = 4
  · subst hn
    obtain ⟨b, o, rfl, hb, c0, hc⟩ := lget hl (by decide) hr
    have c1 := hc 1 (by decide)
    have c2 := hc 2 (by decide)
    have c3 := hc 3 (by decide)
    have HR : Hid (shC l = if (inH (cf l 0) 262144 && inH (cf l 1) 262144 && inH (cf l 2) 32768 && inH (cf l 3) 32768) = true then 0 else 11) := by
      show _ = _; unfold shC; rw [if_neg (by omega)]; rfl
    clear hc hl hr
    generalize cf l 0 = x0 at *
    generalize cf l 1 = x1 at *
    generalize cf l 2 = x2 at *
    generalize cf l 3 = x3 at *
    rcases (show (inH x0 262144 = false) ∨ (inH x0 262144 = true ∧ inH x1 262144 = false) ∨ (inH x0 262144 = true ∧ inH x1 262144 = true ∧ inH x2 32768 = false) ∨ (inH x0 262144 = true ∧ inH x1 262144 = true ∧ inH x2 32768 = true ∧ inH x3 32768 = false) ∨ (inH x0 262144 = true ∧ inH x1 262144 = true ∧ inH x2 32768 = true ∧ inH x3 32768 = true) by
      cases inH x0 262144 <;> cases inH x1 262144 <;> cases inH x2 32768 <;> cases inH x3 32768 <;> simp) with h0 | ⟨h0, h1⟩ | ⟨h0, h1, h2⟩ | ⟨h0, h1, h2, h3⟩ | ⟨h0, h1, h2, h3⟩
    all_goals
      go_enter Tryz.func203, Tryz.ntmps203
      go_wp2_with (go_at_call 234; (with_reducible refine (sin_any _ _ _ (by decide) (by decide)).mono ?_); rintro e w' ⟨rfl, rfl⟩; first | rw [h0] | rw [h1] | rw [h2] | rw [h3])
      go_ret
      exact ⟨ret_int (by rw [HR.out]; simp [*]), rfl⟩
  · have HR : Hid (shC l = 12) := by show _ = _; unfold shC; rw [if_pos (by omega)]
    have hnb : ((n : Int) != 4) = true := by rw [bne_iff_ne]; omega
    clear hl hn
    go_enter Tryz.func203, Tryz.ntmps203
    go_wp2_with fail
    all_goals first
      | (go_ret; exact ⟨ret_int HR.out.symm, rfl⟩)
      | (exfalso; omega)
/-- A map's cells. -/
def shA (l : List Int) : Array Value := #[.int .i64 (cf l 0), .int .i64 (cf l 1), .int .i64 (cf l 2), .int .i64 (cf l 3)]
def ShR (l : List Int) (w w' : World) (p : Option Addr) : Prop :=
  (shC l ≠ 0 → p = none) ∧ (shC l = 0 → ∃ g, p = some ⟨g, 0, none⟩ ∧ w.heap.size ≤ g ∧ Bk w' g 240 (shA l))
set_option maxRecDepth 100000 in
set_option maxHeartbeats 8000000 in
theorem snew_any (l : List Int) (A : Option Addr) (n cp : Nat) (w : World) {B : Nat} (hl : l.length = n) (hr : Rd w B A (l.map (Value.int .i64))) (hB : B ≤ w.heap.size) :
    Calls Tryz.prog 159 #[.slice A n cp] w fun e w' => ∃ p, e = .returned (.tuple #[.pointer p, .int .i64 (shC l)]) ∧ ShR l w w' p ∧ Below w.heap.size w w' := by
  have hC := scheck4 l A n cp w hl hr
  have hb0 := Below.refl w.heap.size w
  by_cases h1 : shC l = 0
  · obtain ⟨hlen, _⟩ := shC_zero.1 h1
    obtain rfl : n = 4 := by rw [← hl]; exact hlen
    rw [h1] at hC
    simp only [ShR, h1]
    obtain ⟨b, o, rfl, hb, c0, hc⟩ := lget hl (by decide) hr
    have c1 := hc 1 (by decide)
    have c2 := hc 2 (by decide)
    have c3 := hc 3 (by decide)
    unfold shA
    clear hc hl hr h1 hlen
    generalize cf l 0 = x0 at *
    generalize cf l 1 = x1 at *
    generalize cf l 2 = x2 at *
    generalize cf l 3 = x3 at *
    go_enter Tryz.func159, Tryz.ntmps159
    go_wp2_with (go_at_call 203; (with_reducible refine hC.mono ?_); rintro e wa ⟨rfl, rfl⟩)
    go_still_tail 13, (by kernel_rfl)
    change wpList _ _ _ _ _ w.drew
    have hb1 : Below w.heap.size w w.drew := below_drewN hb0 1
    have hK := Bk.new w.drew 240 #[.int .i64 x0, .int .i64 x1, .int .i64 x2, .int .i64 x3]
    have hb2 := hb1.alloc hb1.size (.cells #[.int .i64 x0, .int .i64 x1, .int .i64 x2, .int .i64 x3] 240)
    clear c0 c1 c2 c3
    go_wp2_with fail
    go_returns
    exact ⟨_, rfl, ⟨fun h => absurd rfl h, fun _ => ⟨_, rfl, Nat.le_refl _, hK⟩⟩, hb2⟩
  · have hb : (shC l != 0) = true := by simp [h1]
    have hne := Lib.hid h1
    simp only [ShR]
    clear h1 hl hr
    generalize shC l = c at *
    go_enter Tryz.func159, Tryz.ntmps159
    go_wp2_with (go_at_call 203; (with_reducible refine hC.mono ?_); rintro e wa ⟨rfl, rfl⟩)
    go_returns
    exact ⟨none, rfl, ⟨fun _ => rfl, fun h => absurd h hne.out⟩, hb0⟩
theorem sz_cases (W H : Int) : (szH W H = true ∧ 1 ≤ W ∧ W ≤ 32768 ∧ 1 ≤ H ∧ H ≤ 32768) ∨ (szH W H = false ∧ (W < 1 ∨ (1 ≤ W ∧ 32768 < W) ∨ (1 ≤ W ∧ W ≤ 32768 ∧ H < 1) ∨ (1 ≤ W ∧ W ≤ 32768 ∧ 1 ≤ H ∧ 32768 < H))) := by
  cases h : szH W H
  · right
    have h' : ¬ szH W H = true := by rw [h]; simp
    rw [szH_iff] at h'
    exact ⟨rfl, by omega⟩
  · left
    have := szH_iff.1 h
    exact ⟨rfl, by omega⟩
end Go.Proofs.YtlbiiljncacdoaaGreat
