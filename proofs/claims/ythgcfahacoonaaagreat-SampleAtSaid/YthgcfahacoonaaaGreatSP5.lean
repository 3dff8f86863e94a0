/- weight.Mix. -/
import Derived.Test.YthgcfahacoonaaaGreatSP0
import Derived.Test.YthgcfahacoonaaaGreatRowG
import Derived.Deep.QuietTactic
import Derived.BigQuiet
set_option linter.unusedVariables false
namespace Go.Proofs.YthgcfahacoonaaaGreat
open Go.RowKit
theorem getD_lt {l : List Int} {k : Nat} (h : k < l.length) : l[k] = l.getD k 0 := by rw [List.getD_eq_getElem?_getD, List.getElem?_eq_getElem h]; rfl
set_option maxRecDepth 100000 in
set_option maxHeartbeats 4000000 in
/-- Weights with bytes, so many of both. -/
theorem wmix_any (a b : List Int) (A A' : Option Addr) (n c c' : Nat) (w : World) {B B' : Nat} {M : Int} (ha : a.length = n) (hb : b.length = n) (hn : n ≤ 16) (hA : Rd w B A (a.map (Value.int .i64))) (hA' : Rd w B' A' (b.map (Value.int .u8))) (hM : 0 ≤ M) (hM2 : M ≤ 288230376151711744) (h : ∀ k, -M ≤ a.getD k 0 * b.getD k 0 ∧ a.getD k 0 * b.getD k 0 ≤ M) (hv : ∀ k, 0 ≤ b.getD k 0 ∧ b.getD k 0 ≤ 255) :
    Calls Tryz.prog 146 #[.slice A n c, .slice A' n c'] w fun e w' => e = .returned (.int .i64 (dotK a b n)) ∧ Below w.heap.size w w' := by
  have hD := fun k => dotK_bd hM h k
  have HA := Lib.hid ha
  have HB := Lib.hid hb
  have HV := Lib.hid hv
  have HP := Lib.hid h
  have HDD := Lib.hid hD
  clear ha hb h hv hD
  go_enter Tryz.func146, Tryz.ntmps146
  go_wp2_with fail
  go_loopw [5, 12] (fun s i wr => ∃ k : Nat, k ≤ n ∧ i = .int .i64 k ∧ s = .int .i64 (dotK a b k) ∧ ∃ m, wr = w.drewN m) (fun _ i _ => n - (intOf i).toNat)
  case atStart => exact ⟨0, by omega, rfl, rfl, 0, rfl⟩
  case round =>
    obtain ⟨k, hk, rfl, rfl, m, rfl⟩ := hrel
    by_cases hlt : k < n
    · have hka : k < (a.map (Value.int .i64)).length := by rw [List.length_map, HA.out]; exact hlt
      have hkb : k < (b.map (Value.int .u8)).length := by rw [List.length_map, HB.out]; exact hlt
      obtain ⟨b1, o1, rfl, _, hc1⟩ := hA.get k hka
      obtain ⟨b2, o2, rfl, _, hc2⟩ := hA'.get k hkb
      rw [List.getElem_map, getD_lt] at hc1 hc2
      have hdk := HDD.out k
      have hpk := HP.out k
      have hvk := HV.out k
      have HS : Hid (dotK a b (k + 1) = dotK a b k + a.getD k 0 * b.getD k 0) := rfl
      have hkM : (k : Int) * M ≤ 15 * M := Int.mul_le_mul_of_nonneg_right (by omega) hM
      generalize a.getD k 0 = x at *
      generalize b.getD k 0 = y at *
      obtain ⟨z, hz⟩ : ∃ z, x * y = z := ⟨_, rfl⟩
      rw [hz] at hpk HS
      have v1 : wrap64 (x * y) = z := by rw [hz]; exact IntWalk.wrap64_in _ ⟨by omega, by omega⟩
      generalize dotK a b k = d at *
      have v3 : wrap64 y = y := IntWalk.wrap64_in _ ⟨by omega, by omega⟩
      have v2 : wrap64 (d + z) = d + z := IntWalk.wrap64_in _ ⟨by omega, by omega⟩
      clear hz hdk hpk hvk hkM hM hM2
      go_wp2_with fail
      go_quiet (fail)
      go_wp2_with fail
      exact ⟨⟨k + 1, by omega, by go_num, by rw [HS.out, v2], _, rfl⟩, by simp [intOf]; omega⟩
    · obtain rfl : k = n := by omega
      go_wp2_with fail
      go_returns
      exact ⟨rfl, below_drewN (Below.refl _ _) m⟩
end Go.Proofs.YthgcfahacoonaaaGreat
