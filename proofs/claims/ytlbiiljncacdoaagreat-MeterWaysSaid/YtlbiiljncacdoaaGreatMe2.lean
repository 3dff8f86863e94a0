/- meter: what is wrong with a kernel, a border, a size. -/
import Derived.Test.YtlbiiljncacdoaaGreatMe1
import Derived.Test.YtlbiiljncacdoaaGreatQTail
import Derived.Test.YtlbiiljncacdoaaGreatLie
set_option linter.unusedVariables false
namespace Go.Proofs.YtlbiiljncacdoaaGreat
open Go.RowKit
abbrev boA (mo c0 c1 c2 c3 : Int) : Array Value := #[.int .i64 mo, .int .u8 c0, .int .u8 c1, .int .u8 c2, .int .u8 c3]
abbrev boV (mo c0 c1 c2 c3 : Int) : Value := .agg (boA mo c0 c1 c2 c3)
theorem smis_any (k : Int) (w : World) : Calls Tryz.prog 175 #[.int .i64 k] w fun e w' => e = .returned (.bool (decide (0 ≤ k ∧ k ≤ 3))) ∧ w = w' := by
  by_cases h : 0 ≤ k
  all_goals
    go_enter Tryz.func175, Tryz.ntmps175
    go_wp2
    go_returns
    exact ⟨ret_bool (by simp <;> omega), rfl⟩
def boC (mo : Int) : Int := if mo < 0 ∨ 3 < mo then 10 else 0
set_option maxHeartbeats 1000000 in
theorem bochk_any (mo c0 c1 c2 c3 : Int) (w : World) : Calls Tryz.prog 176 #[boV mo c0 c1 c2 c3] w fun e w' => e = .returned (.int .i64 (boC mo)) ∧ Below w.heap.size w w' := by
  have hb := (Below.refl w.heap.size w).alloc (Nat.le_refl _) (.cells (boA mo c0 c1 c2 c3) 105)
  have hc : (mo < 0 ∧ Hid (boC mo = 10)) ∨ (0 ≤ mo ∧ 3 < mo ∧ Hid (boC mo = 10)) ∨ (0 ≤ mo ∧ mo ≤ 3 ∧ Hid (boC mo = 0)) := by unfold boC Hid; by_cases h1 : mo < 0 <;> by_cases h2 : 3 < mo <;> simp [h1, h2] <;> omega
  rcases hc with ⟨h1, HE⟩ | ⟨h1, h2, HE⟩ | ⟨h1, h2, HE⟩
  all_goals
    go_enter Tryz.func176, Tryz.ntmps176
    go_wp2_with fail
    go_returns
    exact ⟨by rw [HE.out]; rfl, hb⟩
def smC (k n mo : Int) : Int := if 0 ≤ k ∧ k ≤ 3 then (if k = 3 ∧ (n < 1 ∨ 8 < n) then 11 else boC mo) else 10
set_option maxRecDepth 100000 in
set_option maxHeartbeats 4000000 in
theorem smchk_any (k n mo c0 c1 c2 c3 : Int) (w : World) : Calls Tryz.prog 117 #[.int .i64 k, .int .i64 n, boV mo c0 c1 c2 c3] w fun e w' => e = .returned (.int .i64 (smC k n mo)) ∧ Below w.heap.size w w' := by
  have hb := (Below.refl w.heap.size w).alloc (Nat.le_refl _) (.cells (boA mo c0 c1 c2 c3) 105)
  have hB := fun w' => bochk_any mo c0 c1 c2 c3 w'
  by_cases h : 0 ≤ k ∧ k ≤ 3
  · have hd : decide (0 ≤ k ∧ k ≤ 3) = true := decide_eq_true h
    have hc : (k = 3 ∧ n < 1 ∧ Hid (smC k n mo = 11)) ∨ (k = 3 ∧ 1 ≤ n ∧ 8 < n ∧ Hid (smC k n mo = 11)) ∨ (k = 3 ∧ 1 ≤ n ∧ n ≤ 8 ∧ Hid (smC k n mo = boC mo)) ∨ (k < 3 ∧ Hid (smC k n mo = boC mo)) := by
      unfold smC Hid
      rw [if_pos h]
      by_cases h3 : k = 3
      · by_cases h1 : n < 1 <;> by_cases h2 : 8 < n <;> simp [h3, h1, h2] <;> omega
      · exact .inr (.inr (.inr ⟨by omega, by rw [if_neg (by omega)]⟩))
    have hsm : ∀ w', Calls Tryz.prog 175 #[.int .i64 k] w' fun e w'' => e = .returned (.bool true) ∧ w' = w'' := fun w' => by rw [← hd]; exact smis_any k w'
    clear hd h
    rcases hc with ⟨h0, h1, HE⟩ | ⟨h0, h1, h2, HE⟩ | ⟨h0, h1, h2, HE⟩ | ⟨h0, HE⟩
    · subst h0
      go_enter Tryz.func117, Tryz.ntmps117
      go_wp2_with (go_at_call 175; (with_reducible refine (hsm _).mono ?_); rintro e w' ⟨rfl, rfl⟩)
      go_returns
      exact ⟨by rw [HE.out]; rfl, hb⟩
    · subst h0
      go_enter Tryz.func117, Tryz.ntmps117
      go_wp2_with (go_at_call 175; (with_reducible refine (hsm _).mono ?_); rintro e w' ⟨rfl, rfl⟩)
      go_returns
      exact ⟨by rw [HE.out]; rfl, hb⟩
    · subst h0
      go_enter Tryz.func117, Tryz.ntmps117
      go_wp2_with (first
        | (go_at_call 175; (with_reducible refine (hsm _).mono ?_); rintro e w' ⟨rfl, rfl⟩)
        | (go_at_call 176; (with_reducible refine (hB _).mono ?_); rintro e w' ⟨rfl, hb2⟩))
      go_returns
      exact ⟨by rw [HE.out]; rfl, hb.trans (hb2.mono hb.size)⟩
    · go_enter Tryz.func117, Tryz.ntmps117
      go_wp2_with (first
        | (go_at_call 175; (with_reducible refine (hsm _).mono ?_); rintro e w' ⟨rfl, rfl⟩)
        | (go_at_call 176; (with_reducible refine (hB _).mono ?_); rintro e w' ⟨rfl, hb2⟩))
      go_returns
      exact ⟨by rw [HE.out]; rfl, hb.trans (hb2.mono hb.size)⟩
  · have hd : decide (0 ≤ k ∧ k ≤ 3) = false := decide_eq_false h
    have HE : Hid (smC k n mo = 10) := by unfold smC Hid; rw [if_neg h]
    have hsm : ∀ w', Calls Tryz.prog 175 #[.int .i64 k] w' fun e w'' => e = .returned (.bool false) ∧ w' = w'' := fun w' => by rw [← hd]; exact smis_any k w'
    clear hd h
    go_enter Tryz.func117, Tryz.ntmps117
    go_wp2_with (go_at_call 175; (with_reducible refine (hsm _).mono ?_); rintro e w' ⟨rfl, rfl⟩)
    go_returns
    exact ⟨by rw [HE.out]; rfl, hb⟩
/-- what is wrong with an image's size. -/
def msC (W H : Int) : Int := if 32768 < W ∨ 32768 < H then 30 else if W < 1 ∨ H < 1 then 12 else if 4194304 < W * H then 30 else 0
set_option maxHeartbeats 2000000 in
theorem msize_any (W H : Int) (w : World) : Calls Tryz.prog 118 #[.int .i64 W, .int .i64 H] w fun e w' => e = .returned (.int .i64 (msC W H)) ∧ w = w' := by
  have hc : (32768 < W ∧ Hid (msC W H = 30)) ∨ (W ≤ 32768 ∧ 32768 < H ∧ Hid (msC W H = 30)) ∨ (W ≤ 32768 ∧ H ≤ 32768 ∧ W < 1 ∧ Hid (msC W H = 12)) ∨ (W ≤ 32768 ∧ H ≤ 32768 ∧ 1 ≤ W ∧ H < 1 ∧ Hid (msC W H = 12)) ∨ (W ≤ 32768 ∧ H ≤ 32768 ∧ 1 ≤ W ∧ 1 ≤ H ∧ 4194304 < W * H ∧ Hid (msC W H = 30)) ∨ (W ≤ 32768 ∧ H ≤ 32768 ∧ 1 ≤ W ∧ 1 ≤ H ∧ W * H ≤ 4194304 ∧ Hid (msC W H = 0)) := by
    unfold msC Hid
    by_cases h1 : 32768 < W <;> by_cases h2 : 32768 < H <;> by_cases h3 : W < 1 <;> by_cases h4 : H < 1 <;> by_cases h5 : 4194304 < W * H <;> simp [h1, h2, h3, h4, h5] <;> omega
  rcases hc with ⟨h1, HE⟩ | ⟨h1, h2, HE⟩ | ⟨h1, h2, h3, HE⟩ | ⟨h1, h2, h3, h4, HE⟩ | ⟨h1, h2, h3, h4, h5, HE⟩ | ⟨h1, h2, h3, h4, h5, HE⟩
  · go_enter Tryz.func118, Tryz.ntmps118
    go_wp2
    go_returns
    exact ⟨by rw [HE.out]; rfl, rfl⟩
  · go_enter Tryz.func118, Tryz.ntmps118
    go_wp2
    go_returns
    exact ⟨by rw [HE.out]; rfl, rfl⟩
  · go_enter Tryz.func118, Tryz.ntmps118
    go_wp2
    go_returns
    exact ⟨by rw [HE.out]; rfl, rfl⟩
  · go_enter Tryz.func118, Tryz.ntmps118
    go_wp2
    go_returns
    exact ⟨by rw [HE.out]; rfl, rfl⟩
  all_goals
    have m0 : 0 ≤ W * H := Int.mul_nonneg (by omega) (by omega)
    have m1 : W * H ≤ 32768 * 32768 := Int.mul_le_mul h1 h2 (by omega) (by omega)
    have mw : wrap64 (W * H) = W * H := IntWalk.wrap64_in _ ⟨by omega, by omega⟩
    go_enter Tryz.func118, Tryz.ntmps118
    go_wp2
    go_returns
    exact ⟨by rw [HE.out]; rfl, rfl⟩
end Go.Proofs.YtlbiiljncacdoaaGreat
