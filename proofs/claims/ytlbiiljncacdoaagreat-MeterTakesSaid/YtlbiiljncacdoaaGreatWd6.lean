/- How many bits a number has. -/
import Derived.Test.YtlbiiljncacdoaaGreatWd5
import Derived.Lib.BitFns
set_option linter.unusedVariables false
namespace Go.Proofs.YtlbiiljncacdoaaGreat
open Go.RowKit
theorem len8_at (k : Int) (hk : 0 ≤ k ∧ k ≤ 56) (i : Int) (h0 : 0 ≤ i) (h1 : i < 256) (h : i.toNat < Lib.len8tab.size) : wrap64 (k + wrap64 ((Lib.len8tab[i.toNat]'h).toNat : Int)) = k + (Lib.bitLen i.toNat : Int) := by
  have e := Lib.len8_of i h0 (by omega)
  have l := Lib.bitLen_le8' i h0 (by omega)
  unfold Lib.len8 at e
  rw [getElem?_pos Lib.len8tab i.toNat h] at e
  simp only [Option.getD_some] at e
  rw [e, w64, w64]
  omega
set_option maxHeartbeats 4000000 in
set_option maxRecDepth 100000 in
theorem len64_any (x : Int) (w : World) (h0 : 0 ≤ x) (h1 : x ≤ 18446744073709551615) :
    Calls Tryz.prog 290 #[.int .u64 x] w fun e w' => e = .returned (.int .i64 (Lib.bitLen x.toNat)) ∧ w = w' := by
  have hsz : Lib.len8tab.size = 256 := Lib.len8tab_size
  go_enter Tryz.func290, Tryz.ntmps290
  go_wp2
  all_goals (go_ret; refine ⟨congrArg Ending.returned (congrArg (Value.int IntKind.i64) ?_), rfl⟩)
  all_goals first
    | (rw [len8_at _ (by omega) _ (by omega) (by omega)]
       have e : (x / 4294967296 / 65536 / 256).toNat = x.toNat / 72057594037927936 := by omega
       have s := Lib.bitLen_shift56 x.toNat (by omega) (by omega)
       rw [e]
       omega)
    | (rw [len8_at _ (by omega) _ (by omega) (by omega)]
       have e : (x / 4294967296 / 65536).toNat = x.toNat / 281474976710656 := by omega
       have s := Lib.bitLen_shift48 x.toNat (by omega) (by omega)
       rw [e]
       omega)
    | (rw [len8_at _ (by omega) _ (by omega) (by omega)]
       have e : (x / 4294967296 / 256).toNat = x.toNat / 1099511627776 := by omega
       have s := Lib.bitLen_shift40 x.toNat (by omega) (by omega)
       rw [e]
       omega)
    | (rw [len8_at _ (by omega) _ (by omega) (by omega)]
       have e : (x / 4294967296).toNat = x.toNat / 4294967296 := by omega
       have s := Lib.bitLen_shift32 x.toNat (by omega) (by omega)
       rw [e]
       omega)
    | (rw [len8_at _ (by omega) _ (by omega) (by omega)]
       have e : (x / 65536 / 256).toNat = x.toNat / 16777216 := by omega
       have s := Lib.bitLen_shift24 x.toNat (by omega) (by omega)
       rw [e]
       omega)
    | (rw [len8_at _ (by omega) _ (by omega) (by omega)]
       have e : (x / 65536).toNat = x.toNat / 65536 := by omega
       have s := Lib.bitLen_shift16 x.toNat (by omega) (by omega)
       rw [e]
       omega)
    | (rw [len8_at _ (by omega) _ (by omega) (by omega)]
       have e : (x / 256).toNat = x.toNat / 256 := by omega
       have s := Lib.bitLen_shift8 x.toNat (by omega) (by omega)
       rw [e]
       omega)
    | (have e := len8_at 0 (by omega) x h0 (by omega) (by omega)
       rw [Int.zero_add, Int.zero_add] at e
       rw [← e, w64, w64])
set_option maxRecDepth 100000 in
theorem bitLen_pow : ∀ (f x : Nat), 0 < x → x < 2 ^ f → 2 ^ (Lib.bitLenAux f x - 1) ≤ x ∧ x < 2 ^ (Lib.bitLenAux f x) ∧ 0 < Lib.bitLenAux f x ∧ Lib.bitLenAux f x ≤ f := by
  intro f
  induction f with
  | zero => intro x h1 h2; simp at h2; omega
  | succ f ih =>
    intro x h1 h2
    have e : Lib.bitLenAux (f + 1) x = 1 + Lib.bitLenAux f (x / 2) := by
      rw [Lib.bitLenAux]; split <;> omega
    rw [e]
    by_cases h3 : x / 2 = 0
    · have h4 : x = 1 := by omega
      subst h4
      rw [show (1 : Nat) / 2 = 0 from rfl]
      have : Lib.bitLenAux f 0 = 0 := by cases f <;> simp [Lib.bitLenAux]
      rw [this]
      simp
    · obtain ⟨a1, a2, a3, a4⟩ := ih (x / 2) (by omega) (by rw [Nat.pow_succ] at h2; omega)
      generalize Lib.bitLenAux f (x / 2) = k at *
      obtain ⟨j, rfl⟩ : ∃ j, k = j + 1 := ⟨k - 1, by omega⟩
      rw [show j + 1 - 1 = j by omega] at a1
      rw [show 1 + (j + 1) - 1 = j + 1 by omega, show 1 + (j + 1) = (j + 1) + 1 by omega, Nat.pow_succ 2 (j + 1)]
      rw [Nat.pow_succ] at a2 ⊢
      omega
set_option maxRecDepth 100000 in
/-- the leading zeros of a number that is not 0. -/
theorem lz_any (y : Int) (w : World) (h0 : 0 < y) (h1 : y < 18446744073709551616) : ∃ s : Nat, s ≤ 63 ∧ y * 2 ^ s < 18446744073709551616 ∧ 9223372036854775808 ≤ y * 2 ^ s ∧
    ∀ w : World, Calls Tryz.prog 288 #[.int .u64 y] w fun e w' => e = .returned (.int .i64 s) ∧ w = w' := by
  obtain ⟨y, rfl⟩ := Int.eq_ofNat_of_zero_le (by omega : 0 ≤ y)
  obtain ⟨a1, a2, a3, a4⟩ := bitLen_pow 64 y (by omega) (by omega)
  have e : Lib.bitLenAux 64 y = Lib.bitLen y := rfl
  rw [e] at a1 a2 a3 a4
  refine ⟨64 - Lib.bitLen y, by omega, ?_, ?_, fun w => ?_⟩
  · have h : y * 2 ^ (64 - Lib.bitLen y) < 2 ^ Lib.bitLen y * 2 ^ (64 - Lib.bitLen y) := Nat.mul_lt_mul_of_pos_right a2 (Nat.pow_pos (by omega))
    rw [← Nat.pow_add, show Lib.bitLen y + (64 - Lib.bitLen y) = 64 by omega, show (2 : Nat) ^ 64 = 18446744073709551616 from rfl] at h
    have h' := Int.ofNat_lt.2 h
    rw [Int.natCast_mul, Int.natCast_pow] at h'
    exact h'
  · have h : 2 ^ (Lib.bitLen y - 1) * 2 ^ (64 - Lib.bitLen y) ≤ y * 2 ^ (64 - Lib.bitLen y) := Nat.mul_le_mul_right _ a1
    rw [← Nat.pow_add, show Lib.bitLen y - 1 + (64 - Lib.bitLen y) = 63 by omega, show (2 : Nat) ^ 63 = 9223372036854775808 from rfl] at h
    have h' := Int.ofNat_le.2 h
    rw [Int.natCast_mul, Int.natCast_pow] at h'
    exact h'
  · have hb : (Lib.bitLen ((y : Nat) : Int).toNat : Int) = (Lib.bitLen y : Int) := by simp
    have hL := fun w' => (len64_any (y : Int) w' (by omega) (by omega)).mono (R' := fun e w'' => e = .returned (.int .i64 (Lib.bitLen y)) ∧ w' = w'') fun e w'' ⟨h1, h2⟩ => ⟨by rw [h1, hb], h2⟩
    have e2 : (((64 - Lib.bitLen y : Nat)) : Int) = 64 - (Lib.bitLen y : Int) := by omega
    rw [e2]
    clear hb a1 a2 a3 e e2
    go_enter Tryz.func288, Tryz.ntmps288
    go_wp2_with (go_at_call 290; (with_reducible refine (hL _).mono ?_); rintro e w1 ⟨rfl, rfl⟩)
    go_ret
    exact ⟨rfl, rfl⟩
end Go.Proofs.YtlbiiljncacdoaaGreat
