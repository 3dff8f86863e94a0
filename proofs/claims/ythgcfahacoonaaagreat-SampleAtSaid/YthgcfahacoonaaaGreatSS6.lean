/- sample: what is wrong with a kernel; New; the reference's checks, places, bytes; the law's small ones. -/
import Derived.Test.YthgcfahacoonaaaGreatSS5
import Derived.Test.YthgcfahacoonaaaGreatSn1
import Derived.Test.YthgcfahacoonaaaGreatLie
import Derived.Laws.Cover3
set_option linter.unusedVariables false
namespace Go.Proofs.YthgcfahacoonaaaGreat
open Go.RowKit
abbrev bdV (mo c0 c1 c2 c3 : Int) : Value := .agg #[.int .i64 mo, .int .u8 c0, .int .u8 c1, .int .u8 c2, .int .u8 c3]
def modeC (m : Int) : Int := if m < 0 ∨ 3 < m then 10 else 0
def kerC (k n m : Int) : Int := if k < 0 ∨ 3 < k then 10 else if k = 3 ∧ (n < 1 ∨ 8 < n) then 11 else modeC m
theorem bchk_any (m c0 c1 c2 c3 : Int) (w : World) : Calls Tryz.prog 53 #[bdV m c0 c1 c2 c3] w fun e w' => e = .returned (.int .i64 (modeC m)) ∧ Below w.heap.size w w' := by
  by_cases h : m < 0
  · have HM : Hid (modeC m = 10) := by show _ = _; unfold modeC; rw [if_pos (.inl h)]
    go_enter Tryz.func53, Tryz.ntmps53
    go_wp2
    go_returns
    exact ⟨ret_int HM.out.symm, by go_grown⟩
  · by_cases h2 : 3 < m
    · have HM : Hid (modeC m = 10) := by show _ = _; unfold modeC; rw [if_pos (.inr h2)]
      go_enter Tryz.func53, Tryz.ntmps53
      go_wp2
      go_returns
      exact ⟨ret_int HM.out.symm, by go_grown⟩
    · have HM : Hid (modeC m = 0) := by show _ = _; unfold modeC; rw [if_neg (by omega)]
      go_enter Tryz.func53, Tryz.ntmps53
      go_wp2
      go_returns
      exact ⟨ret_int HM.out.symm, by go_grown⟩
set_option maxRecDepth 100000 in
set_option maxHeartbeats 4000000 in
theorem kchk_any (k n m c0 c1 c2 c3 : Int) (w : World) : Calls Tryz.prog 23 #[.int .i64 k, .int .i64 n, bdV m c0 c1 c2 c3] w fun e w' => e = .returned (.int .i64 (kerC k n m)) ∧ Below w.heap.size w w' := by
  by_cases h : 0 ≤ k ∧ k ≤ 3
  · have hd : decide (0 ≤ k ∧ k ≤ 3) = true := decide_eq_true h
    by_cases h3 : k = 3 ∧ (n < 1 ∨ 8 < n)
    · have HM : Hid (kerC k n m = 11) := by show _ = _; unfold kerC; rw [if_neg (by omega), if_pos h3]
      have hk3 : (k == 3) = true := by simp [h3.1]
      rcases (show n < 1 ∨ (1 ≤ n ∧ 8 < n) by omega) with hn | ⟨hn, hn2⟩
      all_goals
        clear h h3
        go_enter Tryz.func23, Tryz.ntmps23
        go_wp2_with (go_at_call 52; (with_reducible refine (is_any _ _).mono ?_); rintro e w1 ⟨rfl, rfl⟩; rw [hd])
        go_returns
        exact ⟨ret_int HM.out.symm, by go_grown⟩
    · have HM : Hid (kerC k n m = modeC m) := by show _ = _; unfold kerC; rw [if_neg (by omega), if_neg h3]
      have hC := fun w => bchk_any m c0 c1 c2 c3 w
      by_cases hk : k = 3
      · have hk3 : (k == 3) = true := by simp [hk]
        have hn1 : 1 ≤ n := by omega
        have hn2 : n ≤ 8 := by omega
        clear h h3 hk
        go_enter Tryz.func23, Tryz.ntmps23
        go_wp2_with (first
          | (go_at_call 52; (with_reducible refine (is_any _ _).mono ?_); rintro e w1 ⟨rfl, rfl⟩; rw [hd])
          | (go_at_call 53; (with_reducible refine (hC _).mono ?_); rintro e w2 ⟨rfl, hb2⟩))
        go_returns
        exact ⟨ret_int HM.out.symm, ((Below.refl _ _).alloc (Nat.le_refl _) _).trans (hb2.mono (by simp))⟩
      · have hk3 : (k == 3) = false := by simpa using hk
        clear h h3 hk
        go_enter Tryz.func23, Tryz.ntmps23
        go_wp2_with (first
          | (go_at_call 52; (with_reducible refine (is_any _ _).mono ?_); rintro e w1 ⟨rfl, rfl⟩; rw [hd])
          | (go_at_call 53; (with_reducible refine (hC _).mono ?_); rintro e w2 ⟨rfl, hb2⟩))
        go_returns
        exact ⟨ret_int HM.out.symm, ((Below.refl _ _).alloc (Nat.le_refl _) _).trans (hb2.mono (by simp))⟩
  · have hd : decide (0 ≤ k ∧ k ≤ 3) = false := decide_eq_false h
    have HM : Hid (kerC k n m = 10) := by show _ = _; unfold kerC; rw [if_pos (by omega)]
    clear h
    go_enter Tryz.func23, Tryz.ntmps23
    go_wp2_with (go_at_call 52; (with_reducible refine (is_any _ _).mono ?_); rintro e w1 ⟨rfl, rfl⟩; rw [hd])
    go_returns
    exact ⟨ret_int HM.out.symm, by go_grown⟩
set_option maxRecDepth 100000 in
set_option maxHeartbeats 4000000 in
theorem rkchk_any (k n m c0 c1 c2 c3 : Int) (w : World) : Calls Tryz.prog 7 #[.int .i64 k, .int .i64 n, bdV m c0 c1 c2 c3] w fun e w' => e = .returned (.int .i64 (kerC k n m)) ∧ Below w.heap.size w w' := by
  rcases (show k < 0 ∨ (0 ≤ k ∧ 3 < k) ∨ (0 ≤ k ∧ k ≤ 2) ∨ k = 3 by omega) with hk | ⟨hk, hk2⟩ | ⟨hk, hk2⟩ | hk
  · have HM : Hid (kerC k n m = 10) := by show _ = _; unfold kerC; rw [if_pos (.inl hk)]
    go_enter Tryz.func7, Tryz.ntmps7
    go_wp2
    go_returns
    exact ⟨ret_int HM.out.symm, by go_grown⟩
  · have HM : Hid (kerC k n m = 10) := by show _ = _; unfold kerC; rw [if_pos (.inr hk2)]
    go_enter Tryz.func7, Tryz.ntmps7
    go_wp2
    go_returns
    exact ⟨ret_int HM.out.symm, by go_grown⟩
  · have hk3 : (k == 3) = false := by simp; omega
    have HM : Hid (kerC k n m = modeC m) := by show _ = _; unfold kerC; rw [if_neg (by omega), if_neg (by omega)]
    rcases (show m < 0 ∨ (0 ≤ m ∧ 3 < m) ∨ (0 ≤ m ∧ m ≤ 3) by omega) with hm | ⟨hm, hm2⟩ | ⟨hm, hm2⟩
    all_goals
      go_enter Tryz.func7, Tryz.ntmps7
      go_wp2
      go_returns
      exact ⟨ret_int (by rw [HM.out]; unfold modeC; first | rw [if_pos (by omega)] | rw [if_neg (by omega)]), by go_grown⟩
  · subst hk
    rcases (show n < 1 ∨ (1 ≤ n ∧ 8 < n) ∨ (1 ≤ n ∧ n ≤ 8) by omega) with hn | ⟨hn, hn2⟩ | ⟨hn, hn2⟩
    · have HM : Hid (kerC 3 n m = 11) := by show _ = _; unfold kerC; rw [if_neg (by omega), if_pos ⟨rfl, .inl hn⟩]
      go_enter Tryz.func7, Tryz.ntmps7
      go_wp2
      go_returns
      exact ⟨ret_int HM.out.symm, by go_grown⟩
    · have HM : Hid (kerC 3 n m = 11) := by show _ = _; unfold kerC; rw [if_neg (by omega), if_pos ⟨rfl, .inr hn2⟩]
      go_enter Tryz.func7, Tryz.ntmps7
      go_wp2
      go_returns
      exact ⟨ret_int HM.out.symm, by go_grown⟩
    · have HM : Hid (kerC 3 n m = modeC m) := by show _ = _; unfold kerC; rw [if_neg (by omega), if_neg (by omega)]
      rcases (show m < 0 ∨ (0 ≤ m ∧ 3 < m) ∨ (0 ≤ m ∧ m ≤ 3) by omega) with hm | ⟨hm, hm2⟩ | ⟨hm, hm2⟩
      all_goals
        go_enter Tryz.func7, Tryz.ntmps7
        go_wp2
        go_returns
        exact ⟨ret_int (by rw [HM.out]; unfold modeC; first | rw [if_pos (by omega)] | rw [if_neg (by omega)]), by go_grown⟩
theorem snew_nil (k n m c0 c1 c2 c3 : Int) (w : World) : Calls Tryz.prog 9 #[.nilIface, .int .i64 k, .int .i64 n, bdV m c0 c1 c2 c3] w fun e w' => e = .returned (.tuple #[.pointer none, .int .i64 10]) ∧ Below w.heap.size w w' := by
  have hq : ∀ w, (binOp .eql 38 .nilIface .nilIface).run Tryz.prog w = .ok (.bool true) w := fun w => by kernel_rfl
  go_enter Tryz.func9, Tryz.ntmps9
  go_wp2
  go_returns
  exact ⟨rfl, by go_grown⟩
end Go.Proofs.YthgcfahacoonaaaGreat
