/- Which columns are asked for: the four ways. -/
import Derived.Test.YtjdboclibinjoaaFt8
import Derived.Test.YtjdboclibinjoaaIx2
set_option linter.unusedVariables false
namespace Go.Proofs.Ytjdboclibinjoaa
open Go.RowKit
theorem run_size : (Try.prog.info? 35).map (·.size) = some 2 := by kernel_rfl
/-- Block g holds one run; what a way's answer is. -/
theorem own_one {w : World} {x y : Int} : (w.alloc (.cells #[.int .i64 x, .int .i64 y] 35)).ownsRow w.heap.size 35 2 (.slice (some ⟨w.heap.size, 0, none⟩) 1 1) 1 (encR [(x, y)]) := by
  refine ⟨rfl, .inr ⟨w.heap.size, 1, #[.int .i64 x, .int .i64 y], rfl, Nat.le_refl _, Bk.new w _ _, Nat.le_refl _, by simp [maxLen], rfl, rfl⟩⟩
set_option maxHeartbeats 1000000 in
theorem inside_any (lo hi n : Int) (w : World) (hn : 1 ≤ n) (hn2 : n ≤ 2147483648) (h1 : -4611686018427387904 ≤ lo ∧ lo ≤ 4611686018427387904) (h2 : -4611686018427387904 ≤ hi ∧ hi ≤ 4611686018427387904) :
    Calls Try.prog 71 #[askV lo hi n] w fun e w' => ∃ v, e = .returned v ∧ w'.ownsRow w.heap.size 35 2 v 1 (encR [(max lo 0, min hi (n - 1) + 1)]) ∧ Below w.heap.size w w' := by
  go_enter Try.func71, Try.ntmps71
  have hK := Bk.new w 92 #[.int .i64 lo, .int .i64 hi, .int .i64 n]
  have hr : -9223372036854775808 ≤ min hi (n - 1) + 1 ∧ min hi (n - 1) + 1 ≤ 9223372036854775807 := by omega
  go_wp2_with (go_at_call 103; (with_reducible refine (run_any (max lo 0) (min hi (n - 1)) _ hr).mono ?_); rintro e w1 ⟨rfl, hb1⟩)
  go_returns
  refine ⟨_, rfl, own_base own_one (by have := hb1.size; simp at this; omega), ?_⟩
  exact (((Below.refl _ w).alloc (Nat.le_refl _) _).trans (hb1.mono (by simp))).alloc (by have := hb1.size; simp at this; omega) _
set_option maxHeartbeats 1000000 in
theorem clamped_any (lo hi n : Int) (w : World) (hn : 1 ≤ n) (hn2 : n ≤ 2147483648) (h1 : -4611686018427387904 ≤ lo ∧ lo ≤ 4611686018427387904) (h2 : -4611686018427387904 ≤ hi ∧ hi ≤ 4611686018427387904) :
    Calls Try.prog 72 #[askV lo hi n] w fun e w' => ∃ v, e = .returned v ∧ w'.ownsRow w.heap.size 35 2 v 1 (encR [(max 0 (min lo (n - 1)), max 0 (min hi (n - 1)) + 1)]) ∧ Below w.heap.size w w' := by
  go_enter Try.func72, Try.ntmps72
  have hK := Bk.new w 92 #[.int .i64 lo, .int .i64 hi, .int .i64 n]
  have hr : -9223372036854775808 ≤ max 0 (min hi (n - 1)) + 1 ∧ max 0 (min hi (n - 1)) + 1 ≤ 9223372036854775807 := by omega
  go_wp2_with (go_at_call 103; (with_reducible refine (run_any (max 0 (min lo (n - 1))) (max 0 (min hi (n - 1))) _ hr).mono ?_); rintro e w1 ⟨rfl, hb1⟩)
  go_returns
  refine ⟨_, rfl, own_base own_one (by have := hb1.size; simp at this; omega), ?_⟩
  exact (((Below.refl _ w).alloc (Nat.le_refl _) _).trans (hb1.mono (by simp))).alloc (by have := hb1.size; simp at this; omega) _
set_option maxHeartbeats 1000000 in
theorem block_any (lo hi n i : Int) (w : World) (hn : 1 ≤ n) (hn2 : n ≤ 2147483648) (h1 : -4611686018427387904 ≤ i ∧ i ≤ 4611686018427387904) :
    Calls Try.prog 143 #[askV lo hi n, .int .i64 i] w fun e w' => e = .returned (.tuple #[.int .i64 (i / n), .int .i64 (i % n)]) ∧ Below w.heap.size w w' := by
  go_enter Try.func143, Try.ntmps143
  have hi : -9223372036854775808 ≤ i ∧ i ≤ 9223372036854775807 := by omega
  have hi2 : -9223372036854775808 < i ∧ i ≤ 9223372036854775807 := by omega
  have hn3 : n ≤ 9223372036854775807 := by omega
  go_wp2_with (first
    | (go_at_call 114; (with_reducible refine (qfloor_any _ _ _ hn hn3 hi2).mono ?_); rintro e w1 ⟨rfl, rfl⟩)
    | (go_at_call 113; (with_reducible refine (qmod_any _ _ _ hn hn3 hi).mono ?_); rintro e w2 ⟨rfl, rfl⟩))
  go_returns
  exact ⟨rfl, by go_grown⟩
set_option maxHeartbeats 1000000 in
theorem again1_any (k a b : Int) (w : World) (hb : -9223372036854775808 ≤ b + 1 ∧ b + 1 ≤ 9223372036854775807) :
    Calls Try.prog 105 #[.int .i64 k, .int .i64 a, .int .i64 b] w fun e w' => e = .returned (.agg #[.int .i64 a, .int .i64 (b + 1)]) ∧ Below w.heap.size w w' := by
  go_enter Try.func105, Try.ntmps105
  have hK := Bk.new w 35 #[.int .i64 0, .int .i64 0]
  go_wp2_with (first
    | (go_at_call 103; (with_reducible refine (run_any _ _ _ hb).mono ?_); rintro e w1 ⟨rfl, hb1⟩; have hK1 := hK.nx hb1)
    | (refine stB rfl _ _ _ rfl hK1 #[.int .i64 a, .int .i64 (b + 1)] rfl rfl run_size rfl (by simp [Value.oneCell']) ?_; intro w6 hK6 hg6 _))
  refine bodyPost_ret (res_cell rfl hK6 rfl Try.underlying35 rfl run_size) rfl ?_
  exact ⟨rfl, below_of_gb (((Below.refl _ w).alloc (Nat.le_refl _) _).trans (hb1.mono (by simp))) hg6 (Nat.le_refl _) (by have := hb1.size; simp at this; omega)⟩
/-- What back lays. -/
def layB (n k a b : Int) : Rn := if k % 2 = 0 then (a, b + 1) else (n - 1 - b, n - 1 - a + 1)
set_option maxHeartbeats 1000000 in
theorem back1_any (lo hi n k a b : Int) (g : Nat) (w : World) (hg : g < w.heap.size) (hK0 : Bk w g 92 #[.int .i64 lo, .int .i64 hi, .int .i64 n]) (hn : 1 ≤ n) (hn2 : n ≤ 2147483648) (ha : 0 ≤ a ∧ a < n) (hb : 0 ≤ b ∧ b < n) (hk : -9223372036854775808 ≤ k ∧ k ≤ 9223372036854775807) :
    Calls Try.prog 106 #[.int .i64 k, .int .i64 a, .int .i64 b, .pointer (some ⟨g, 0, none⟩)] w fun e w' => e = .returned (.agg #[.int .i64 (layB n k a b).1, .int .i64 (layB n k a b).2]) ∧ Below w.heap.size w w' := by
  obtain ⟨hk1, hk2⟩ := hk
  have hK := Bk.new w 35 #[.int .i64 0, .int .i64 0]
  obtain ⟨c0, c1, c2⟩ := hK0.cell3
  have hgl : g ≠ w.heap.size := by omega
  by_cases hp : k % 2 = 0
  · have HL := Lib.hid (show layB n k a b = (a, b + 1) by unfold layB; rw [if_pos hp])
    have ht : k.tmod 2 = 0 := by
      have := Int.tmod_eq_emod (a := k) (b := 2)
      rcases Int.emod_two_eq k with h | h <;> simp_all <;> omega
    have hr : -9223372036854775808 ≤ b + 1 ∧ b + 1 ≤ 9223372036854775807 := by omega
    clear hp
    go_enter Try.func106, Try.ntmps106
    go_wp2_with (first
      | (go_at_call 103; (with_reducible refine (run_any _ _ _ hr).mono ?_); rintro e w1 ⟨rfl, hb1⟩; have hK1 := hK.nx hb1)
      | (refine stB rfl _ _ _ rfl hK1 #[.int .i64 a, .int .i64 (b + 1)] rfl rfl run_size rfl (by simp [Value.oneCell']) ?_; intro w6 hK6 hg6 _))
    refine bodyPost_ret (res_cell rfl hK6 rfl Try.underlying35 rfl run_size) rfl ?_
    exact ⟨by rw [HL.out], below_of_gb (((Below.refl _ w).alloc (Nat.le_refl _) _).trans (hb1.mono (by simp))) hg6 (Nat.le_refl _) (by have := hb1.size; simp at this; omega)⟩
  · have HL := Lib.hid (show layB n k a b = (n - 1 - b, n - 1 - a + 1) by unfold layB; rw [if_neg hp])
    have ht : k.tmod 2 ≠ 0 := by
      intro h
      have := Int.dvd_of_tmod_eq_zero h
      omega
    have hr : -9223372036854775808 ≤ n - 1 - a + 1 ∧ n - 1 - a + 1 ≤ 9223372036854775807 := by omega
    clear hp
    go_enter Try.func106, Try.ntmps106
    go_wp2_with (first
      | (go_at_call 103; (with_reducible refine (run_any _ _ _ hr).mono ?_); rintro e w1 ⟨rfl, hb1⟩; have hK1 := hK.nx hb1)
      | (refine stB rfl _ _ _ rfl hK1 #[.int .i64 (n - 1 - b), .int .i64 (n - 1 - a + 1)] rfl rfl run_size rfl (by simp [Value.oneCell']) ?_; intro w6 hK6 hg6 _))
    refine bodyPost_ret (res_cell rfl hK6 rfl Try.underlying35 rfl run_size) rfl ?_
    exact ⟨by rw [HL.out], below_of_gb (((Below.refl _ w).alloc (Nat.le_refl _) _).trans (hb1.mono (by simp))) hg6 (Nat.le_refl _) (by have := hb1.size; simp at this; omega)⟩
end Go.Proofs.Ytjdboclibinjoaa
