/- level: images of a pyramid, and the reference's. -/
import Derived.Test.YthgcfahacoonaaaGreatK4
set_option linter.unusedVariables false
namespace Go.Proofs.YthgcfahacoonaaaGreat
open Go.RowKit
theorem p2_15 (n : Nat) (h : n ≤ 15) : (1:Int) ≤ 2 ^ n ∧ (2:Int) ^ n ≤ 32768 := by
  have h1 : (2:Nat) ^ n ≤ 2 ^ 15 := Nat.pow_le_pow_right (by decide) h
  have h2 : 1 ≤ (2:Nat) ^ n := Nat.one_le_two_pow
  have e : ((2:Int) ^ n) = ((2 ^ n : Nat) : Int) := by simp
  rw [e]; omega
theorem p2_40 (n : Nat) (h : n ≤ 40) : (1:Int) ≤ 2 ^ n ∧ (2:Int) ^ n ≤ 1099511627776 := by
  have h1 : (2:Nat) ^ n ≤ 2 ^ 40 := Nat.pow_le_pow_right (by decide) h
  have h2 : 1 ≤ (2:Nat) ^ n := Nat.one_le_two_pow
  have e : ((2:Int) ^ n) = ((2 ^ n : Nat) : Int) := by simp
  rw [e]; omega
def lvTop (m : Int) : Nat := (min m 15).toNat
def lv (d : Int) : Nat → Nat
  | 0 => 0
  | n + 1 => if 65536 * 2 ^ (n + 1) ≤ d then n + 1 else lv d n
theorem p2_le (i j : Nat) (h : i ≤ j) : (2:Int) ^ i ≤ 2 ^ j := by
  have h1 : (2:Nat) ^ i ≤ 2 ^ j := Nat.pow_le_pow_right (by decide) h
  have e : ∀ n : Nat, ((2:Int) ^ n) = ((2 ^ n : Nat) : Int) := fun n => by simp
  rw [e, e]; omega
theorem lv_eq (d : Int) (M n : Nat) (h1 : n ≤ M) (h2 : n = 0 ∨ 65536 * 2 ^ n ≤ d) (h3 : n = M ∨ d < 65536 * 2 ^ (n + 1)) : lv d M = n := by
  induction M with
  | zero => simp [lv]; omega
  | succ M ih =>
    rw [lv]
    by_cases e : n = M + 1
    · subst e; rw [if_pos (by rcases h2 with h | h <;> first | omega | exact h)]
    · have := p2_le (n + 1) (M + 1) (by omega)
      rw [if_neg (by omega)]; exact ih (by omega) (by omega)
set_option maxHeartbeats 400000 in
theorem lv_pick_any (a b : Int) (w : World) :
    Calls Tryz.prog 80 #[.int .i64 a, .int .i64 b] w fun e w' => e = .returned (.int .i64 (lv a (lvTop b))) ∧ w = w' := by
  go_enter Tryz.func80, Tryz.ntmps80
  go_wp2
  go_loop [5] (fun k => ∃ n : Nat, n ≤ lvTop b ∧ k = .int .i64 n ∧ (n = 0 ∨ 65536 * 2 ^ n ≤ a)) (fun k => lvTop b - (intOf k).toNat)
  case atStart => exact ⟨0, by omega, rfl, .inl rfl⟩
  case round =>
    obtain ⟨n, hn, rfl, hn2⟩ := hrel
    have hT : lvTop b ≤ 15 := by unfold lvTop; omega
    have hT1 : n < lvTop b → n < b := by unfold lvTop; omega
    have hT2 : (n : Int) < b → n < 15 → n < lvTop b := by unfold lvTop; omega
    by_cases hlt : n < lvTop b
    · have hp := p2_15 (n+1) (by omega)
      have hb := hT1 hlt
      clear hT1 hT2
      go_wp2
      all_goals first
        | (go_round
           case rel => exact ⟨n + 1, by omega, by go_num, .inr (by omega)⟩
           case measure => simp [intOf]; omega)
        | (go_ret
           exact ⟨ret_int (by rw [lv_eq a (lvTop b) n hn hn2 (.inr (by omega))]), rfl⟩)
    · have hb : ¬ (n < b ∧ n < 15) := by omega
      clear hT1 hT2
      go_wp2
      all_goals
        go_ret
        exact ⟨ret_int (by rw [lv_eq a (lvTop b) n hn hn2 (.inl (by omega))]), rfl⟩


set_option maxHeartbeats 400000 in
theorem lv_pow_any (k : Nat) (hk : k ≤ 40) (w : World) :
    Calls Tryz.prog 63 #[.int .i64 k] w fun e w' => e = .returned (.int .i64 (2 ^ k)) ∧ w = w' := by
  go_enter Tryz.func63, Tryz.ntmps63
  go_wp2
  go_loop [3, 4] (fun o k' => ∃ n : Nat, n ≤ k ∧ k' = .int .i64 n ∧ o = .int .i64 (2 ^ n)) (fun _ k' => k - (intOf k').toNat)
  case atStart => exact ⟨0, by omega, rfl, rfl⟩
  case round =>
    obtain ⟨n, hn, rfl, rfl⟩ := hrel
    by_cases hlt : n < k
    · have hp := p2_40 (n + 1) (by omega)
      have he : (2:Int) ^ (n + 1) = 2 ^ n * 2 := Int.pow_succ 2 n
      have HE := Lib.hid he; rw [he] at hp; clear he
      go_wp2
      go_round
      case rel => exact ⟨n + 1, by omega, by go_num, by rw [HE.out]⟩
      case measure => simp [intOf]; omega
    · go_wp2
      go_ret
      exact ⟨ret_int (by rw [show n = k by omega]), rfl⟩
set_option maxHeartbeats 400000 in
theorem lv_cut_any (k : Int) (w : World) :
    Calls Tryz.prog 61 #[.int .i64 k] w fun e w' => e = .returned (.int .u64 (lvTop k)) ∧ w = w' := by
  go_enter Tryz.func61, Tryz.ntmps61
  go_wp2
  all_goals
    go_ret
    exact ⟨ret_int (by unfold lvTop; omega), rfl⟩
set_option maxHeartbeats 400000 in
theorem lv_rest_any (k : Nat) (hk : k ≤ 15) (w : World) :
    Calls Tryz.prog 62 #[.int .u64 k] w fun e w' => e = .returned (.int .i64 (32768 * (2 ^ k - 1))) ∧ w = w' := by
  have hp := p2_15 k hk
  go_enter Tryz.func62, Tryz.ntmps62
  go_wp2
  go_ret
  exact ⟨rfl, rfl⟩
theorem lvTop_le (k : Int) : lvTop k ≤ 15 := by unfold lvTop; omega
def lvTo (u k : Int) : Int := (u - 32768 * (2 ^ lvTop k - 1)) / 2 ^ lvTop k
def lvFrom (u k : Int) : Int := u * 2 ^ lvTop k + 32768 * (2 ^ lvTop k - 1)
theorem mul_p2_bd (u : Int) (n : Nat) (hn : n ≤ 15) (h0 : -70368744177664 ≤ u) (h1 : u ≤ 70368744177664) : -2305843009213693952 ≤ u * 2 ^ n ∧ u * 2 ^ n ≤ 2305843009213693952 := by
  have hp := p2_15 n hn
  generalize (2:Int) ^ n = p at *
  constructor
  · have : (-70368744177664) * p ≤ u * p := Int.mul_le_mul_of_nonneg_right h0 (by omega)
    omega
  · have : u * p ≤ 70368744177664 * p := Int.mul_le_mul_of_nonneg_right h1 (by omega)
    omega
set_option maxHeartbeats 400000 in
theorem lv_to_any (u k : Int) (w : World) (h0 : -70368744177664 ≤ u) (h1 : u ≤ 70368744177664) :
    Calls Tryz.prog 27 #[.int .i64 u, .int .i64 k] w fun e w' => e = .returned (.int .i64 (lvTo u k)) ∧ w = w' := by
  have ht := lvTop_le k
  have hp := p2_15 _ ht
  go_enter Tryz.func27, Tryz.ntmps27
  go_wp2_with (first
    | (go_at_call 61; refine (lv_cut_any _ _).mono ?_; rintro e w' ⟨rfl, rfl⟩)
    | (go_at_call 62; refine (lv_rest_any _ ht _).mono ?_; rintro e w' ⟨rfl, rfl⟩))
  go_ret
  exact ⟨ret_int (by unfold lvTo; rfl), rfl⟩
set_option maxHeartbeats 400000 in
theorem lv_rcut_any (k : Int) (w : World) :
    Calls Tryz.prog 64 #[.int .i64 k] w fun e w' => e = .returned (.int .i64 (lvTop k)) ∧ w = w' := by
  go_enter Tryz.func64, Tryz.ntmps64
  go_wp2
  all_goals
    go_ret
    exact ⟨ret_int (by unfold lvTop; omega), rfl⟩
set_option maxHeartbeats 400000 in
theorem lv_rto_any (u k : Int) (w : World) (h0 : -70368744177664 ≤ u) (h1 : u ≤ 70368744177664) :
    Calls Tryz.prog 30 #[.int .i64 u, .int .i64 k] w fun e w' => e = .returned (.int .i64 (lvTo u k)) ∧ w = w' := by
  have ht := lvTop_le k
  have hp := p2_15 _ ht
  go_enter Tryz.func30, Tryz.ntmps30
  go_wp2_with (first
    | (go_at_call 64; refine (lv_rcut_any _ _).mono ?_; rintro e w' ⟨rfl, rfl⟩)
    | (go_at_call 63; refine (lv_pow_any _ (by omega) _).mono ?_; rintro e w' ⟨rfl, rfl⟩)
    | (go_at_call 65; refine (rdown_any _ _ _ (by omega) (by omega) (by omega)).mono ?_; rintro e w' ⟨rfl, rfl⟩))
  go_ret
  exact ⟨rfl, rfl⟩
set_option maxHeartbeats 400000 in
theorem lv_rpick_any (a b : Int) (w : World) :
    Calls Tryz.prog 45 #[.int .i64 a, .int .i64 b] w fun e w' => e = .returned (.int .i64 (lv a (lvTop b))) ∧ w = w' := by
  have hT := lvTop_le b
  go_enter Tryz.func45, Tryz.ntmps45
  go_wp2
  go_loop [5, 6] (fun o k => ∃ n : Nat, n ≤ lvTop b ∧ k = .int .i64 (n + 1) ∧ o = .int .i64 (lv a n)) (fun _ k => 16 - (intOf k).toNat)
  case atStart => exact ⟨0, by omega, rfl, rfl⟩
  case round =>
    obtain ⟨n, hn, rfl, rfl⟩ := hrel
    have hT1 : n < lvTop b → n < b := by unfold lvTop; omega
    have hT2 : (n : Int) < b → n < 15 → n < lvTop b := by unfold lvTop; omega
    by_cases hlt : n < lvTop b
    · have hp := p2_15 (n+1) (by omega)
      have hb := hT1 hlt
      clear hT1 hT2
      go_wp2_with (go_at_call 63; refine (lv_pow_any (n+1) (by omega) _).mono ?_; rintro e w' ⟨rfl, rfl⟩)
      all_goals
        go_round
        case rel => exact ⟨n + 1, by omega, by go_num, by rw [lv]; first | rw [if_pos (by assumption)]; go_num | rw [if_neg (by omega)]⟩
        case measure => simp [intOf]; omega
    · have hb : ¬ (n < b ∧ n < 15) := by omega
      clear hT1 hT2
      go_wp2
      all_goals
        go_ret
        exact ⟨ret_int (by rw [show n = lvTop b by omega]), rfl⟩
theorem lv_mono (d d' : Int) (h : d ≤ d') (M : Nat) : lv d M ≤ lv d' M := by
  induction M with
  | zero => simp [lv]
  | succ M ih =>
    have hb : ∀ x, lv x (M + 1) ≤ M + 1 := fun x => by
      have : ∀ n, lv x n ≤ n := fun n => by induction n with | zero => simp [lv] | succ n ih => rw [lv]; split <;> omega
      exact this _
    rw [lv, lv]
    have hbd : lv d M ≤ M := by
      have : ∀ n, lv d n ≤ n := fun n => by induction n with | zero => simp [lv] | succ n ih => rw [lv]; split <;> omega
      exact this _
    split <;> split <;> omega
theorem toFrom (u k : Int) : lvTo (lvFrom u k) k = u := by
  unfold lvTo lvFrom
  have hp := p2_15 _ (lvTop_le k)
  generalize (2:Int) ^ lvTop k = p at *
  rw [Int.add_sub_cancel, Int.mul_ediv_cancel _ (by omega)]
end Go.Proofs.YthgcfahacoonaaaGreat
