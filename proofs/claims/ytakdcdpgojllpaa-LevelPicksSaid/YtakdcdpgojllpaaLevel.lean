/- Walks of layer 32 (level) and its reference: pyramids' levels. -/
import Derived.Test.YtakdcdpgojllpaaBase
set_option linter.unusedVariables false
namespace Go.Proofs.Ytakdcdpgojllpaa
open Go.RowKit
set_option maxHeartbeats 400000 in
theorem In_any (a b : Int) (w : World) (hb0 : 0 ≤ b) (hb : b ≤ 9223372036854775807) :
    Calls Try.prog 7 #[.int .i64 a, .int .i64 b] w fun e w' => e = .returned (.bool (decide (-b ≤ a) && decide (a ≤ b))) ∧ w = w' := by
  by_cases h1 : -b ≤ a
  all_goals
    go_enter Try.func7, Try.ntmps7
    go_wp2
    go_ret
    exact ⟨ret_bool (by simp [h1] <;> omega), rfl⟩

theorem p2_15 (n : Nat) (h : n ≤ 15) : (1:Int) ≤ 2 ^ n ∧ (2:Int) ^ n ≤ 32768 := by
  have h1 : (2:Nat) ^ n ≤ 2 ^ 15 := Nat.pow_le_pow_right (by decide) h
  have h2 : 1 ≤ (2:Nat) ^ n := Nat.one_le_two_pow
  have e : ((2:Int) ^ n) = ((2 ^ n : Nat) : Int) := by simp
  rw [e]; omega
theorem p2_40 (n : Nat) (h : n ≤ 40) : (1:Int) ≤ 2 ^ n ∧ (2:Int) ^ n ≤ 1099511627776 := by
  have h1 : (2:Nat) ^ n ≤ 2 ^ 40 := Nat.pow_le_pow_right (by decide) h
  have h2 : 1 ≤ (2:Nat) ^ n := Nat.one_le_two_pow
  have e : ((2:Int) ^ n) = ((2 ^ n : Nat) : Int) := by simp
  rw [e]; omega
def lvTop (m : Int) : Nat := (min m 15).toNat
def lv (d : Int) : Nat → Nat
  | 0 => 0
  | n + 1 => if 65536 * 2 ^ (n + 1) ≤ d then n + 1 else lv d n
theorem p2_le (i j : Nat) (h : i ≤ j) : (2:Int) ^ i ≤ 2 ^ j := by
  have h1 : (2:Nat) ^ i ≤ 2 ^ j := Nat.pow_le_pow_right (by decide) h
  have e : ∀ n : Nat, ((2:Int) ^ n) = ((2 ^ n : Nat) : Int) := fun n => by simp
  rw [e, e]; omega
theorem lv_eq (d : Int) (M n : Nat) (h1 : n ≤ M) (h2 : n = 0 ∨ 65536 * 2 ^ n ≤ d) (h3 : n = M ∨ d < 65536 * 2 ^ (n + 1)) : lv d M = n := by
  induction M with
  | zero => simp [lv]; omega
  | succ M ih =>
    rw [lv]
    by_cases e : n = M + 1
    · subst e; rw [if_pos (by rcases h2 with h | h <;> first | omega | exact h)]
    · have := p2_le (n + 1) (M + 1) (by omega)
      rw [if_neg (by omega)]; exact ih (by omega) (by omega)
set_option maxHeartbeats 400000 in
theorem pick_any (a b : Int) (w : World) :
    Calls Try.prog 5 #[.int .i64 a, .int .i64 b] w fun e w' => e = .returned (.int .i64 (lv a (lvTop b))) ∧ w = w' := by
  go_enter Try.func5, Try.ntmps5
  go_wp2
  go_loop [5] (fun k => ∃ n : Nat, n ≤ lvTop b ∧ k = .int .i64 n ∧ (n = 0 ∨ 65536 * 2 ^ n ≤ a)) (fun k => lvTop b - (intOf k).toNat)
  case atStart => exact ⟨0, by omega, rfl, .inl rfl⟩
  case round =>
    obtain ⟨n, hn, rfl, hn2⟩ := hrel
    have hT : lvTop b ≤ 15 := by unfold lvTop; omega
    have hT1 : n < lvTop b → n < b := by unfold lvTop; omega
    have hT2 : (n : Int) < b → n < 15 → n < lvTop b := by unfold lvTop; omega
    by_cases hlt : n < lvTop b
    · have hp := p2_15 (n+1) (by omega)
      have hb := hT1 hlt
      clear hT1 hT2
      go_wp2
      all_goals first
        | (go_round
           case rel => exact ⟨n + 1, by omega, by go_num, .inr (by omega)⟩
           case measure => simp [intOf]; omega)
        | (go_ret
           exact ⟨ret_int (by rw [lv_eq a (lvTop b) n hn hn2 (.inr (by omega))]), rfl⟩)
    · have hb : ¬ (n < b ∧ n < 15) := by omega
      clear hT1 hT2
      go_wp2
      all_goals
        go_ret
        exact ⟨ret_int (by rw [lv_eq a (lvTop b) n hn hn2 (.inl (by omega))]), rfl⟩


set_option maxHeartbeats 400000 in
theorem pow_any (k : Nat) (hk : k ≤ 40) (w : World) :
    Calls Try.prog 22 #[.int .i64 k] w fun e w' => e = .returned (.int .i64 (2 ^ k)) ∧ w = w' := by
  go_enter Try.func22, Try.ntmps22
  go_wp2
  go_loop [3, 4] (fun o k' => ∃ n : Nat, n ≤ k ∧ k' = .int .i64 n ∧ o = .int .i64 (2 ^ n)) (fun _ k' => k - (intOf k').toNat)
  case atStart => exact ⟨0, by omega, rfl, rfl⟩
  case round =>
    obtain ⟨n, hn, rfl, rfl⟩ := hrel
    by_cases hlt : n < k
    · have hp := p2_40 (n + 1) (by omega)
      have he : (2:Int) ^ (n + 1) = 2 ^ n * 2 := Int.pow_succ 2 n
      have HE := Lib.hid he; rw [he] at hp; clear he
      go_wp2
      go_round
      case rel => exact ⟨n + 1, by omega, by go_num, by rw [HE.out]⟩
      case measure => simp [intOf]; omega
    · go_wp2
      go_ret
      exact ⟨ret_int (by rw [show n = k by omega]), rfl⟩
theorem fdiv_eq (a b : Int) (hb : 1 ≤ b) (h : a.tmod b ≠ 0) (ha : a < 0) : a / b = a.tdiv b - 1 := by
  have h1 := Int.tdiv_eq_ediv (a := a) (b := b)
  have h2 := Int.tmod_eq_emod (a := a) (b := b)
  have h3 := Int.emod_nonneg a (show b ≠ 0 by omega)
  have h4 := Int.emod_lt_of_pos a (show 0 < b by omega)
  have h5 : b.sign = 1 := Int.sign_eq_one_of_pos (by omega)
  rw [h5] at h1
  by_cases hd : b ∣ a
  · exact absurd (Int.tmod_eq_zero_of_dvd hd) h
  · rw [if_neg (by omega)] at h1; omega
theorem fdiv_eq0 (a b : Int) (hb : 1 ≤ b) (h : a.tmod b = 0) : a / b = a.tdiv b := by
  have h1 := Int.tdiv_eq_ediv (a := a) (b := b)
  rw [if_pos (.inr (Int.dvd_of_tmod_eq_zero h))] at h1; omega
theorem ediv_neg_bd (a b : Int) (hb : 1 ≤ b) (h : a < 0) : a ≤ a / b ∧ a / b ≤ 0 := by
  have h1 := Int.mul_ediv_add_emod a b
  have h2 := Int.emod_nonneg a (show b ≠ 0 by omega)
  have h3 := Int.emod_lt_of_pos a (show 0 < b by omega)
  constructor
  · rcases Int.lt_or_le (a / b) a with h4 | h4
    · exfalso
      have h5 : b * (a / b + 1) ≤ 1 * (a / b + 1) := Int.mul_le_mul_of_nonpos_right hb (by omega)
      rw [Int.mul_add] at h5
      omega
    · exact h4
  · rcases Int.lt_or_le 0 (a / b) with h4 | h4
    · exfalso
      have : 0 ≤ b * (a / b) := Int.mul_nonneg (by omega) (by omega)
      omega
    · exact h4
set_option maxHeartbeats 400000 in
theorem down_any (a b : Int) (w : World) (hb : 1 ≤ b) (ha : -9223372036854775808 ≤ a ∧ a ≤ 9223372036854775807) (hb2 : b ≤ 9223372036854775807) :
    Calls Try.prog 26 #[.int .i64 a, .int .i64 b] w fun e w' => e = .returned (.int .i64 (a / b)) ∧ w = w' := by
  have hbn : decide (b < 0) = false := by simp; omega
  by_cases h1 : a < 0
  · have hq := ediv_neg_bd a b hb h1
    have hq2 : -9223372036854775808 ≤ a / b := by omega
    by_cases h0 : a.tmod b = 0
    · have e := fdiv_eq0 a b hb h0
      have HE := Lib.hid e; clear e
      go_enter Try.func26, Try.ntmps26
      go_wp2
      go_ret
      exact ⟨ret_int HE.out.symm, rfl⟩
    · have e := fdiv_eq a b hb h0 h1
      have HE := Lib.hid e; rw [e] at hq hq2; clear e
      have h0' : (a.tmod b != 0) = true := by simpa using h0
      go_enter Try.func26, Try.ntmps26
      go_wp2
      go_ret
      exact ⟨ret_int HE.out.symm, rfl⟩
  · go_enter Try.func26, Try.ntmps26
    go_wp2
    all_goals
      go_ret
      exact ⟨rfl, rfl⟩
set_option maxHeartbeats 400000 in
theorem cut_any (k : Int) (w : World) :
    Calls Try.prog 23 #[.int .i64 k] w fun e w' => e = .returned (.int .u64 (lvTop k)) ∧ w = w' := by
  go_enter Try.func23, Try.ntmps23
  go_wp2
  all_goals
    go_ret
    exact ⟨ret_int (by unfold lvTop; omega), rfl⟩
set_option maxHeartbeats 400000 in
theorem rest_any (k : Nat) (hk : k ≤ 15) (w : World) :
    Calls Try.prog 24 #[.int .u64 k] w fun e w' => e = .returned (.int .i64 (32768 * (2 ^ k - 1))) ∧ w = w' := by
  have hp := p2_15 k hk
  go_enter Try.func24, Try.ntmps24
  go_wp2
  go_ret
  exact ⟨rfl, rfl⟩
theorem lvTop_le (k : Int) : lvTop k ≤ 15 := by unfold lvTop; omega
def lvTo (u k : Int) : Int := (u - 32768 * (2 ^ lvTop k - 1)) / 2 ^ lvTop k
def lvFrom (u k : Int) : Int := u * 2 ^ lvTop k + 32768 * (2 ^ lvTop k - 1)
theorem mul_p2_bd (u : Int) (n : Nat) (hn : n ≤ 15) (h0 : -70368744177664 ≤ u) (h1 : u ≤ 70368744177664) : -2305843009213693952 ≤ u * 2 ^ n ∧ u * 2 ^ n ≤ 2305843009213693952 := by
  have hp := p2_15 n hn
  generalize (2:Int) ^ n = p at *
  constructor
  · have : (-70368744177664) * p ≤ u * p := Int.mul_le_mul_of_nonneg_right h0 (by omega)
    omega
  · have : u * p ≤ 70368744177664 * p := Int.mul_le_mul_of_nonneg_right h1 (by omega)
    omega
set_option maxHeartbeats 400000 in
theorem to_any (u k : Int) (w : World) (h0 : -70368744177664 ≤ u) (h1 : u ≤ 70368744177664) :
    Calls Try.prog 9 #[.int .i64 u, .int .i64 k] w fun e w' => e = .returned (.int .i64 (lvTo u k)) ∧ w = w' := by
  have ht := lvTop_le k
  have hp := p2_15 _ ht
  go_enter Try.func9, Try.ntmps9
  go_wp2_with (first
    | (go_at_call 23; refine (cut_any _ _).mono ?_; rintro e w' ⟨rfl, rfl⟩)
    | (go_at_call 24; refine (rest_any _ ht _).mono ?_; rintro e w' ⟨rfl, rfl⟩))
  go_ret
  exact ⟨ret_int (by unfold lvTo; rfl), rfl⟩
set_option maxHeartbeats 400000 in
theorem from_any (u k : Int) (w : World) (h0 : -70368744177664 ≤ u) (h1 : u ≤ 70368744177664) :
    Calls Try.prog 11 #[.int .i64 u, .int .i64 k] w fun e w' => e = .returned (.int .i64 (lvFrom u k)) ∧ w = w' := by
  have ht := lvTop_le k
  have hp := p2_15 _ ht
  have hm := mul_p2_bd u _ ht h0 h1
  go_enter Try.func11, Try.ntmps11
  go_wp2_with (first
    | (go_at_call 23; refine (cut_any _ _).mono ?_; rintro e w' ⟨rfl, rfl⟩)
    | (go_at_call 24; refine (rest_any _ ht _).mono ?_; rintro e w' ⟨rfl, rfl⟩))
  go_ret
  exact ⟨ret_int (by unfold lvFrom; rfl), rfl⟩
set_option maxHeartbeats 400000 in
theorem rcut_any (k : Int) (w : World) :
    Calls Try.prog 25 #[.int .i64 k] w fun e w' => e = .returned (.int .i64 (lvTop k)) ∧ w = w' := by
  go_enter Try.func25, Try.ntmps25
  go_wp2
  all_goals
    go_ret
    exact ⟨ret_int (by unfold lvTop; omega), rfl⟩
set_option maxHeartbeats 400000 in
theorem rto_any (u k : Int) (w : World) (h0 : -70368744177664 ≤ u) (h1 : u ≤ 70368744177664) :
    Calls Try.prog 10 #[.int .i64 u, .int .i64 k] w fun e w' => e = .returned (.int .i64 (lvTo u k)) ∧ w = w' := by
  have ht := lvTop_le k
  have hp := p2_15 _ ht
  go_enter Try.func10, Try.ntmps10
  go_wp2_with (first
    | (go_at_call 25; refine (rcut_any _ _).mono ?_; rintro e w' ⟨rfl, rfl⟩)
    | (go_at_call 22; refine (pow_any _ (by omega) _).mono ?_; rintro e w' ⟨rfl, rfl⟩)
    | (go_at_call 26; refine (down_any _ _ _ (by omega) (by omega) (by omega)).mono ?_; rintro e w' ⟨rfl, rfl⟩))
  go_ret
  exact ⟨rfl, rfl⟩
set_option maxHeartbeats 400000 in
theorem rfrom_any (u k : Int) (w : World) (h0 : -70368744177664 ≤ u) (h1 : u ≤ 70368744177664) :
    Calls Try.prog 12 #[.int .i64 u, .int .i64 k] w fun e w' => e = .returned (.int .i64 (lvFrom u k)) ∧ w = w' := by
  have ht := lvTop_le k
  have hp := p2_15 _ ht
  have hm := mul_p2_bd u _ ht h0 h1
  go_enter Try.func12, Try.ntmps12
  go_wp2_with (first
    | (go_at_call 25; refine (rcut_any _ _).mono ?_; rintro e w' ⟨rfl, rfl⟩)
    | (go_at_call 22; refine (pow_any _ (by omega) _).mono ?_; rintro e w' ⟨rfl, rfl⟩))
  go_ret
  exact ⟨rfl, rfl⟩
set_option maxHeartbeats 400000 in
theorem rpick_any (a b : Int) (w : World) :
    Calls Try.prog 6 #[.int .i64 a, .int .i64 b] w fun e w' => e = .returned (.int .i64 (lv a (lvTop b))) ∧ w = w' := by
  have hT := lvTop_le b
  go_enter Try.func6, Try.ntmps6
  go_wp2
  go_loop [5, 6] (fun o k => ∃ n : Nat, n ≤ lvTop b ∧ k = .int .i64 (n + 1) ∧ o = .int .i64 (lv a n)) (fun _ k => 16 - (intOf k).toNat)
  case atStart => exact ⟨0, by omega, rfl, rfl⟩
  case round =>
    obtain ⟨n, hn, rfl, rfl⟩ := hrel
    have hT1 : n < lvTop b → n < b := by unfold lvTop; omega
    have hT2 : (n : Int) < b → n < 15 → n < lvTop b := by unfold lvTop; omega
    by_cases hlt : n < lvTop b
    · have hp := p2_15 (n+1) (by omega)
      have hb := hT1 hlt
      clear hT1 hT2
      go_wp2_with (go_at_call 22; refine (pow_any (n+1) (by omega) _).mono ?_; rintro e w' ⟨rfl, rfl⟩)
      all_goals
        go_round
        case rel => exact ⟨n + 1, by omega, by go_num, by rw [lv]; first | rw [if_pos (by assumption)]; go_num | rw [if_neg (by omega)]⟩
        case measure => simp [intOf]; omega
    · have hb : ¬ (n < b ∧ n < 15) := by omega
      clear hT1 hT2
      go_wp2
      all_goals
        go_ret
        exact ⟨ret_int (by rw [show n = lvTop b by omega]), rfl⟩
set_option maxHeartbeats 400000 in
theorem alive32_any (w : World) :
    Calls Try.prog 8 #[] w fun e w' => e = .returned (.bool true) ∧ w = w' := by
  go_enter Try.func8, Try.ntmps8
  have e1 : lv 262144 (lvTop 9) = 2 := by decide
  have e2 : lvTo 32768 1 = 0 := by decide
  go_wp2_with (first
    | (go_at_call 5; refine (pick_any _ _ _).mono ?_; rintro e w' ⟨rfl, rfl⟩)
    | (go_at_call 9; refine (to_any _ _ _ (by omega) (by omega)).mono ?_; rintro e w' ⟨rfl, rfl⟩))
  go_ret
  exact ⟨rfl, rfl⟩
theorem lv_mono (d d' : Int) (h : d ≤ d') (M : Nat) : lv d M ≤ lv d' M := by
  induction M with
  | zero => simp [lv]
  | succ M ih =>
    have hb : ∀ x, lv x (M + 1) ≤ M + 1 := fun x => by
      have : ∀ n, lv x n ≤ n := fun n => by induction n with | zero => simp [lv] | succ n ih => rw [lv]; split <;> omega
      exact this _
    rw [lv, lv]
    have hbd : lv d M ≤ M := by
      have : ∀ n, lv d n ≤ n := fun n => by induction n with | zero => simp [lv] | succ n ih => rw [lv]; split <;> omega
      exact this _
    split <;> split <;> omega
theorem toFrom (u k : Int) : lvTo (lvFrom u k) k = u := by
  unfold lvTo lvFrom
  have hp := p2_15 _ (lvTop_le k)
  generalize (2:Int) ^ lvTop k = p at *
  rw [Int.add_sub_cancel, Int.mul_ediv_cancel _ (by omega)]
theorem In_yes (a b : Int) (w : World) (hb0 : 0 ≤ b) (hb : b ≤ 9223372036854775807) (h : -b ≤ a ∧ a ≤ b) :
    Calls Try.prog 7 #[.int .i64 a, .int .i64 b] w fun e w' => e = .returned (.bool true) ∧ w = w' :=
  (In_any a b w hb0 hb).mono fun e w' ⟨h1, h2⟩ => ⟨by rw [h1]; simp [h], h2⟩
theorem In_no (a b : Int) (w : World) (hb0 : 0 ≤ b) (hb : b ≤ 9223372036854775807) (h : ¬ (-b ≤ a ∧ a ≤ b)) :
    Calls Try.prog 7 #[.int .i64 a, .int .i64 b] w fun e w' => e = .returned (.bool false) ∧ w = w' :=
  (In_any a b w hb0 hb).mono fun e w' ⟨h1, h2⟩ => ⟨by rw [h1]; simp; omega, h2⟩
set_option maxHeartbeats 1000000 in
theorem walk32 (a0 : Int) (a1 : Int) (a2 : Int) (w0 : (Lit.int .i64 a0).wf = true) (w1 : (Lit.int .i64 a1).wf = true) (w2 : (Lit.int .i64 a2).wf = true) (w : World) :
    Calls Try.prog 3 #[.int .i64 a0, .int .i64 a1, .int .i64 a2] w fun e w' => e = .returned (.bool true) ∧ Grown w w' := by
  have hd : (0 < a0 ∧ a0 < 4611686018427387904) ∨ a0 ≤ 0 ∨ 4611686018427387904 ≤ a0 := by omega
  have hin : (-70368744177664 ≤ a1 ∧ a1 ≤ 70368744177664) ∨ ¬ (-70368744177664 ≤ a1 ∧ a1 ≤ 70368744177664) := Decidable.em _
  have hin2 : (-70368744177664 ≤ lvFrom a1 a2 ∧ lvFrom a1 a2 ≤ 70368744177664) ∨ ¬ (-70368744177664 ≤ lvFrom a1 a2 ∧ lvFrom a1 a2 ≤ 70368744177664) := Decidable.em _
  have hle : lv a0 (lvTop a2) ≤ lv (a0 + 1 + a0 / 9) (lvTop a2) ∨ ¬ (0 ≤ a0) := by
    by_cases h : 0 ≤ a0
    · exact .inl (lv_mono _ _ (by omega) _)
    · exact .inr h
  have htf := toFrom a1 a2
  rcases hd with hd | hd | hd <;> rcases hle with hle | hle <;> first | (exfalso; omega) | skip
  all_goals rcases hin with hin | hin <;> first | skip | clear hin2
  all_goals try rcases hin2 with hin2 | hin2
  all_goals
    go_enter Try.func3, Try.ntmps3
    go_wp2_with (first
      | (go_at_call 5; refine (pick_any _ _ _).mono ?_; rintro e w' ⟨rfl, rfl⟩)
      | (go_at_call 6; refine (rpick_any _ _ _).mono ?_; rintro e w' ⟨rfl, rfl⟩)
      | (go_at_call 7; refine (In_yes _ _ _ (by omega) (by omega) (by omega)).mono ?_; rintro e w' ⟨rfl, rfl⟩)
      | (go_at_call 7; refine (In_no _ _ _ (by omega) (by omega) (by omega)).mono ?_; rintro e w' ⟨rfl, rfl⟩)
      | (go_at_call 9; refine (to_any _ _ _ (by omega) (by omega)).mono ?_; rintro e w' ⟨rfl, rfl⟩)
      | (go_at_call 11; refine (from_any _ _ _ (by omega) (by omega)).mono ?_; rintro e w' ⟨rfl, rfl⟩)
      | (go_at_call 10; refine (rto_any _ _ _ (by omega) (by omega)).mono ?_; rintro e w' ⟨rfl, rfl⟩)
      | (go_at_call 12; refine (rfrom_any _ _ _ (by omega) (by omega)).mono ?_; rintro e w' ⟨rfl, rfl⟩)
      | (go_at_call 8; refine (alive32_any _).mono ?_; rintro e w' ⟨rfl, rfl⟩))
    all_goals
      go_ret
      exact ⟨rfl, Grown.refl _⟩
end Go.Proofs.Ytakdcdpgojllpaa
