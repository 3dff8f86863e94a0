/- Kernels: their table, names and reaches. -/
import Derived.Test.YtfokmhjcnenpnaaRowG
set_option linter.unusedVariables false
namespace Go.Proofs.Ytfokmhjcnenpnaa
open Go.RowKit
def sNear : ByteArray := ⟨#[110, 101, 97, 114]⟩
def sLinear : ByteArray := ⟨#[108, 105, 110, 101, 97, 114]⟩
def sCubic : ByteArray := ⟨#[99, 117, 98, 105, 99]⟩
def sSuper : ByteArray := ⟨#[115, 117, 112, 101, 114]⟩
abbrev kerA : Array Value := #[.string sNear, .func (.func 36) #[] #[], .func (.func 8) #[] #[],
  .string sLinear, .func (.func 37) #[] #[], .func (.func 9) #[] #[],
  .string sCubic, .func (.func 38) #[] #[], .func (.func 10) #[] #[],
  .string sSuper, .func (.func 37) #[] #[], .func (.func 9) #[] #[]]
theorem ker_size : (Try.prog.info? 63).map (·.size) = some 12 := by kernel_rfl
theorem kernels_any (w : World) : Calls Try.prog 22 #[] w fun e w' => e = .returned (.agg kerA) ∧ Below w.heap.size w w' := by
  have hbz := (Below.refl w.heap.size w).alloc (Nat.le_refl _) (.cells #[.string ⟨#[]⟩, .nilFunc, .nilFunc, .string ⟨#[]⟩, .nilFunc, .nilFunc, .string ⟨#[]⟩, .nilFunc, .nilFunc, .string ⟨#[]⟩, .nilFunc, .nilFunc] 63)
  have hK := Bk.new w 63 #[.string ⟨#[]⟩, .nilFunc, .nilFunc, .string ⟨#[]⟩, .nilFunc, .nilFunc, .string ⟨#[]⟩, .nilFunc, .nilFunc, .string ⟨#[]⟩, .nilFunc, .nilFunc]
  go_enter Try.func22, Try.ntmps22
  go_wp2_with (refine stB (ty := 63) (cells := kerA) rfl _ _ rfl hK rfl rfl ker_size rfl (by simp [Value.oneCell']) ?_; intro w' hK' hg' _)
  refine bodyPost_ret (res_cell rfl hK' rfl Try.underlying63 rfl ker_size) rfl ?_
  exact ⟨rfl, below_of_gb hbz hg' (Nat.le_refl _) hbz.size⟩
theorem is_any (k : Int) (w : World) : Calls Try.prog 25 #[.int .i64 k] w fun e w' => e = .returned (.bool (decide (0 ≤ k ∧ k ≤ 3))) ∧ w = w' := by
  by_cases h : 0 ≤ k
  all_goals
    go_enter Try.func25, Try.ntmps25
    go_wp2
    go_returns
    exact ⟨ret_bool (by simp <;> omega), rfl⟩
theorem shr16' (x : Int) (s : Nat) (hs : s = 16) : x >>> s = x / 65536 := by
  subst hs; rw [Int.shiftRight_eq_div_pow]; rfl
def inF (u : Int) : Bool := decide (-70368744177664 ≤ u ∧ u ≤ 70368744177664)
theorem inF_eq (u : Int) : inF u = (decide (-70368744177664 ≤ u) && decide (u ≤ 70368744177664)) := by unfold inF; simp
theorem inF_iff {u : Int} : inF u = true ↔ (-70368744177664 ≤ u ∧ u ≤ 70368744177664) := by unfold inF; exact decide_eq_true_iff
def reachR (a b h lo hi : Int) : Int × Int := if lo ≤ hi ∧ inF lo = true ∧ inF hi = true then ((lo + h) / 65536 + a, (hi + h) / 65536 + b) else (0, 0)
theorem near_in (u : Int) (w : World) : Calls Try.prog 26 #[.int .i64 u] w fun e w' => e = .returned (.bool (inF u)) ∧ w = w' := by
  by_cases h1 : -70368744177664 ≤ u
  all_goals
    go_enter Try.func26, Try.ntmps26
    go_wp2
    go_ret
    exact ⟨ret_bool (by rw [inF_eq]; simp <;> omega), rfl⟩
theorem linear_in (u : Int) (w : World) : Calls Try.prog 28 #[.int .i64 u] w fun e w' => e = .returned (.bool (inF u)) ∧ w = w' := by
  by_cases h1 : -70368744177664 ≤ u
  all_goals
    go_enter Try.func28, Try.ntmps28
    go_wp2
    go_ret
    exact ⟨ret_bool (by rw [inF_eq]; simp <;> omega), rfl⟩
theorem cubic_in (u : Int) (w : World) : Calls Try.prog 30 #[.int .i64 u] w fun e w' => e = .returned (.bool (inF u)) ∧ w = w' := by
  by_cases h1 : -70368744177664 ≤ u
  all_goals
    go_enter Try.func30, Try.ntmps30
    go_wp2
    go_ret
    exact ⟨ret_bool (by rw [inF_eq]; simp <;> omega), rfl⟩
theorem near_index (u : Int) (w : World) (h1 : -70368744177664 ≤ u) (h2 : u ≤ 70368744177664) : Calls Try.prog 27 #[.int .i64 u] w fun e w' => e = .returned (.int .i64 ((u + 32768) / 65536)) ∧ w = w' := by
  go_enter Try.func27, Try.ntmps27
  go_wp2
  go_ret
  exact ⟨ret_int (by first | rfl | (simp [shr16'])), rfl⟩
theorem split_any (u : Int) (w : World) : Calls Try.prog 29 #[.int .i64 u] w fun e w' => (∃ r, e = .returned (.tuple #[.int .i64 (u / 65536), .int .i64 r])) ∧ w = w' := by
  go_enter Try.func29, Try.ntmps29
  go_wp2
  go_returns
  exact ⟨⟨_, by first | rfl | (rw [shr16' _ _ rfl])⟩, rfl⟩
set_option maxHeartbeats 1000000 in
theorem near_reach (lo hi : Int) (w : World) : Calls Try.prog 8 #[.int .i64 lo, .int .i64 hi] w fun e w' => e = .returned (.tuple #[.int .i64 (reachR 0 0 32768 lo hi).1, .int .i64 (reachR 0 0 32768 lo hi).2]) ∧ w = w' := by
  by_cases h0 : lo ≤ hi
  · cases h1 : inF lo
    · have HR : Hid (reachR 0 0 32768 lo hi = (0, 0)) := by show _ = _; unfold reachR; rw [if_neg (by rw [h1]; simp)]
      go_enter Try.func8, Try.ntmps8
      go_wp2_with (go_at_call 26; (with_reducible refine (near_in _ _).mono ?_); rintro e w' ⟨rfl, rfl⟩)
      go_returns
      exact ⟨by rw [HR.out]; rfl, rfl⟩
    · cases h2 : inF hi
      · have HR : Hid (reachR 0 0 32768 lo hi = (0, 0)) := by show _ = _; unfold reachR; rw [if_neg (by rw [h2]; simp)]
        go_enter Try.func8, Try.ntmps8
        go_wp2_with (go_at_call 26; (with_reducible refine (near_in _ _).mono ?_); rintro e w' ⟨rfl, rfl⟩)
        go_returns
        exact ⟨by rw [HR.out]; rfl, rfl⟩
      · have HR : Hid (reachR 0 0 32768 lo hi = ((lo + 32768) / 65536 + 0, (hi + 32768) / 65536 + 0)) := by show _ = _; unfold reachR; rw [if_pos ⟨h0, h1, h2⟩]
        have k1 := inF_iff.1 h1
        have k2 := inF_iff.1 h2
        obtain ⟨k1, k1'⟩ := k1
        obtain ⟨k2, k2'⟩ := k2
        have m1 : -1073741824 ≤ lo / 65536 := by omega
        have m2 : lo / 65536 ≤ 1073741824 := by omega
        have m3 : -1073741824 ≤ hi / 65536 := by omega
        have m4 : hi / 65536 ≤ 1073741824 := by omega
        go_enter Try.func8, Try.ntmps8
        go_wp2_with (first
          | (go_at_call 26; (with_reducible refine (near_in _ _).mono ?_); rintro e w' ⟨rfl, rfl⟩)
          | (go_at_call 27; (with_reducible refine (near_index _ _ (by omega) (by omega)).mono ?_); rintro e w' ⟨rfl, rfl⟩))
        go_returns
        exact ⟨by rw [HR.out]; first | rfl | (refine ret_t2 ?_ ?_ <;> (simp <;> omega)), rfl⟩
  · have HR : Hid (reachR 0 0 32768 lo hi = (0, 0)) := by show _ = _; unfold reachR; rw [if_neg (fun h => h0 h.1)]
    go_enter Try.func8, Try.ntmps8
    go_wp2_with (go_at_call 26; (with_reducible refine (near_in _ _).mono ?_); rintro e w' ⟨rfl, rfl⟩)
    go_returns
    exact ⟨by rw [HR.out]; rfl, rfl⟩
set_option maxHeartbeats 1000000 in
theorem linear_reach (lo hi : Int) (w : World) : Calls Try.prog 9 #[.int .i64 lo, .int .i64 hi] w fun e w' => e = .returned (.tuple #[.int .i64 (reachR 0 1 0 lo hi).1, .int .i64 (reachR 0 1 0 lo hi).2]) ∧ w = w' := by
  by_cases h0 : lo ≤ hi
  · cases h1 : inF lo
    · have HR : Hid (reachR 0 1 0 lo hi = (0, 0)) := by show _ = _; unfold reachR; rw [if_neg (by rw [h1]; simp)]
      go_enter Try.func9, Try.ntmps9
      go_wp2_with (go_at_call 28; (with_reducible refine (linear_in _ _).mono ?_); rintro e w' ⟨rfl, rfl⟩)
      go_returns
      exact ⟨by rw [HR.out]; rfl, rfl⟩
    · cases h2 : inF hi
      · have HR : Hid (reachR 0 1 0 lo hi = (0, 0)) := by show _ = _; unfold reachR; rw [if_neg (by rw [h2]; simp)]
        go_enter Try.func9, Try.ntmps9
        go_wp2_with (go_at_call 28; (with_reducible refine (linear_in _ _).mono ?_); rintro e w' ⟨rfl, rfl⟩)
        go_returns
        exact ⟨by rw [HR.out]; rfl, rfl⟩
      · have HR : Hid (reachR 0 1 0 lo hi = ((lo + 0) / 65536 + 0, (hi + 0) / 65536 + 1)) := by show _ = _; unfold reachR; rw [if_pos ⟨h0, h1, h2⟩]
        have k1 := inF_iff.1 h1
        have k2 := inF_iff.1 h2
        obtain ⟨k1, k1'⟩ := k1
        obtain ⟨k2, k2'⟩ := k2
        have m1 : -1073741824 ≤ lo / 65536 := by omega
        have m2 : lo / 65536 ≤ 1073741824 := by omega
        have m3 : -1073741824 ≤ hi / 65536 := by omega
        have m4 : hi / 65536 ≤ 1073741824 := by omega
        go_enter Try.func9, Try.ntmps9
        go_wp2_with (first
          | (go_at_call 28; (with_reducible refine (linear_in _ _).mono ?_); rintro e w' ⟨rfl, rfl⟩)
          | (go_at_call 29; (with_reducible refine (split_any _ _).mono ?_); rintro e w' ⟨⟨r, rfl⟩, rfl⟩))
        go_returns
        exact ⟨by rw [HR.out]; first | rfl | (refine ret_t2 ?_ ?_ <;> (simp <;> omega)), rfl⟩
  · have HR : Hid (reachR 0 1 0 lo hi = (0, 0)) := by show _ = _; unfold reachR; rw [if_neg (fun h => h0 h.1)]
    go_enter Try.func9, Try.ntmps9
    go_wp2_with (go_at_call 28; (with_reducible refine (linear_in _ _).mono ?_); rintro e w' ⟨rfl, rfl⟩)
    go_returns
    exact ⟨by rw [HR.out]; rfl, rfl⟩
set_option maxHeartbeats 1000000 in
theorem cubic_reach (lo hi : Int) (w : World) : Calls Try.prog 10 #[.int .i64 lo, .int .i64 hi] w fun e w' => e = .returned (.tuple #[.int .i64 (reachR (-1) 2 0 lo hi).1, .int .i64 (reachR (-1) 2 0 lo hi).2]) ∧ w = w' := by
  by_cases h0 : lo ≤ hi
  · cases h1 : inF lo
    · have HR : Hid (reachR (-1) 2 0 lo hi = (0, 0)) := by show _ = _; unfold reachR; rw [if_neg (by rw [h1]; simp)]
      go_enter Try.func10, Try.ntmps10
      go_wp2_with (go_at_call 30; (with_reducible refine (cubic_in _ _).mono ?_); rintro e w' ⟨rfl, rfl⟩)
      go_returns
      exact ⟨by rw [HR.out]; rfl, rfl⟩
    · cases h2 : inF hi
      · have HR : Hid (reachR (-1) 2 0 lo hi = (0, 0)) := by show _ = _; unfold reachR; rw [if_neg (by rw [h2]; simp)]
        go_enter Try.func10, Try.ntmps10
        go_wp2_with (go_at_call 30; (with_reducible refine (cubic_in _ _).mono ?_); rintro e w' ⟨rfl, rfl⟩)
        go_returns
        exact ⟨by rw [HR.out]; rfl, rfl⟩
      · have HR : Hid (reachR (-1) 2 0 lo hi = ((lo + 0) / 65536 + (-1), (hi + 0) / 65536 + 2)) := by show _ = _; unfold reachR; rw [if_pos ⟨h0, h1, h2⟩]
        have k1 := inF_iff.1 h1
        have k2 := inF_iff.1 h2
        obtain ⟨k1, k1'⟩ := k1
        obtain ⟨k2, k2'⟩ := k2
        have m1 : -1073741824 ≤ lo / 65536 := by omega
        have m2 : lo / 65536 ≤ 1073741824 := by omega
        have m3 : -1073741824 ≤ hi / 65536 := by omega
        have m4 : hi / 65536 ≤ 1073741824 := by omega
        go_enter Try.func10, Try.ntmps10
        go_wp2_with (first
          | (go_at_call 30; (with_reducible refine (cubic_in _ _).mono ?_); rintro e w' ⟨rfl, rfl⟩)
          | (go_at_call 29; (with_reducible refine (split_any _ _).mono ?_); rintro e w' ⟨⟨r, rfl⟩, rfl⟩))
        go_returns
        exact ⟨by rw [HR.out]; first | rfl | (refine ret_t2 ?_ ?_ <;> (simp <;> omega)), rfl⟩
  · have HR : Hid (reachR (-1) 2 0 lo hi = (0, 0)) := by show _ = _; unfold reachR; rw [if_neg (fun h => h0 h.1)]
    go_enter Try.func10, Try.ntmps10
    go_wp2_with (go_at_call 30; (with_reducible refine (cubic_in _ _).mono ?_); rintro e w' ⟨rfl, rfl⟩)
    go_returns
    exact ⟨by rw [HR.out]; rfl, rfl⟩
theorem ker_ix0 (w : World) : (Instr.index 63 (.agg kerA) (.int .i64 0)).run Try.prog w = .ok (.agg #[.string sNear, .func (.func 36) #[] #[], .func (.func 8) #[] #[]]) w := by kernel_rfl
theorem ker_ix1 (w : World) : (Instr.index 63 (.agg kerA) (.int .i64 1)).run Try.prog w = .ok (.agg #[.string sLinear, .func (.func 37) #[] #[], .func (.func 9) #[] #[]]) w := by kernel_rfl
theorem ker_ix2 (w : World) : (Instr.index 63 (.agg kerA) (.int .i64 2)).run Try.prog w = .ok (.agg #[.string sCubic, .func (.func 38) #[] #[], .func (.func 10) #[] #[]]) w := by kernel_rfl
theorem ker_ix3 (w : World) : (Instr.index 63 (.agg kerA) (.int .i64 3)).run Try.prog w = .ok (.agg #[.string sSuper, .func (.func 37) #[] #[], .func (.func 9) #[] #[]]) w := by kernel_rfl
theorem ker_f0 (a b c : Value) (w : World) : (Instr.field 62 (.agg #[a, b, c]) 0).run Try.prog w = .ok a w := by kernel_rfl
theorem ker_f2 (a b c : Value) (w : World) : (Instr.field 62 (.agg #[a, b, c]) 2).run Try.prog w = .ok c w := by kernel_rfl
def nameR (k : Int) : ByteArray := if k = 0 then sNear else if k = 1 then sLinear else if k = 2 then sCubic else if k = 3 then sSuper else ⟨#[]⟩
set_option maxHeartbeats 1000000 in
theorem name_any (k : Int) (w : World) : Calls Try.prog 11 #[.int .i64 k] w fun e w' => e = .returned (.string (nameR k)) ∧ Below w.heap.size w w' := by
  by_cases h : 0 ≤ k ∧ k ≤ 3
  · have hd : decide (0 ≤ k ∧ k ≤ 3) = true := decide_eq_true h
    have h4 : k = 0 ∨ k = 1 ∨ k = 2 ∨ k = 3 := by omega
    clear h
    rcases h4 with rfl | rfl | rfl | rfl
    · have hi := ker_ix0
      have hf := ker_f0
      go_enter Try.func11, Try.ntmps11
      go_wp2_with (first
        | (go_at_call 25; (with_reducible refine (is_any _ _).mono ?_); rintro e w' ⟨rfl, rfl⟩; rw [hd])
        | (go_at_call 22; (with_reducible refine (kernels_any _).mono ?_); rintro e w1 ⟨rfl, hb1⟩))
      go_returns
      exact ⟨rfl, hb1⟩
    · have hi := ker_ix1
      have hf := ker_f0
      go_enter Try.func11, Try.ntmps11
      go_wp2_with (first
        | (go_at_call 25; (with_reducible refine (is_any _ _).mono ?_); rintro e w' ⟨rfl, rfl⟩; rw [hd])
        | (go_at_call 22; (with_reducible refine (kernels_any _).mono ?_); rintro e w1 ⟨rfl, hb1⟩))
      go_returns
      exact ⟨rfl, hb1⟩
    · have hi := ker_ix2
      have hf := ker_f0
      go_enter Try.func11, Try.ntmps11
      go_wp2_with (first
        | (go_at_call 25; (with_reducible refine (is_any _ _).mono ?_); rintro e w' ⟨rfl, rfl⟩; rw [hd])
        | (go_at_call 22; (with_reducible refine (kernels_any _).mono ?_); rintro e w1 ⟨rfl, hb1⟩))
      go_returns
      exact ⟨rfl, hb1⟩
    · have hi := ker_ix3
      have hf := ker_f0
      go_enter Try.func11, Try.ntmps11
      go_wp2_with (first
        | (go_at_call 25; (with_reducible refine (is_any _ _).mono ?_); rintro e w' ⟨rfl, rfl⟩; rw [hd])
        | (go_at_call 22; (with_reducible refine (kernels_any _).mono ?_); rintro e w1 ⟨rfl, hb1⟩))
      go_returns
      exact ⟨rfl, hb1⟩
  · have hd : decide (0 ≤ k ∧ k ≤ 3) = false := decide_eq_false h
    have HN : Hid (nameR k = ⟨#[]⟩) := by show _ = _; unfold nameR; rw [if_neg (by omega), if_neg (by omega), if_neg (by omega), if_neg (by omega)]
    clear h
    go_enter Try.func11, Try.ntmps11
    go_wp2_with (go_at_call 25; (with_reducible refine (is_any _ _).mono ?_); rintro e w' ⟨rfl, rfl⟩; rw [hd])
    go_returns
    exact ⟨by rw [HN.out]; rfl, Below.refl _ _⟩
set_option maxHeartbeats 1000000 in
theorem rname_any (k : Int) (w : World) : Calls Try.prog 6 #[.int .i64 k] w fun e w' => e = .returned (.string (nameR k)) ∧ Below w.heap.size w w' := by
  by_cases h0 : 0 ≤ k
  · by_cases h1 : k ≤ 3
    · have h4 : k = 0 ∨ k = 1 ∨ k = 2 ∨ k = 3 := by omega
      clear h0 h1
      rcases h4 with rfl | rfl | rfl | rfl
      all_goals
        go_enter Try.func6, Try.ntmps6
        go_wp2
        go_returns
        exact ⟨rfl, by go_grown⟩
    · have HN : Hid (nameR k = ⟨#[]⟩) := by show _ = _; unfold nameR; rw [if_neg (by omega), if_neg (by omega), if_neg (by omega), if_neg (by omega)]
      go_enter Try.func6, Try.ntmps6
      go_wp2
      go_returns
      exact ⟨by rw [HN.out]; rfl, by go_grown⟩
  · have HN : Hid (nameR k = ⟨#[]⟩) := by show _ = _; unfold nameR; rw [if_neg (by omega), if_neg (by omega), if_neg (by omega), if_neg (by omega)]
    go_enter Try.func6, Try.ntmps6
    go_wp2
    go_returns
    exact ⟨by rw [HN.out]; rfl, by go_grown⟩
def sreachR (k lo hi : Int) : Int × Int := if k = 0 then reachR 0 0 32768 lo hi else if k = 1 then reachR 0 1 0 lo hi else if k = 2 then reachR (-1) 2 0 lo hi else if k = 3 then reachR 0 1 0 lo hi else (0, 0)
set_option maxHeartbeats 1000000 in
theorem sreach_any (k lo hi : Int) (w : World) : Calls Try.prog 7 #[.int .i64 k, .int .i64 lo, .int .i64 hi] w fun e w' => e = .returned (.tuple #[.int .i64 (sreachR k lo hi).1, .int .i64 (sreachR k lo hi).2]) ∧ Below w.heap.size w w' := by
  by_cases h : 0 ≤ k ∧ k ≤ 3
  · have hd : decide (0 ≤ k ∧ k ≤ 3) = true := decide_eq_true h
    have h4 : k = 0 ∨ k = 1 ∨ k = 2 ∨ k = 3 := by omega
    clear h
    rcases h4 with rfl | rfl | rfl | rfl
    · have hi' := ker_ix0
      have hf := ker_f2
      go_enter Try.func7, Try.ntmps7
      go_wp2_with (first
        | (go_at_call 25; (with_reducible refine (is_any _ _).mono ?_); rintro e w' ⟨rfl, rfl⟩; rw [hd])
        | (go_at_call 22; (with_reducible refine (kernels_any _).mono ?_); rintro e w1 ⟨rfl, hb1⟩)
        | ((with_reducible refine (near_reach _ _ _).mono ?_); rintro e w' ⟨rfl, rfl⟩))
      go_returns
      exact ⟨rfl, hb1⟩
    · have hi' := ker_ix1
      have hf := ker_f2
      go_enter Try.func7, Try.ntmps7
      go_wp2_with (first
        | (go_at_call 25; (with_reducible refine (is_any _ _).mono ?_); rintro e w' ⟨rfl, rfl⟩; rw [hd])
        | (go_at_call 22; (with_reducible refine (kernels_any _).mono ?_); rintro e w1 ⟨rfl, hb1⟩)
        | ((with_reducible refine (linear_reach _ _ _).mono ?_); rintro e w' ⟨rfl, rfl⟩))
      go_returns
      exact ⟨rfl, hb1⟩
    · have hi' := ker_ix2
      have hf := ker_f2
      go_enter Try.func7, Try.ntmps7
      go_wp2_with (first
        | (go_at_call 25; (with_reducible refine (is_any _ _).mono ?_); rintro e w' ⟨rfl, rfl⟩; rw [hd])
        | (go_at_call 22; (with_reducible refine (kernels_any _).mono ?_); rintro e w1 ⟨rfl, hb1⟩)
        | ((with_reducible refine (cubic_reach _ _ _).mono ?_); rintro e w' ⟨rfl, rfl⟩))
      go_returns
      exact ⟨rfl, hb1⟩
    · have hi' := ker_ix3
      have hf := ker_f2
      go_enter Try.func7, Try.ntmps7
      go_wp2_with (first
        | (go_at_call 25; (with_reducible refine (is_any _ _).mono ?_); rintro e w' ⟨rfl, rfl⟩; rw [hd])
        | (go_at_call 22; (with_reducible refine (kernels_any _).mono ?_); rintro e w1 ⟨rfl, hb1⟩)
        | ((with_reducible refine (linear_reach _ _ _).mono ?_); rintro e w' ⟨rfl, rfl⟩))
      go_returns
      exact ⟨rfl, hb1⟩
  · have hd : decide (0 ≤ k ∧ k ≤ 3) = false := decide_eq_false h
    have HN : Hid (sreachR k lo hi = (0, 0)) := by show _ = _; unfold sreachR; rw [if_neg (by omega), if_neg (by omega), if_neg (by omega), if_neg (by omega)]
    clear h
    go_enter Try.func7, Try.ntmps7
    go_wp2_with (go_at_call 25; (with_reducible refine (is_any _ _).mono ?_); rintro e w' ⟨rfl, rfl⟩; rw [hd])
    go_returns
    exact ⟨by rw [HN.out]; rfl, Below.refl _ _⟩
end Go.Proofs.Ytfokmhjcnenpnaa
