/- ages: what a nil one answers; Has, Len of an Ages as a whole. -/
import Derived.Test.YtiefhmbffmphdaaAG12
set_option linter.unusedVariables false
namespace Go.Proofs.Ytiefhmbffmphdaa
open Go.RowKit
theorem atouch_nil (k : Int) (w : World) : Calls Try.prog 6 #[.pointer none, .int .i64 k] w fun e w' => e = .returned (.tuple #[]) ∧ w = w' := by
  go_enter Try.func6, Try.ntmps6
  go_wp2_with fail
  first | go_returns | (refine bodyPost_ret (results_none rfl _ _) rfl ?_)
  exact ⟨rfl, rfl⟩
theorem adrop_nil (k : Int) (w : World) : Calls Try.prog 8 #[.pointer none, .int .i64 k] w fun e w' => e = .returned (.bool false) ∧ w = w' := by
  go_enter Try.func8, Try.ntmps8
  go_wp2_with (go_at_call 18; (with_reducible refine (afind_nil _ _).mono ?_); rintro e w1 ⟨rfl, rfl⟩)
  go_returns
  exact ⟨rfl, rfl⟩
theorem apop_nil (w : World) : Calls Try.prog 11 #[.pointer none] w fun e w' => e = .returned (.tuple #[.int .i64 0, .bool false]) ∧ w = w' := by
  go_enter Try.func11, Try.ntmps11
  go_wp2_with (go_at_call 12; (with_reducible refine (aold_nil _).mono ?_); rintro e w1 ⟨rfl, rfl⟩)
  go_returns
  exact ⟨rfl, rfl⟩
theorem aall_nil (w : World) : Calls Try.prog 15 #[.pointer none] w fun e w' => e = .returned (.slice none 0 0) ∧ w = w' := by
  go_enter Try.func15, Try.ntmps15
  go_wp2_with fail
  go_returns
  exact ⟨rfl, rfl⟩
theorem Ag.len {F : Nat → Prop} {w : World} {g : Nat} {now : Int} {m : List Int} (h : Ag F w g now m) : Calls Try.prog 14 #[.pointer (some ⟨g, 0, none⟩)] w fun e w' => e = .returned (.int .i64 (m.length : Nat)) ∧ w = w' := by
  obtain ⟨A, n, c, cnt, mv, a, K, W, s, M, Fh, hH, hp, hS, rfl, _, hM, _⟩ := h.ex
  have e : (s.map K).length = n := by rw [List.length_map]; exact hS.len
  rw [e]
  exact alen_any hH.hg
theorem Ag.has {F : Nat → Prop} {w : World} {g : Nat} {now : Int} {m : List Int} (h : Ag F w g now m) {k : Int} (hk : -9223372036854775808 ≤ k ∧ k ≤ 9223372036854775807) : Calls Try.prog 13 #[.pointer (some ⟨g, 0, none⟩), .int .i64 k] w fun e w' => e = .returned (.bool (decide (k ∈ m))) ∧ w = w' := by
  obtain ⟨A, n, c, cnt, mv, a, K, W, s, M, Fh, hH, hp, hS, rfl, _, hM, _, hMk, _⟩ := h.ex
  have h1 := ahas_any hH.hg k (M k) (hM.look hk)
  have e : (M k).isSome = decide (k ∈ s.map K) := by
    cases hq : M k with
    | none =>
      refine (decide_eq_false ?_).symm
      intro hm
      obtain ⟨b, hb, hkb⟩ := List.mem_map.1 hm
      have := (hMk k b).2 ⟨hb, hkb⟩
      rw [hq] at this; cases this
    | some b =>
      obtain ⟨hb, hkb⟩ := (hMk k b).1 hq
      exact (decide_eq_true (List.mem_map.2 ⟨b, hb, hkb⟩)).symm
  rw [e] at h1
  exact h1
theorem Ag.old {F : Nat → Prop} {w : World} {g : Nat} {now : Int} {m : List Int} (h : Ag F w g now m) : Calls Try.prog 12 #[.pointer (some ⟨g, 0, none⟩)] w fun e w' => e = .returned (.tuple #[.int .i64 (m.headD 0), .bool (decide (m ≠ []))]) ∧ w = w' := by
  obtain ⟨A, n, c, cnt, mv, a, K, W, s, M, Fh, hH, hp, hS, rfl, _, hM, _⟩ := h.ex
  rcases Nat.eq_zero_or_pos n with rfl | hn
  · obtain rfl : s = [] := List.eq_nil_of_length_eq_zero hS.len
    exact aold_none hH.hg
  · obtain ⟨r, rfl⟩ := ag_old hS hp hn
    exact aold_some hH hn
end Go.Proofs.Ytiefhmbffmphdaa
