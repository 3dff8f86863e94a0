/- What the laws of chapter 19 have in common. -/
import Derived.Test.YtlbiiljncacdoaaGreatHm7
import Derived.Test.YtlbiiljncacdoaaGreatOpen
set_option linter.unusedVariables false
namespace Go.Proofs.YtlbiiljncacdoaaGreat
open Go.RowKit
theorem Bk.rdl {w : World} {g : Nat} {t : TypeId} {l : List Value} (h : Bk w g t l.toArray) : Rd w w.heap.size (some ⟨g, 0, none⟩) l := fun k hk => by
  refine ⟨g, 0, rfl, h.lt, ?_⟩
  rw [Nat.zero_add, h.cell]
  simp [hk]
theorem rin_any (a b : Int) (w : World) (hb0 : 0 ≤ b) (hb : b ≤ 9223372036854775807) :
    Calls Tryz.prog 31 #[.int .i64 a, .int .i64 b] w fun e w' => e = .returned (.bool (inH a b)) ∧ w = w' := by
  rw [inH_eq]
  by_cases h1 : -b ≤ a
  all_goals
    go_enter Tryz.func31, Tryz.ntmps31
    go_wp2
    go_ret
    exact ⟨ret_bool (by simp [h1] <;> omega), rfl⟩
theorem rright_h (x y d : Int) (w : World) : Calls Tryz.prog 23 #[.int .i64 x, .int .i64 y, .int .i64 d] w fun e w' => e = .returned (.bool (rightH x y d)) ∧ w = w' := by
  have e0 : rightH x y d = (inH x 1048576 && (inH y 1048576 && (decide (1 ≤ d) && decide (d ≤ 16)))) := by
    unfold rightH inH
    rw [Bool.eq_iff_iff]; simp only [decide_eq_true_iff, Bool.and_eq_true]
  have E0 := Lib.hid e0
  clear e0
  cases h1 : inH x 1048576
  · go_enter Tryz.func23, Tryz.ntmps23
    go_wp2_with (go_at_call 31; (with_reducible refine (rin_any _ _ _ (by decide) (by decide)).mono ?_); rintro e w' ⟨rfl, rfl⟩)
    go_ret
    exact ⟨ret_bool (by rw [E0.out, h1]; rfl), rfl⟩
  · cases h2 : inH y 1048576
    · go_enter Tryz.func23, Tryz.ntmps23
      go_wp2_with (go_at_call 31; (with_reducible refine (rin_any _ _ _ (by decide) (by decide)).mono ?_); rintro e w' ⟨rfl, rfl⟩)
      go_ret
      exact ⟨ret_bool (by rw [E0.out, h1, h2]; rfl), rfl⟩
    · by_cases h3 : 1 ≤ d
      all_goals
        go_enter Tryz.func23, Tryz.ntmps23
        go_wp2_with (go_at_call 31; (with_reducible refine (rin_any _ _ _ (by decide) (by decide)).mono ?_); rintro e w' ⟨rfl, rfl⟩)
        go_ret
        exact ⟨ret_bool (by rw [E0.out, h1, h2]; simp [h3] <;> omega), rfl⟩
theorem ca_i64 : Tryz.prog.cellsOf 2 = 1 := by kernel_rfl
theorem ca_int : Tryz.prog.cellsOf 3 = 1 := by kernel_rfl
theorem ca_2 : Tryz.prog.cellsOf 22 = 2 := by kernel_rfl
theorem ca_place : Tryz.prog.cellsOf 24 = 3 := by kernel_rfl
theorem open_size {w : World} {cs : Array Value} (h : Rv Tryz.prog w 22 cs.toList) : ∃ a b : Int, cs = #[.int .i64 a, .int .i64 b] ∧ (-9223372036854775808 ≤ a ∧ a ≤ 9223372036854775807) ∧ (-9223372036854775808 ≤ b ∧ b ≤ 9223372036854775807) := by
  obtain ⟨hl, hel⟩ := rv_array Tryz.underlying22 h
  rw [ca_int] at hel
  rw [ca_2] at hl
  obtain ⟨l2⟩ := cs
  match l2, hl with
  | [v0, v1], _ =>
    obtain ⟨a, e4, i4⟩ := rv_int Tryz.underlying3 (hel 0 (by omega))
    obtain ⟨b, e5, i5⟩ := rv_int Tryz.underlying3 (hel 1 (by omega))
    simp at e4 e5
    subst e4 e5
    exact ⟨a, b, rfl, wf_i64 i4, wf_i64 i5⟩
set_option maxRecDepth 100000 in
theorem open_place {w : World} {cs : List Value} (h : Rv Tryz.prog w 24 cs) : ∃ a b c : Int, cs = [.int .i64 a, .int .i64 b, .int .i64 c] ∧ (-9223372036854775808 ≤ a ∧ a ≤ 9223372036854775807) ∧ (-9223372036854775808 ≤ b ∧ b ≤ 9223372036854775807) ∧ (-9223372036854775808 ≤ c ∧ c ≤ 9223372036854775807) := by
  obtain ⟨hl, hf⟩ := rv_struct Tryz.underlying24 h
  rw [ca_place] at hl
  match cs, hl with
  | [v0, v1, v2], _ =>
    have g0 : Rv Tryz.prog w 2 (([v0, v1, v2].drop 0).take (Tryz.prog.cellsOf 2)) := hf 0 _ rfl
    have g1 : Rv Tryz.prog w 2 (([v0, v1, v2].drop 1).take (Tryz.prog.cellsOf 2)) := hf 1 _ rfl
    have g2 : Rv Tryz.prog w 2 (([v0, v1, v2].drop 2).take (Tryz.prog.cellsOf 2)) := hf 2 _ rfl
    rw [ca_i64] at g0 g1 g2
    obtain ⟨a, e0, i0⟩ := rv_int Tryz.underlying2 g0
    obtain ⟨b, e1, i1⟩ := rv_int Tryz.underlying2 g1
    obtain ⟨c, e2, i2⟩ := rv_int Tryz.underlying2 g2
    simp at e0 e1 e2
    subst e0 e1 e2
    exact ⟨a, b, c, rfl, wf_i64 i0, wf_i64 i1, wf_i64 i2⟩
theorem open_nums {w : World} {A : Option Addr} {n c : Nat} (h : Rv Tryz.prog w 29 [.slice A n c]) : ∃ l : List Int, l.length = n ∧ n ≤ c ∧ c ≤ maxLen ∧ (∀ z ∈ l, -9223372036854775808 ≤ z ∧ z ≤ 9223372036854775807) ∧ Rd w w.heap.size A (l.map (Value.int .i64)) := by
  obtain ⟨A', n', c', l, e, h1, h2, h3, h4, h5⟩ := rv_ints Tryz.underlying29 Tryz.underlying2 ca_i64 h
  simp at e
  obtain ⟨rfl, rfl, rfl⟩ := e
  exact ⟨l, h3, h1, h2, fun z hz => wf_i64 (h4 z hz), h5⟩
end Go.Proofs.YtlbiiljncacdoaaGreat
