/- What the laws of chapter 19 have in common. -/
import Derived.Test.YtebcienjeponmaaHm7
import Derived.Test.YtebcienjeponmaaOpen
set_option linter.unusedVariables false
namespace Go.Proofs.Ytebcienjeponmaa
open Go.RowKit
theorem Bk.rdl {w : World} {g : Nat} {t : TypeId} {l : List Value} (h : Bk w g t l.toArray) : Rd w w.heap.size (some ⟨g, 0, none⟩) l := fun k hk => by
  refine ⟨g, 0, rfl, h.lt, ?_⟩
  rw [Nat.zero_add, h.cell]
  simp [hk]
theorem rin_any (a b : Int) (w : World) (hb0 : 0 ≤ b) (hb : b ≤ 9223372036854775807) :
    Calls Try.prog 26 #[.int .i64 a, .int .i64 b] w fun e w' => e = .returned (.bool (inH a b)) ∧ w = w' := by
  rw [inH_eq]
  by_cases h1 : -b ≤ a
  all_goals
    go_enter Try.func26, Try.ntmps26
    go_wp2
    go_ret
    exact ⟨ret_bool (by simp [h1] <;> omega), rfl⟩
theorem rright_h (x y d : Int) (w : World) : Calls Try.prog 18 #[.int .i64 x, .int .i64 y, .int .i64 d] w fun e w' => e = .returned (.bool (rightH x y d)) ∧ w = w' := by
  have e0 : rightH x y d = (inH x 1048576 && (inH y 1048576 && (decide (1 ≤ d) && decide (d ≤ 16)))) := by
    unfold rightH inH
    rw [Bool.eq_iff_iff]; simp only [decide_eq_true_iff, Bool.and_eq_true]
  have E0 := Lib.hid e0
  clear e0
  cases h1 : inH x 1048576
  · go_enter Try.func18, Try.ntmps18
    go_wp2_with (go_at_call 26; (with_reducible refine (rin_any _ _ _ (by decide) (by decide)).mono ?_); rintro e w' ⟨rfl, rfl⟩)
    go_ret
    exact ⟨ret_bool (by rw [E0.out, h1]; rfl), rfl⟩
  · cases h2 : inH y 1048576
    · go_enter Try.func18, Try.ntmps18
      go_wp2_with (go_at_call 26; (with_reducible refine (rin_any _ _ _ (by decide) (by decide)).mono ?_); rintro e w' ⟨rfl, rfl⟩)
      go_ret
      exact ⟨ret_bool (by rw [E0.out, h1, h2]; rfl), rfl⟩
    · by_cases h3 : 1 ≤ d
      all_goals
        go_enter Try.func18, Try.ntmps18
        go_wp2_with (go_at_call 26; (with_reducible refine (rin_any _ _ _ (by decide) (by decide)).mono ?_); rintro e w' ⟨rfl, rfl⟩)
        go_ret
        exact ⟨ret_bool (by rw [E0.out, h1, h2]; simp [h3] <;> omega), rfl⟩
def idL : List Int := [65536, 0, 0, 0, 65536, 0, 0, 0, 65536]
theorem id_new : newC idL 9 9 = 0 := by decide +kernel
theorem id_x : atX (adK (cf idL) 9) 3 4 1 = 196608 := by decide +kernel
theorem id_y : atY (adK (cf idL) 9) 3 4 1 = 262144 := by decide +kernel
theorem id_e : atE (adK (cf idL) 9) 3 4 1 = 0 := by decide +kernel
set_option maxRecDepth 100000 in
set_option maxHeartbeats 4000000 in
theorem alive19 (w : World) : Calls Try.prog 14 #[] w fun e w' => e = .returned (.bool true) ∧ Below w.heap.size w w' := by
  have kL := Bk.new w 2 (idL.map (Value.int .i64)).toArray
  have hb1 := (Below.refl w.heap.size w).alloc (Nat.le_refl _) (.cells (idL.map (Value.int .i64)).toArray 2)
  have hN := new_any idL _ 9 9 9 9 _ rfl kL.rdl (Nat.le_refl _) (by decide)
  rw [id_new] at hN
  simp only [NwR, id_new] at hN
  have hA := fun (g : Nat) (w' : World) (hk : Bk w' g 74 (mA (adK (cf idL) 9))) => hat_any (adK (cf idL) 9) g 3 4 1 w' hk (adOk (newC_zero.1 id_new).ok)
  rw [id_x, id_y, id_e] at hA
  simp only [idL, List.map_cons, List.map_nil] at hN kL hb1
  go_enter Try.func14, Try.ntmps14
  go_wp2_with fail
  refine hN.mono ?_
  rintro e w2 ⟨p, rfl, ⟨_, hR⟩, hb2⟩
  obtain ⟨g, rfl, hg, hK⟩ := hR (by trivial)
  clear hR
  replace hb2 := hb1.trans (hb2.mono hb1.size)
  go_wp2_with fail
  refine (hA _ _ hK).mono ?_
  rintro e w3 ⟨rfl, hb3⟩
  replace hb3 := hb2.trans (hb3.mono hb2.size)
  go_wp2_with fail
  go_returns
  exact ⟨rfl, hb3⟩
theorem ca_i64 : Try.prog.cellsOf 2 = 1 := by kernel_rfl
theorem ca_int : Try.prog.cellsOf 3 = 1 := by kernel_rfl
theorem ca_2 : Try.prog.cellsOf 23 = 2 := by kernel_rfl
theorem ca_place : Try.prog.cellsOf 25 = 3 := by kernel_rfl
theorem open_size {w : World} {cs : Array Value} (h : Rv Try.prog w 23 cs.toList) : ∃ a b : Int, cs = #[.int .i64 a, .int .i64 b] ∧ (-9223372036854775808 ≤ a ∧ a ≤ 9223372036854775807) ∧ (-9223372036854775808 ≤ b ∧ b ≤ 9223372036854775807) := by
  obtain ⟨hl, hel⟩ := rv_array Try.underlying23 h
  rw [ca_int] at hel
  rw [ca_2] at hl
  obtain ⟨l2⟩ := cs
  match l2, hl with
  | [v0, v1], _ =>
    obtain ⟨a, e4, i4⟩ := rv_int Try.underlying3 (hel 0 (by omega))
    obtain ⟨b, e5, i5⟩ := rv_int Try.underlying3 (hel 1 (by omega))
    simp at e4 e5
    subst e4 e5
    exact ⟨a, b, rfl, wf_i64 i4, wf_i64 i5⟩
set_option maxRecDepth 100000 in
theorem open_place {w : World} {cs : List Value} (h : Rv Try.prog w 25 cs) : ∃ a b c : Int, cs = [.int .i64 a, .int .i64 b, .int .i64 c] ∧ (-9223372036854775808 ≤ a ∧ a ≤ 9223372036854775807) ∧ (-9223372036854775808 ≤ b ∧ b ≤ 9223372036854775807) ∧ (-9223372036854775808 ≤ c ∧ c ≤ 9223372036854775807) := by
  obtain ⟨hl, hf⟩ := rv_struct Try.underlying25 h
  rw [ca_place] at hl
  match cs, hl with
  | [v0, v1, v2], _ =>
    have g0 : Rv Try.prog w 2 (([v0, v1, v2].drop 0).take (Try.prog.cellsOf 2)) := hf 0 _ rfl
    have g1 : Rv Try.prog w 2 (([v0, v1, v2].drop 1).take (Try.prog.cellsOf 2)) := hf 1 _ rfl
    have g2 : Rv Try.prog w 2 (([v0, v1, v2].drop 2).take (Try.prog.cellsOf 2)) := hf 2 _ rfl
    rw [ca_i64] at g0 g1 g2
    obtain ⟨a, e0, i0⟩ := rv_int Try.underlying2 g0
    obtain ⟨b, e1, i1⟩ := rv_int Try.underlying2 g1
    obtain ⟨c, e2, i2⟩ := rv_int Try.underlying2 g2
    simp at e0 e1 e2
    subst e0 e1 e2
    exact ⟨a, b, c, rfl, wf_i64 i0, wf_i64 i1, wf_i64 i2⟩
theorem open_nums {w : World} {A : Option Addr} {n c : Nat} (h : Rv Try.prog w 22 [.slice A n c]) : ∃ l : List Int, l.length = n ∧ n ≤ c ∧ c ≤ maxLen ∧ (∀ z ∈ l, -9223372036854775808 ≤ z ∧ z ≤ 9223372036854775807) ∧ Rd w w.heap.size A (l.map (Value.int .i64)) := by
  obtain ⟨A', n', c', l, e, h1, h2, h3, h4, h5⟩ := rv_ints Try.underlying22 Try.underlying2 ca_i64 h
  simp at e
  obtain ⟨rfl, rfl, rfl⟩ := e
  exact ⟨l, h3, h1, h2, fun z hz => wf_i64 (h4 z hz), h5⟩
end Go.Proofs.Ytebcienjeponmaa
