/- The law: columns that are asked for. -/
import Derived.Test.YtjdboclibinjoaaFt16
import Derived.Test.YtjdboclibinjoaaOpen
set_option linter.unusedVariables false
namespace Go.Proofs.Ytjdboclibinjoaa
open Go.RowKit
theorem cb_i64 : Try.prog.cellsOf 2 = 1 := by kernel_rfl
theorem cb_2 : Try.prog.cellsOf 22 = 2 := by kernel_rfl
theorem open_2 {w : World} {cs : Array Value} (h : Rv Try.prog w 22 cs.toList) : ∃ a b : Int, cs = #[.int .i64 a, .int .i64 b] := by
  obtain ⟨hl, hel⟩ := rv_array Try.underlying22 h
  rw [cb_i64] at hel
  rw [cb_2] at hl
  obtain ⟨l2⟩ := cs
  match l2, hl with
  | [v0, v1], _ =>
    obtain ⟨a, e4, i4⟩ := rv_int Try.underlying2 (hel 0 (by omega))
    obtain ⟨b, e5, i5⟩ := rv_int Try.underlying2 (hel 1 (by omega))
    simp at e4 e5
    subst e4 e5
    exact ⟨a, b, rfl⟩
theorem okC_iff (m lo hi n : Int) : okC m lo hi n ↔ lo ≤ hi ∧ 0 ≤ m ∧ m ≤ 3 ∧ 1 ≤ n ∧ n ≤ 2147483648 ∧ -4611686018427387904 ≤ lo ∧ lo ≤ 4611686018427387904 ∧ -4611686018427387904 ≤ hi ∧ hi ≤ 4611686018427387904 := by
  unfold okC offB
  simp
  omega
set_option maxHeartbeats 4000000 in
theorem lawFootColumns (m : Int) (cs1 : Array Value) (n : Int) (W : World) (w0 : (Lit.int .i64 m).wf = true) (q1h : Rv Try.prog W 22 cs1.toList) (w2 : (Lit.int .i64 n).wf = true) :
    Calls Try.prog 3 #[.int .i64 m, .agg cs1, .int .i64 n] W fun e w' => e = .returned (.bool true) ∧ Below W.heap.size W w' := by
  obtain ⟨lo, hi, rfl⟩ := open_2 q1h
  clear q1h w0 w2
  have hK := Bk.new W 22 #[.int .i64 lo, .int .i64 hi]
  have hcol := fun w => columns_any m lo hi n w
  have hbA : Below W.heap.size W (W.alloc (.cells #[.int .i64 lo, .int .i64 hi] 22)) := (Below.refl _ W).alloc (Nat.le_refl _) _
  by_cases hok : okC m lo hi n
  · obtain ⟨o1, o2, o3, o4, o5, o6, o7, o8, o9⟩ := (okC_iff m lo hi n).1 hok
    have hlen := colsR_len m lo hi n
    obtain ⟨k, rfl⟩ : ∃ k : Nat, n = k := ⟨n.toNat, by omega⟩
    have hrc := fun w (h4 : k ≤ 400) => rcols_any m lo hi k w hok h4
    clear hok
    generalize colsR m lo hi k = L at *
    by_cases hbig : 400 < k ∨ lo + 3000 < hi
    · have hb := Lib.hid hbig
      clear hbig hrc
      go_enter Try.func3, Try.ntmps3
      go_wp2_with fail
      go_quiet (fail)
      generalize hW1 : (W.alloc (.cells #[.int .i64 lo, .int .i64 hi] 22)).drewN nq = W1 at *
      have hbB : Below W.heap.size W W1 := by rw [← hW1]; exact below_drewN hbA nq
      clear hW1 hK hbA
      go_wp2_with fail
      refine (hcol _).mono ?_
      rintro e w1 ⟨v, rfl, hown, hb1⟩
      obtain ⟨A1, c1, rfl, h31, h32, hA1, hr1, _⟩ := own_form2 hown
      have hb2 := hbB.trans (hb1.mono hbB.size)
      rcases hb.out with hh | hh
      · go_wp2_with (go_at_call 10; (with_reducible refine (alive_any _).mono ?_); rintro e w3 ⟨rfl, hb3⟩)
        go_returns
        exact ⟨rfl, hb2.trans (hb3.mono hb2.size)⟩
      · by_cases hh2 : 400 < k
        all_goals
          go_wp2_with (go_at_call 10; (with_reducible refine (alive_any _).mono ?_); rintro e w3 ⟨rfl, hb3⟩)
          go_returns
          exact ⟨rfl, hb2.trans (hb3.mono hb2.size)⟩
    · have hk4 : k ≤ 400 := by omega
      have hk5 : hi ≤ lo + 3000 := by omega
      replace hrc := fun w => hrc w hk4
      clear hbig
      go_enter Try.func3, Try.ntmps3
      go_wp2_with fail
      go_quiet (fail)
      generalize hW1 : (W.alloc (.cells #[.int .i64 lo, .int .i64 hi] 22)).drewN nq = W1 at *
      have hbB : Below W.heap.size W W1 := by rw [← hW1]; exact below_drewN hbA nq
      clear hW1 hK hbA
      go_wp2_with fail
      refine (hcol _).mono ?_
      rintro e w1 ⟨v, rfl, hown, hb1⟩
      obtain ⟨A1, c1, rfl, h31, h32, hA1, hr1, _⟩ := own_form2 hown
      have hb2 := hbB.trans (hb1.mono hbB.size)
      go_wp2_with fail
      refine (hrc _).mono ?_
      rintro e w4 ⟨v4, rfl, hown4, hb4⟩
      obtain ⟨A4, c4, rfl, h41, h42, hA4, hr4, _⟩ := own_form2 hown4
      have hr1' := hr1.below' hb4 (Nat.le_refl _)
      have hr1'' := hr1'.more hb4.size
      have hb5 := hb2.trans (hb4.mono hb2.size)
      go_wp2_with (first
        | (go_at_call 11; (with_reducible refine (same_any L A1 A4 L.length c1 c4 _ rfl (by omega) hr1'' hr4).mono ?_); rintro e w6 ⟨rfl, hb6⟩)
        | (go_at_call 10; (with_reducible refine (alive_any _).mono ?_); rintro e w7 ⟨rfl, hb7⟩))
      go_returns
      exact ⟨rfl, (hb5.trans (hb6.mono hb5.size)).trans (hb7.mono (Nat.le_trans hb5.size hb6.size))⟩
  · have hnil : colsR m lo hi n = [] := by unfold colsR; rw [if_neg hok]
    rw [hnil] at hcol
    rw [okC_iff] at hok
    have hbad := Lib.hid hok
    clear hok hnil
    go_enter Try.func3, Try.ntmps3
    go_wp2_with fail
    go_quiet (fail)
    generalize hW1 : (W.alloc (.cells #[.int .i64 lo, .int .i64 hi] 22)).drewN nq = W1 at *
    have hbB : Below W.heap.size W W1 := by rw [← hW1]; exact below_drewN hbA nq
    clear hW1 hK hbA
    go_wp2_with fail
    refine (hcol _).mono ?_
    rintro e w1 ⟨v, rfl, hown, hb1⟩
    obtain ⟨A1, c1, rfl, h31, h32, hA1, hr1, _⟩ := own_form2 hown
    have hb2 := hbB.trans (hb1.mono hbB.size)
    simp only [List.length_nil] at *
    clear hown hr1 h31 hA1 hcol hb1 hbB
    rcases (show lo < -4611686018427387904 ∨ (-4611686018427387904 ≤ lo ∧ 4611686018427387904 < lo) ∨ (-4611686018427387904 ≤ lo ∧ lo ≤ 4611686018427387904 ∧ hi < -4611686018427387904) ∨ (-4611686018427387904 ≤ lo ∧ lo ≤ 4611686018427387904 ∧ -4611686018427387904 ≤ hi ∧ 4611686018427387904 < hi) ∨ (-4611686018427387904 ≤ lo ∧ lo ≤ 4611686018427387904 ∧ -4611686018427387904 ≤ hi ∧ hi ≤ 4611686018427387904) by omega) with e1 | ⟨e1, e2⟩ | ⟨e1, e2, e3⟩ | ⟨e1, e2, e3, e4⟩ | ⟨e1, e2, e3, e4⟩
    all_goals
      rcases (show hi < lo ∨ lo ≤ hi by omega) with d0 | d0
      ·
        go_wp2_with (go_at_call 10; (with_reducible refine (alive_any _).mono ?_); rintro e w3 ⟨rfl, hb3⟩)
        go_returns
        exact ⟨rfl, hb2.trans (hb3.mono hb2.size)⟩
      rcases (show m < 0 ∨ 0 ≤ m by omega) with d1 | d1
      ·
        go_wp2_with (go_at_call 10; (with_reducible refine (alive_any _).mono ?_); rintro e w3 ⟨rfl, hb3⟩)
        go_returns
        exact ⟨rfl, hb2.trans (hb3.mono hb2.size)⟩
      rcases (show 3 < m ∨ m ≤ 3 by omega) with d2 | d2
      ·
        go_wp2_with (go_at_call 10; (with_reducible refine (alive_any _).mono ?_); rintro e w3 ⟨rfl, hb3⟩)
        go_returns
        exact ⟨rfl, hb2.trans (hb3.mono hb2.size)⟩
      rcases (show n < 1 ∨ 1 ≤ n by omega) with d3 | d3
      ·
        go_wp2_with (go_at_call 10; (with_reducible refine (alive_any _).mono ?_); rintro e w3 ⟨rfl, hb3⟩)
        go_returns
        exact ⟨rfl, hb2.trans (hb3.mono hb2.size)⟩
      rcases (show 2147483648 < n ∨ n ≤ 2147483648 by omega) with d4 | d4
      ·
        go_wp2_with (go_at_call 10; (with_reducible refine (alive_any _).mono ?_); rintro e w3 ⟨rfl, hb3⟩)
        go_returns
        exact ⟨rfl, hb2.trans (hb3.mono hb2.size)⟩
      first
        | (exfalso; have := hbad.out; omega)
        | (go_wp2_with (go_at_call 10; (with_reducible refine (alive_any _).mono ?_); rintro e w3 ⟨rfl, hb3⟩)
           go_returns
           exact ⟨rfl, hb2.trans (hb3.mono hb2.size)⟩)
end Go.Proofs.Ytjdboclibinjoaa
