/- The walk of the law SampleNames. -/
import Derived.Test.YtfokmhjcnenpnaaSn2
import Derived.Test.YtfokmhjcnenpnaaOpen
set_option linter.unusedVariables false
namespace Go.Proofs.Ytfokmhjcnenpnaa
open Go.RowKit
def wR (s : ByteArray) : Nat → Int × Bool
  | 0 => (0, false)
  | k + 1 => if (s.toList == (nameR k).toList) = true then ((k : Int), true) else wR s k
theorem eq_sym (x s : ByteArray) : (s.toList == x.toList) = eqS x s := by
  unfold eqS
  rw [Bool.eq_iff_iff]; simp only [beq_iff_eq]; exact eq_comm
theorem eqS_ne {x y s : ByteArray} (h : eqS x s = true) (hne : (x.toList == y.toList) = false) : eqS y s = false := by
  unfold eqS at *
  cases hy : (y.toList == s.toList)
  · rfl
  · rw [beq_iff_eq] at h hy
    rw [h, ← hy] at hne
    simp at hne
theorem wR_eq (s : ByteArray) : wR s 4 = (max (idxR s) 0, decide (0 ≤ idxR s)) := by
  show (if (s.toList == (nameR 3).toList) = true then (3, true) else if (s.toList == (nameR 2).toList) = true then (2, true) else if (s.toList == (nameR 1).toList) = true then (1, true) else if (s.toList == (nameR 0).toList) = true then (0, true) else ((0 : Int), false)) = _
  rw [eq_sym, eq_sym, eq_sym, eq_sym]
  rw [show nameR 3 = sSuper from rfl, show nameR 2 = sCubic from rfl, show nameR 1 = sLinear from rfl, show nameR 0 = sNear from rfl]
  unfold idxR
  cases h0 : eqS sNear s
  · cases h1 : eqS sLinear s
    · cases h2 : eqS sCubic s
      · cases h3 : eqS sSuper s
        · simp <;> rfl
        · simp <;> rfl
      · rw [eqS_ne h2 (y := sSuper) (by decide +kernel)]; simp <;> rfl
    · rw [eqS_ne h1 (y := sSuper) (by decide +kernel), eqS_ne h1 (y := sCubic) (by decide +kernel)]; simp <;> rfl
  · rw [eqS_ne h0 (y := sSuper) (by decide +kernel), eqS_ne h0 (y := sCubic) (by decide +kernel), eqS_ne h0 (y := sLinear) (by decide +kernel)]; simp <;> rfl
theorem in00 (w : World) : Calls Try.prog 12 #[.int .i64 0, .int .i64 0] w fun e w' => e = .returned (.bool true) ∧ w = w' := by
  go_enter Try.func12, Try.ntmps12
  go_wp2
  go_ret
  exact ⟨rfl, rfl⟩
theorem alive33 (w : World) : Calls Try.prog 13 #[] w fun e w' => e = .returned (.bool true) ∧ Below w.heap.size w w' := by
  have hn := fun w' : World => (name_any 2 w').mono (R' := fun e w'' => e = .returned (.string sCubic) ∧ Below w'.heap.size w' w'') (fun e w'' ⟨h1, h2⟩ => ⟨h1, h2⟩)
  have he : (sCubic.toList == [99, 117, 98, 105, 99]) = true := by decide +kernel
  go_enter Try.func13, Try.ntmps13
  go_wp2_with (refine (hn _).mono ?_; rintro e w1 ⟨rfl, hb1⟩)
  go_returns
  exact ⟨rfl, hb1⟩
set_option maxRecDepth 100000 in
set_option maxHeartbeats 4000000 in
theorem walkSampleNames (k : Int) (s : ByteArray) (r0 r1 : Int) (w : World) :
    Calls Try.prog 3 #[.int .i64 k, .string s, .agg #[.int .i64 r0, .int .i64 r1]] w fun e w' => e = .returned (.bool true) ∧ Below w.heap.size w w' := by
  obtain ⟨M, hM⟩ : ∃ M, max (idxR s) 0 = M := ⟨_, rfl⟩
  obtain ⟨D, hD⟩ : ∃ D, decide (0 ≤ idxR s) = D := ⟨_, rfl⟩
  have hNm := fun w' : World => (named_any s w').mono (R' := fun e w'' => e = .returned (.tuple #[.int .i64 M, .bool D]) ∧ Below w'.heap.size w' w'') (fun e w'' ⟨h1, h2⟩ => ⟨by rw [h1, hM, hD], h2⟩)
  have HW := Lib.hid (show wR s 4 = (M, D) by rw [wR_eq, hM, hD])
  clear hM hD
  have hL : Lie w [(w.heap.size, 22, #[.int .i64 r0, .int .i64 r1])] (w.alloc (.cells #[.int .i64 r0, .int .i64 r1] 22)) := (Lie.start w).alloc _ _
  go_enter Try.func3, Try.ntmps3
  go_wp2_with (go_at_call 5; (with_reducible refine (hNm _).mono ?_); rintro e w1 ⟨rfl, hb1⟩; replace hL := hL.nx hb1)
  go_loopw [9, 10, 11] (fun a b i wr => ∃ j : Nat, j ≤ 4 ∧ i = .int .i64 j ∧ a = .int .i64 (wR s j).1 ∧ b = .bool (wR s j).2 ∧ Lie w [(w.heap.size, 22, #[.int .i64 r0, .int .i64 r1])] wr) (fun _ _ i _ => 4 - (intOf i).toNat)
  case atStart => exact ⟨0, by omega, rfl, rfl, rfl, hL⟩
  case round =>
    clear hL hb1
    obtain ⟨j, hj, rfl, rfl, rfl, hL⟩ := hrel
    by_cases hlt : j < 4
    · cases he : (s.toList == (nameR j).toList)
      · have HWj : Hid (wR s (j + 1) = wR s j) := by show _ = _; rw [wR, if_neg (by rw [he]; simp)]
        generalize hp : wR s j = p at *
        have HP := Lib.hid hp
        clear hp
        go_wp2_with (go_at_call 6; (with_reducible refine (rname_any _ _).mono ?_); rintro e w2 ⟨rfl, hb2⟩)
        exact ⟨⟨j + 1, by omega, by go_num, by rw [HWj.out], by rw [HWj.out], hL.nx hb2⟩, by simp [intOf]; omega⟩
      · have HWj : Hid (wR s (j + 1) = ((j : Int), true)) := by show _ = _; rw [wR, if_pos he]
        generalize hp : wR s j = p at *
        have HP := Lib.hid hp
        clear hp
        go_wp2_with (go_at_call 6; (with_reducible refine (rname_any _ _).mono ?_); rintro e w2 ⟨rfl, hb2⟩)
        exact ⟨⟨j + 1, by omega, by go_num, by rw [HWj.out], by rw [HWj.out], hL.nx hb2⟩, by simp [intOf]; omega⟩
    · obtain rfl : j = 4 := by omega
      rw [HW.out]
      obtain ⟨b0, b1⟩ := (hL.k 0 (by simp)).cell2
      simp only [List.getElem_cons_zero] at b0 b1
      have hlt0 := (hL.k 0 (by simp)).lt
      simp only [List.getElem_cons_zero] at hlt0
      have h5 : k = 0 ∨ k = 1 ∨ k = 2 ∨ k = 3 ∨ k < 0 ∨ 3 < k := by omega
      clear hlt hj
      rcases h5 with rfl | rfl | rfl | rfl | h5 | h5
      · obtain ⟨U, hU⟩ : ∃ U, (sreachR 0 r0 r1).1 = U := ⟨_, rfl⟩
        obtain ⟨V, hV⟩ : ∃ V, (sreachR 0 r0 r1).2 = V := ⟨_, rfl⟩
        have hS := fun w' : World => (sreach_any 0 r0 r1 w').mono (R' := fun e w'' => e = .returned (.tuple #[.int .i64 U, .int .i64 V]) ∧ Below w'.heap.size w' w'') (fun e w'' ⟨h1, h2⟩ => ⟨by rw [h1, hU, hV], h2⟩)
        have hQ := fun w' : World => (near_reach r0 r1 w').mono (R' := fun e w'' => e = .returned (.tuple #[.int .i64 U, .int .i64 V]) ∧ w' = w'') (fun e w'' ⟨h1, h2⟩ => ⟨by rw [h1, ← hU, ← hV]; rfl, h2⟩)
        clear hU hV
        go_wp2_with (first
          | (go_at_call 7; (with_reducible refine (hS _).mono ?_); rintro e w2 ⟨rfl, hb2⟩; have hL2 := hL.nx hb2; obtain ⟨c0, c1⟩ := (hL2.k 0 (by simp)).cell2; simp only [List.getElem_cons_zero] at c0 c1)
          | (go_at_call 8; (with_reducible refine (hQ _).mono ?_); rintro e w9 ⟨rfl, rfl⟩)
          | (go_at_call 11; (with_reducible refine (name_any _ _).mono ?_); rintro e w3 ⟨rfl, hb3⟩; have hL3 := hL2.nx hb3)
          | (go_at_call 6; (with_reducible refine (rname_any _ _).mono ?_); rintro e w4 ⟨rfl, hb4⟩; have hL4 := hL3.nx hb4)
          | (go_at_call 12; (with_reducible refine (in00 _).mono ?_); rintro e w9 ⟨rfl, rfl⟩)
          | (go_at_call 13; (with_reducible refine (alive33 _).mono ?_); rintro e w5 ⟨rfl, hb5⟩; have hL5 := hL4.nx hb5))
        go_returns
        exact ⟨rfl, hL5.bel⟩
      · obtain ⟨U, hU⟩ : ∃ U, (sreachR 1 r0 r1).1 = U := ⟨_, rfl⟩
        obtain ⟨V, hV⟩ : ∃ V, (sreachR 1 r0 r1).2 = V := ⟨_, rfl⟩
        have hS := fun w' : World => (sreach_any 1 r0 r1 w').mono (R' := fun e w'' => e = .returned (.tuple #[.int .i64 U, .int .i64 V]) ∧ Below w'.heap.size w' w'') (fun e w'' ⟨h1, h2⟩ => ⟨by rw [h1, hU, hV], h2⟩)
        have hQ := fun w' : World => (linear_reach r0 r1 w').mono (R' := fun e w'' => e = .returned (.tuple #[.int .i64 U, .int .i64 V]) ∧ w' = w'') (fun e w'' ⟨h1, h2⟩ => ⟨by rw [h1, ← hU, ← hV]; rfl, h2⟩)
        clear hU hV
        go_wp2_with (first
          | (go_at_call 7; (with_reducible refine (hS _).mono ?_); rintro e w2 ⟨rfl, hb2⟩; have hL2 := hL.nx hb2; obtain ⟨c0, c1⟩ := (hL2.k 0 (by simp)).cell2; simp only [List.getElem_cons_zero] at c0 c1)
          | (go_at_call 9; (with_reducible refine (hQ _).mono ?_); rintro e w9 ⟨rfl, rfl⟩)
          | (go_at_call 11; (with_reducible refine (name_any _ _).mono ?_); rintro e w3 ⟨rfl, hb3⟩; have hL3 := hL2.nx hb3)
          | (go_at_call 6; (with_reducible refine (rname_any _ _).mono ?_); rintro e w4 ⟨rfl, hb4⟩; have hL4 := hL3.nx hb4)
          | (go_at_call 12; (with_reducible refine (in00 _).mono ?_); rintro e w9 ⟨rfl, rfl⟩)
          | (go_at_call 13; (with_reducible refine (alive33 _).mono ?_); rintro e w5 ⟨rfl, hb5⟩; have hL5 := hL4.nx hb5))
        go_returns
        exact ⟨rfl, hL5.bel⟩
      · obtain ⟨U, hU⟩ : ∃ U, (sreachR 2 r0 r1).1 = U := ⟨_, rfl⟩
        obtain ⟨V, hV⟩ : ∃ V, (sreachR 2 r0 r1).2 = V := ⟨_, rfl⟩
        have hS := fun w' : World => (sreach_any 2 r0 r1 w').mono (R' := fun e w'' => e = .returned (.tuple #[.int .i64 U, .int .i64 V]) ∧ Below w'.heap.size w' w'') (fun e w'' ⟨h1, h2⟩ => ⟨by rw [h1, hU, hV], h2⟩)
        have hQ := fun w' : World => (cubic_reach r0 r1 w').mono (R' := fun e w'' => e = .returned (.tuple #[.int .i64 U, .int .i64 V]) ∧ w' = w'') (fun e w'' ⟨h1, h2⟩ => ⟨by rw [h1, ← hU, ← hV]; rfl, h2⟩)
        clear hU hV
        go_wp2_with (first
          | (go_at_call 7; (with_reducible refine (hS _).mono ?_); rintro e w2 ⟨rfl, hb2⟩; have hL2 := hL.nx hb2; obtain ⟨c0, c1⟩ := (hL2.k 0 (by simp)).cell2; simp only [List.getElem_cons_zero] at c0 c1)
          | (go_at_call 10; (with_reducible refine (hQ _).mono ?_); rintro e w9 ⟨rfl, rfl⟩)
          | (go_at_call 11; (with_reducible refine (name_any _ _).mono ?_); rintro e w3 ⟨rfl, hb3⟩; have hL3 := hL2.nx hb3)
          | (go_at_call 6; (with_reducible refine (rname_any _ _).mono ?_); rintro e w4 ⟨rfl, hb4⟩; have hL4 := hL3.nx hb4)
          | (go_at_call 12; (with_reducible refine (in00 _).mono ?_); rintro e w9 ⟨rfl, rfl⟩)
          | (go_at_call 13; (with_reducible refine (alive33 _).mono ?_); rintro e w5 ⟨rfl, hb5⟩; have hL5 := hL4.nx hb5))
        go_returns
        exact ⟨rfl, hL5.bel⟩
      · obtain ⟨U, hU⟩ : ∃ U, (sreachR 3 r0 r1).1 = U := ⟨_, rfl⟩
        obtain ⟨V, hV⟩ : ∃ V, (sreachR 3 r0 r1).2 = V := ⟨_, rfl⟩
        have hS := fun w' : World => (sreach_any 3 r0 r1 w').mono (R' := fun e w'' => e = .returned (.tuple #[.int .i64 U, .int .i64 V]) ∧ Below w'.heap.size w' w'') (fun e w'' ⟨h1, h2⟩ => ⟨by rw [h1, hU, hV], h2⟩)
        have hQ := fun w' : World => (linear_reach r0 r1 w').mono (R' := fun e w'' => e = .returned (.tuple #[.int .i64 U, .int .i64 V]) ∧ w' = w'') (fun e w'' ⟨h1, h2⟩ => ⟨by rw [h1, ← hU, ← hV]; rfl, h2⟩)
        clear hU hV
        go_wp2_with (first
          | (go_at_call 7; (with_reducible refine (hS _).mono ?_); rintro e w2 ⟨rfl, hb2⟩; have hL2 := hL.nx hb2; obtain ⟨c0, c1⟩ := (hL2.k 0 (by simp)).cell2; simp only [List.getElem_cons_zero] at c0 c1)
          | (go_at_call 9; (with_reducible refine (hQ _).mono ?_); rintro e w9 ⟨rfl, rfl⟩)
          | (go_at_call 11; (with_reducible refine (name_any _ _).mono ?_); rintro e w3 ⟨rfl, hb3⟩; have hL3 := hL2.nx hb3)
          | (go_at_call 6; (with_reducible refine (rname_any _ _).mono ?_); rintro e w4 ⟨rfl, hb4⟩; have hL4 := hL3.nx hb4)
          | (go_at_call 12; (with_reducible refine (in00 _).mono ?_); rintro e w9 ⟨rfl, rfl⟩)
          | (go_at_call 13; (with_reducible refine (alive33 _).mono ?_); rintro e w5 ⟨rfl, hb5⟩; have hL5 := hL4.nx hb5))
        go_returns
        exact ⟨rfl, hL5.bel⟩
      · obtain ⟨U, hU⟩ : ∃ U, (sreachR k r0 r1).1 = U := ⟨_, rfl⟩
        obtain ⟨V, hV⟩ : ∃ V, (sreachR k r0 r1).2 = V := ⟨_, rfl⟩
        have hS := fun w' : World => (sreach_any k r0 r1 w').mono (R' := fun e w'' => e = .returned (.tuple #[.int .i64 U, .int .i64 V]) ∧ Below w'.heap.size w' w'') (fun e w'' ⟨h1, h2⟩ => ⟨by rw [h1, hU, hV], h2⟩)
        have hsr : sreachR k r0 r1 = (0, 0) := by unfold sreachR; rw [if_neg (by omega), if_neg (by omega), if_neg (by omega), if_neg (by omega)]
        rw [hsr] at hU hV
        obtain rfl : 0 = U := hU
        obtain rfl : 0 = V := hV
        have t0 : (k == 0) = false := beq_eq_false_iff_ne.2 (by omega)
        have t1 : (k == 1) = false := beq_eq_false_iff_ne.2 (by omega)
        have t2 : (k == 2) = false := beq_eq_false_iff_ne.2 (by omega)
        have t3 : (k == 3) = false := beq_eq_false_iff_ne.2 (by omega)
        clear hsr
        go_wp2_with (first
          | (go_at_call 7; (with_reducible refine (hS _).mono ?_); rintro e w2 ⟨rfl, hb2⟩; have hL2 := hL.nx hb2; obtain ⟨c0, c1⟩ := (hL2.k 0 (by simp)).cell2; simp only [List.getElem_cons_zero] at c0 c1)
          
          | (go_at_call 11; (with_reducible refine (name_any _ _).mono ?_); rintro e w3 ⟨rfl, hb3⟩; have hL3 := hL2.nx hb3)
          | (go_at_call 6; (with_reducible refine (rname_any _ _).mono ?_); rintro e w4 ⟨rfl, hb4⟩; have hL4 := hL3.nx hb4)
          | (go_at_call 12; (with_reducible refine (in00 _).mono ?_); rintro e w9 ⟨rfl, rfl⟩)
          | (go_at_call 13; (with_reducible refine (alive33 _).mono ?_); rintro e w5 ⟨rfl, hb5⟩; have hL5 := hL4.nx hb5))
        go_returns
        exact ⟨rfl, hL5.bel⟩
      · obtain ⟨U, hU⟩ : ∃ U, (sreachR k r0 r1).1 = U := ⟨_, rfl⟩
        obtain ⟨V, hV⟩ : ∃ V, (sreachR k r0 r1).2 = V := ⟨_, rfl⟩
        have hS := fun w' : World => (sreach_any k r0 r1 w').mono (R' := fun e w'' => e = .returned (.tuple #[.int .i64 U, .int .i64 V]) ∧ Below w'.heap.size w' w'') (fun e w'' ⟨h1, h2⟩ => ⟨by rw [h1, hU, hV], h2⟩)
        have hsr : sreachR k r0 r1 = (0, 0) := by unfold sreachR; rw [if_neg (by omega), if_neg (by omega), if_neg (by omega), if_neg (by omega)]
        rw [hsr] at hU hV
        obtain rfl : 0 = U := hU
        obtain rfl : 0 = V := hV
        have t0 : (k == 0) = false := beq_eq_false_iff_ne.2 (by omega)
        have t1 : (k == 1) = false := beq_eq_false_iff_ne.2 (by omega)
        have t2 : (k == 2) = false := beq_eq_false_iff_ne.2 (by omega)
        have t3 : (k == 3) = false := beq_eq_false_iff_ne.2 (by omega)
        clear hsr
        go_wp2_with (first
          | (go_at_call 7; (with_reducible refine (hS _).mono ?_); rintro e w2 ⟨rfl, hb2⟩; have hL2 := hL.nx hb2; obtain ⟨c0, c1⟩ := (hL2.k 0 (by simp)).cell2; simp only [List.getElem_cons_zero] at c0 c1)
          
          | (go_at_call 11; (with_reducible refine (name_any _ _).mono ?_); rintro e w3 ⟨rfl, hb3⟩; have hL3 := hL2.nx hb3)
          | (go_at_call 6; (with_reducible refine (rname_any _ _).mono ?_); rintro e w4 ⟨rfl, hb4⟩; have hL4 := hL3.nx hb4)
          | (go_at_call 12; (with_reducible refine (in00 _).mono ?_); rintro e w9 ⟨rfl, rfl⟩)
          | (go_at_call 13; (with_reducible refine (alive33 _).mono ?_); rintro e w5 ⟨rfl, hb5⟩; have hL5 := hL4.nx hb5))
        go_returns
        exact ⟨rfl, hL5.bel⟩
theorem cs_i64 : Try.prog.cellsOf 2 = 1 := by kernel_rfl
theorem cs_2 : Try.prog.cellsOf 22 = 2 := by kernel_rfl
theorem lawSampleNames (k : Int) (s : ByteArray) (cs : Array Value) (w : World) (h0 : (Lit.int .i64 k).wf = true) (h1 : s.size ≤ maxLen) (h : Rv Try.prog w 22 cs.toList) :
    Calls Try.prog 3 #[.int .i64 k, .string s, .agg cs] w fun e w' => e = .returned (.bool true) ∧ Below w.heap.size w w' := by
  obtain ⟨hl, hel⟩ := rv_array Try.underlying22 h
  rw [cs_i64] at hel
  rw [cs_2] at hl
  obtain ⟨l2⟩ := cs
  match l2, hl with
  | [v0, v1], _ =>
    obtain ⟨a, e4, _⟩ := rv_int Try.underlying2 (hel 0 (by omega))
    obtain ⟨b, e5, _⟩ := rv_int Try.underlying2 (hel 1 (by omega))
    simp at e4 e5
    subst e4 e5
    exact walkSampleNames k s a b w
end Go.Proofs.Ytfokmhjcnenpnaa
