/- Several texts in one: plan.Check: its last region by an invariant (printed by wip/tools/genpc3.py). plan's reference: whether one of some is marked. The reference's columns. plan's reference: which columns are marked. A tile of a row of tiles, read. -/
import Derived.Test.YtibmhabipghjlaaGreatPlanHoldsZz1
import Derived.Test.YtibmhabipghjlaaGreatPlanHoldsZz3
import Derived.Test.YtibmhabipghjlaaGreatPlanHoldsZz8
import Derived.Test.YtibmhabipghjlaaGreatPlanHoldsZz4
section
set_option linter.unusedVariables false
namespace Go.Proofs.YtibmhabipghjlaaGreat
open Go.RowKit
set_option maxRecDepth 100000 in
theorem arr0 (x y : Int) : ∀ w : World, (Instr.index 73 (.agg #[.int .i64 x, .int .i64 y]) (.int .i64 0)).run Tryz.prog w = .ok (.int .i64 x) w := fun _ => rfl
set_option maxRecDepth 100000 in
theorem arr1 (x y : Int) : ∀ w : World, (Instr.index 73 (.agg #[.int .i64 x, .int .i64 y]) (.int .i64 1)).run Tryz.prog w = .ok (.int .i64 y) w := fun _ => rfl
abbrev selU (p : Bool) (v : Value) : Value := match p with | true => undef | false => v
set_option maxRecDepth 100000 in
abbrev chA (j : Jb) (g0 g5 : Nat) (c0 c2 c3 c4 c6 c7 c8 c9 c10 c11 c12 c13 c14 c15 c16 c17 c18 c19 c20 c21 c22 c23 c24 c25 c26 c27 c28 c29 c30 c31 c32 c33 c34 c35 c36 c37 c38 c40 c42 c44 c46 x48 x49 x50 x51 x52 x53 x54 x55 x56 x57 x58 x59 x60 x61 x62 x63 x64 : Value) : Act := { tmps := #[c0, .pointer (some ⟨g0, 0, none⟩), c2, c3, c4, .pointer (some ⟨g5, 0, none⟩), c6, c7, c8, c9, c10, c11, c12, c13, c14, c15, c16, c17, c18, c19, c20, c21, c22, c23, c24, c25, c26, c27, c28, c29, c30, c31, c32, c33, c34, c35, c36, c37, c38, .bool false, c40, .int .i64 j.U0, c42, .int .i64 j.V0, c44, .int .i64 j.U1, c46, .int .i64 j.V1, x48, x49, x50, x51, x52, x53, x54, x55, x56, x57, x58, x59, x60, x61, x62, x63, x64], defers := [] }
set_option maxRecDepth 100000 in
def CInv (j : Jb) (g0 g5 : Nat) (cnt : Int) (p3 p4 p5 : Bool) (c0 c2 c3 c4 c6 c7 c8 c9 c10 c11 c12 c13 c14 c15 c16 c17 c18 c19 c20 c21 c22 c23 c24 c25 c26 c27 c28 c29 c30 c31 c32 c33 c34 c35 c36 c37 c38 c40 c42 c44 c46 : Value) (w1 : World) (ls : Array Bool) (A : Act) (wr : World) : Prop :=
  ∃ (b22 b23 b24 b25 b26 b27 b28 b29 b30 b31 b32 b33 b34 b35 b36 b37 b38 : Bool) (x48 x49 x50 x51 x52 x53 x54 x55 x56 x57 x58 x59 x60 x61 x62 x63 x64 : Value), ls = #[true, true, true, true, true, true, true, true, true, true, true, true, true, true, true, true, true, true, true, true, true, true, b22, b23, b24, b25, b26, b27, b28, b29, b30, b31, b32, b33, b34, b35, b36, b37, b38] ∧ A = chA j g0 g5 c0 c2 c3 c4 c6 c7 c8 c9 c10 c11 c12 c13 c14 c15 c16 c17 c18 c19 c20 c21 c22 c23 c24 c25 c26 c27 c28 c29 c30 c31 c32 c33 c34 c35 c36 c37 c38 c40 c42 c44 c46 x48 x49 x50 x51 x52 x53 x54 x55 x56 x57 x58 x59 x60 x61 x62 x63 x64 ∧ Below w1.heap.size w1 wr ∧ (b22 = true → ∃ A cp, x48 = .slice A 4 cp ∧ Rd wr wr.heap.size A [.int .i64 j.U0, .int .i64 j.V0, .int .i64 j.U1, .int .i64 j.V1]) ∧ (b23 = true → x49 = .bool p3) ∧ (b24 = true → x50 = .bool p3) ∧ (b25 = true → x51 = .bool p3) ∧ (b26 = true → x52 = selU p3 (.pointer (some ⟨g5, 0, none⟩))) ∧ (b27 = true → x53 = selU p3 (.int .i64 j.U0)) ∧ (b28 = true → x54 = selU p3 (.pointer (some ⟨g5, 2, none⟩))) ∧ (b29 = true → x55 = selU p3 (.int .i64 j.U1)) ∧ (b30 = true → x56 = selU p3 (.bool p4)) ∧ (b31 = true → x57 = .bool (p3 || p4)) ∧ (b32 = true → x58 = .bool (p3 || p4)) ∧ (b33 = true → x59 = selU (p3 || p4) (.pointer (some ⟨g5, 1, none⟩))) ∧ (b34 = true → x60 = selU (p3 || p4) (.int .i64 j.V0)) ∧ (b35 = true → x61 = selU (p3 || p4) (.pointer (some ⟨g5, 3, none⟩))) ∧ (b36 = true → x62 = selU (p3 || p4) (.int .i64 j.V1)) ∧ (b37 = true → x63 = selU (p3 || p4) (.bool p5)) ∧ (b38 = true → x64 = .bool (p3 || p4 || p5))
set_option maxRecDepth 100000 in
theorem CInv_start (j : Jb) (g0 g5 : Nat) (cnt : Int) (p3 p4 p5 : Bool) {c0 c2 c3 c4 c6 c7 c8 c9 c10 c11 c12 c13 c14 c15 c16 c17 c18 c19 c20 c21 c22 c23 c24 c25 c26 c27 c28 c29 c30 c31 c32 c33 c34 c35 c36 c37 c38 c40 c42 c44 c46 : Value} (w1 : World) : CInv j g0 g5 cnt p3 p4 p5 c0 c2 c3 c4 c6 c7 c8 c9 c10 c11 c12 c13 c14 c15 c16 c17 c18 c19 c20 c21 c22 c23 c24 c25 c26 c27 c28 c29 c30 c31 c32 c33 c34 c35 c36 c37 c38 c40 c42 c44 c46 w1 #[true, true, true, true, true, true, true, true, true, true, true, true, true, true, true, true, true, true, true, true, true, true, false, false, false, false, false, false, false, false, false, false, false, false, false, false, false, false, false] (chA j g0 g5 c0 c2 c3 c4 c6 c7 c8 c9 c10 c11 c12 c13 c14 c15 c16 c17 c18 c19 c20 c21 c22 c23 c24 c25 c26 c27 c28 c29 c30 c31 c32 c33 c34 c35 c36 c37 c38 c40 c42 c44 c46 undef undef undef undef undef undef undef undef undef undef undef undef undef undef undef undef undef) w1 := by
  exact ⟨false, false, false, false, false, false, false, false, false, false, false, false, false, false, false, false, false, undef, undef, undef, undef, undef, undef, undef, undef, undef, undef, undef, undef, undef, undef, undef, undef, undef, rfl, rfl, Below.refl _ _, (fun e => by cases e), (fun e => by cases e), (fun e => by cases e), (fun e => by cases e), (fun e => by cases e), (fun e => by cases e), (fun e => by cases e), (fun e => by cases e), (fun e => by cases e), (fun e => by cases e), (fun e => by cases e), (fun e => by cases e), (fun e => by cases e), (fun e => by cases e), (fun e => by cases e), (fun e => by cases e), (fun e => by cases e)⟩
set_option maxRecDepth 100000 in
set_option maxHeartbeats 8000000 in
theorem pchk_rest (j : Jb) (w : World) (BC GC cnt : Int) (p3 p4 p5 : Bool) (nm : ByteArray) (hnm : nm.toList.isEmpty = false) (hp4 : decide (j.U0 > j.U1) = p4) (hp5 : decide (j.V0 > j.V1) = p5)
    (hN : ∀ w', Calls Tryz.prog 21 #[.int .i64 j.K] w' fun e w'' => e = .returned (.string nm) ∧ Below w'.heap.size w' w'')
    (hG : ∀ w', Calls Tryz.prog 24 #[.agg j.cells, .int .i64 0] w' fun e w'' => e = .returned (grV j.W j.H j.TW j.TH) ∧ Below w'.heap.size w' w'')
    (hB : ∀ w', Calls Tryz.prog 22 #[boV j.mo j.c0 j.c1 j.c2 j.c3] w' fun e w'' => e = .returned (.int .i64 BC) ∧ Below w'.heap.size w' w'')
    (hC : ∀ w', Calls Tryz.prog 23 #[grV j.W j.H j.TW j.TH] w' fun e w'' => e = .returned (.int .i64 GC) ∧ Below w'.heap.size w' w'')
    (hCnt : BC = 0 → GC = 0 → ∀ w', Calls Tryz.prog 25 #[.int .i64 j.W, .int .i64 j.H, .int .i64 15] w' fun e w'' => e = .returned (.int .i64 cnt) ∧ w' = w'')
    (hFar : ∀ A cp w' B, Rd w' B A [.int .i64 j.U0, .int .i64 j.V0, .int .i64 j.U1, .int .i64 j.V1] → Calls Tryz.prog 26 #[.slice A 4 cp, .func (.func 27) #[] #[]] w' fun e w'' => e = .returned (.bool p3) ∧ w' = w'') :
    Calls Tryz.prog 7 #[.agg j.cells] w fun e w' => e = .returned (.int .i64 (if BC ≠ 0 then BC else if GC ≠ 0 then GC else if j.L < 1 ∨ cnt < j.L then 11 else if (p3 || p4 || p5) = true then 11 else 0)) ∧ Below w.heap.size w w' := by
  have hL := (Lie.start w).alloc j.cells 28
  have k0 : Bk _ w.heap.size 28 j.cells := hL.k 0 (by simp)
  have hb0 := hL.bel
  obtain ⟨y0, y1, y2, y3, y4, y5, y6, y7, y8, y9, y10, y11, y12, y13, y14⟩ := k0.cellJ
  clear y0 y1 y2 y3 y5 y6 y7 y8 y9 y10 y11 y12 y13 y14 hL
  have HP4 := Lib.hid hp4
  have HP5 := Lib.hid hp5
  clear hp4 hp5
  obtain ⟨cv, hcv⟩ : ∃ cv, (if BC ≠ 0 then BC else if GC ≠ 0 then GC else if j.L < 1 ∨ cnt < j.L then 11 else if (p3 || p4 || p5) = true then 11 else 0) = cv := ⟨_, rfl⟩
  rw [hcv]
  have HCV := Lib.hid hcv
  clear hcv
  go_enter Tryz.func7, Tryz.ntmps7
  go_upto_region 3 with (go_at_call 21; (with_reducible refine (hN _).mono ?_); rintro e w1 ⟨rfl, hb1⟩)
  have k1 := k0.nx hb1
  have hb01 := hb0.trans (hb1.mono hb0.size)
  obtain ⟨y0, y1, y2, y3, y4', y5, y6, y7, y8, y9, y10, y11, y12, y13, y14⟩ := k1.cellJ
  have z0 := fun (n : Nat) (os : Array Obj) => cell_regrown y0 n os
  have z1 := fun (n : Nat) (os : Array Obj) => cell_regrown y1 n os
  have z2 := fun (n : Nat) (os : Array Obj) => cell_regrown y2 n os
  have z3 := fun (n : Nat) (os : Array Obj) => cell_regrown y3 n os
  have z4 := fun (n : Nat) (os : Array Obj) => cell_regrown y4' n os
  have z5 := fun (n : Nat) (os : Array Obj) => cell_regrown y5 n os
  have z6 := fun (n : Nat) (os : Array Obj) => cell_regrown y6 n os
  have z7 := fun (n : Nat) (os : Array Obj) => cell_regrown y7 n os
  have z8 := fun (n : Nat) (os : Array Obj) => cell_regrown y8 n os
  have z9 := fun (n : Nat) (os : Array Obj) => cell_regrown y9 n os
  have z10 := fun (n : Nat) (os : Array Obj) => cell_regrown y10 n os
  have z11 := fun (n : Nat) (os : Array Obj) => cell_regrown y11 n os
  have z12 := fun (n : Nat) (os : Array Obj) => cell_regrown y12 n os
  have z13 := fun (n : Nat) (os : Array Obj) => cell_regrown y13 n os
  have z14 := fun (n : Nat) (os : Array Obj) => cell_regrown y14 n os
  refine wp_region_quiet_below (by kernel_rfl) (by kernel_rfl) ?_
  repeat (first
    | go_big_quiet_step ((first | with_reducible exact quiet_below (hB _) | with_reducible exact quiet_below (hG _) | with_reducible exact quiet_below (hC _)))
    | quiet_step ((first | with_reducible exact quiet_below (hB _) | with_reducible exact quiet_below (hG _) | with_reducible exact quiet_below (hC _))))
  refine wpQuiet_nil ?_
  intro _ hw'
  obtain ⟨⟨d9, os⟩, hw''⟩ := hw'
  subst hw''
  have hbx := below_regrown w1 d9 os
  have k2 := k1.nx hbx
  have hb2 := hb01.trans (hbx.mono hb01.size)
  clear y0 y1 y2 y3 y4 y4' y5 y6 y7 y8 y9 y10 y11 y12 y13 y14 z0 z1 z2 z3 z4 z5 z6 z7 z8 z9 z10 z11 z12 z13 z14 k0 k1 hb0 hb1 hb01 hbx hN hG hB hC hnm
  generalize Go.Sort.grow (redrawn w1 d9) os = w2 at *
  generalize hg0 : w.heap.size = g0 at *
  have HG0 := Lib.hid hg0
  clear hg0
  have hx0 := arr0 BC GC
  have hx1 := arr1 BC GC
  go_wp2_with fail
  go_loopw [4, 17] (fun _ i wr => wr = w2 ∧ (i = .int .i64 0 ∨ (i = .int .i64 1 ∧ Hid (BC = 0)) ∨ (i = .int .i64 2 ∧ Hid (BC = 0) ∧ Hid (GC = 0)))) (fun _ i _ => (2 - intOf i).toNat)
  case atStart => exact ⟨rfl, .inl rfl⟩
  case round =>
    obtain ⟨rfl, hrel⟩ := hrel
    rcases hrel with rfl | ⟨rfl, hB0⟩ | ⟨rfl, hB0, hG0⟩
    · by_cases hB0 : BC = 0
      · have hb : (BC != 0) = false := by simpa using hB0
        have HB := Lib.hid hB0
        clear hB0
        go_wp2_with fail
        exact ⟨⟨trivial, .inr (.inl ⟨rfl, HB⟩)⟩, by simp [intOf]⟩
      · have hb : (BC != 0) = true := by simpa using hB0
        have hcv : Hid (cv = BC) := by show _ = _; rw [← HCV.out, if_pos hB0]
        clear hB0
        go_wp2_with fail
        go_returns
        exact ⟨by rw [hcv.out]; rfl, by rw [HG0.out]; exact hb2⟩
    · by_cases hG0 : GC = 0
      · have hb : (GC != 0) = false := by simpa using hG0
        have HG := Lib.hid hG0
        clear hG0
        go_wp2_with fail
        exact ⟨⟨trivial, .inr (.inr ⟨rfl, hB0, HG⟩)⟩, by simp [intOf]⟩
      · have hb : (GC != 0) = true := by simpa using hG0
        have hcv : Hid (cv = GC) := by show _ = _; rw [← HCV.out, if_neg (by simpa using hB0.out), if_pos hG0]
        clear hG0
        go_wp2_with fail
        go_returns
        exact ⟨by rw [hcv.out]; rfl, by rw [HG0.out]; exact hb2⟩
    · have hCnt := hCnt hB0.out hG0.out
      obtain ⟨y0, y1, y2, y3, -, -, -, -, -, -, -, -, -, -, -⟩ := k2.cellJ
      have hcv0 := HCV.out
      rw [if_neg (by simpa using hB0.out), if_neg (by simpa using hG0.out)] at hcv0
      have HCV := Lib.hid hcv0
      clear hB0 hG0 hcv0
      have k9 := Bk.new wr 23 (bxA4 0 0 0 0)
      have hbA := hb2.alloc (Nat.le_of_lt k2.lt) (.cells (bxA4 0 0 0 0) 23)
      have k2A := k2.alloc (.cells (bxA4 0 0 0 0) 23)
      go_upto_region 10 with (refine stB (ty := 23) (cells := bxA4 j.U0 j.V0 j.U1 j.V1) rfl _ _ rfl k9 rfl rfl box_size39 rfl (by simp [Value.oneCell']) ?_; intro w5 k5 hg5 hs5)
      have hb5 := below_of_gb hbA hg5 (Nat.le_of_lt k2.lt) (by have := hbA.size; rw [HG0.out] at this; exact this)
      have hgz5 : g0 ≤ w5.heap.size := by have := hb5.size; rw [HG0.out] at this; exact this
      have kj := k2A.grown hg5 (fun e => by injection e with e; have := k2.lt; omega)
      generalize wr.heap.size = g5 at *
      clear y0 y1 y2 y3 k9 hbA k2A hg5 hs5 k2 hb2 hx0 hx1
      by_cases hL1 : j.L < 1
      · have hcv : Hid (cv = 11) := by show _ = _; rw [← HCV.out, if_pos (.inl hL1)]
        have hdL : decide (j.L < 1) = true := decide_eq_true hL1
        clear hCnt hFar HP4 HP5
        obtain ⟨-, -, -, -, -, -, -, -, -, -, y10, y11, y12, -, -⟩ := kj.cellJ
        have z10 := fun (n : Nat) (os : Array Obj) => cell_regrown y10 n os
        have z11 := fun (n : Nat) (os : Array Obj) => cell_regrown y11 n os
        have z12 := fun (n : Nat) (os : Array Obj) => cell_regrown y12 n os
        refine wp_region_quiet_below (by kernel_rfl) (by kernel_rfl) ?_
        repeat (first
          | go_big_quiet_step ((fail))
          | quiet_step ((fail)))
        refine wpQuiet_nil ?_
        intro _ hw'
        obtain ⟨⟨d9, os⟩, hw''⟩ := hw'
        subst hw''
        have hbx := hb5.trans ((below_regrown w5 d9 os).mono hgz5)
        generalize Go.Sort.grow (redrawn w5 d9) os = w6 at *
        go_wp2_with fail
        go_returns
        exact ⟨by rw [hcv.out]; rfl, by rw [HG0.out]; exact hbx⟩
      by_cases hL2 : j.L > cnt
      · have hcv : Hid (cv = 11) := by show _ = _; rw [← HCV.out, if_pos (.inr hL2)]
        have hdL : decide (j.L < 1) = false := decide_eq_false hL1
        have hdL2 : decide (j.L > cnt) = true := decide_eq_true hL2
        have hCb := fun w' => (hCnt w').mono (R' := fun e w'' => e = .returned (.int .i64 cnt) ∧ Below w'.heap.size w' w'') fun e w'' ⟨q1, q2⟩ => ⟨q1, q2 ▸ Below.refl _ _⟩
        clear hCnt hFar HP4 HP5
        obtain ⟨-, -, -, -, -, -, -, -, -, -, y10, y11, y12, -, -⟩ := kj.cellJ
        have z10 := fun (n : Nat) (os : Array Obj) => cell_regrown y10 n os
        have z11 := fun (n : Nat) (os : Array Obj) => cell_regrown y11 n os
        have z12 := fun (n : Nat) (os : Array Obj) => cell_regrown y12 n os
        refine wp_region_quiet_below (by kernel_rfl) (by kernel_rfl) ?_
        repeat (first
          | go_big_quiet_step ((with_reducible exact quiet_below (hCb _)))
          | quiet_step ((with_reducible exact quiet_below (hCb _))))
        refine wpQuiet_nil ?_
        intro _ hw'
        obtain ⟨⟨d9, os⟩, hw''⟩ := hw'
        subst hw''
        have hbx := hb5.trans ((below_regrown w5 d9 os).mono hgz5)
        generalize Go.Sort.grow (redrawn w5 d9) os = w6 at *
        go_wp2_with fail
        go_returns
        exact ⟨by rw [hcv.out]; rfl, by rw [HG0.out]; exact hbx⟩
      have hcv0 := HCV.out
      rw [if_neg (by omega)] at hcv0
      have HCV := Lib.hid hcv0
      clear hcv0
      have hdL : decide (j.L < 1) = false := decide_eq_false hL1
      have hdL2 : decide (j.L > cnt) = false := decide_eq_false hL2
      have hCb := fun w' => (hCnt w').mono (R' := fun e w'' => e = .returned (.int .i64 cnt) ∧ Below w'.heap.size w' w'') fun e w'' ⟨q1, q2⟩ => ⟨q1, q2 ▸ Below.refl _ _⟩
      obtain ⟨-, -, -, -, -, -, -, -, -, -, y10, y11, y12, -, -⟩ := kj.cellJ
      obtain ⟨u0, u1, u2, u3⟩ := k5.cell4
      have z10 := fun (n : Nat) (os : Array Obj) => cell_regrown y10 n os
      have z11 := fun (n : Nat) (os : Array Obj) => cell_regrown y11 n os
      have z12 := fun (n : Nat) (os : Array Obj) => cell_regrown y12 n os
      have z0 := fun (n : Nat) (os : Array Obj) => cell_regrown u0 n os
      have z1 := fun (n : Nat) (os : Array Obj) => cell_regrown u1 n os
      have z2 := fun (n : Nat) (os : Array Obj) => cell_regrown u2 n os
      have z3 := fun (n : Nat) (os : Array Obj) => cell_regrown u3 n os
      refine wp_region_quiet_late 22 12 (by kernel_rfl) (by kernel_rfl) ?_
      simp only [List.take_succ_cons, List.take_zero]
      repeat (first
        | go_big_quiet_step ((with_reducible exact quiet_below (hCb _)))
        | quiet_step ((with_reducible exact quiet_below (hCb _))))
      refine wpQuiet_nil ?_
      intro _ hw'
      obtain ⟨⟨d9, os⟩, hw''⟩ := hw'
      subst hw''
      have hbx := below_regrown w5 d9 os
      have k5x := k5.nx hbx
      have kjx := kj.nx hbx
      have hb5x := hb5.trans (hbx.mono hgz5)
      have hgz6 := Nat.le_trans hgz5 hbx.size
      clear y10 y11 y12 u0 u1 u2 u3 z10 z11 z12 z0 z1 z2 z3 k5 kj hb5 hgz5 hbx hCb hCnt hL1 hL2 hdL hdL2
      generalize Go.Sort.grow (redrawn w5 d9) os = w6 at *
      have k5 := k5x
      have kj := kjx
      have hb5 := hb5x
      clear k5x kjx hb5x
      show wpAny _ _ _ _ 17 #[true, true, true, true, true, true, true, true, true, true, true, true, true, true, true, true, true, true, true, true, true, true, false, false, false, false, false, false, false, false, false, false, false, false, false, false, false, false, false] _ _
      refine wpAny_invB (CInv j g0 g5 cnt p3 p4 p5 _ _ _ _ _ _ _ _ _ _ _ _ _ _ _ _ _ _ _ _ _ _ _ _ _ _ _ _ _ _ _ _ _ _ _ _ _ _ _ _ _ w6) (by kernel_rfl) ?r1 (CInv_start j g0 g5 cnt p3 p4 p5 w6) rfl ?r3 ?r4
      case r1 =>
        intro ls A wz hI
        obtain ⟨b22, b23, b24, b25, b26, b27, b28, b29, b30, b31, b32, b33, b34, b35, b36, b37, b38, x48, x49, x50, x51, x52, x53, x54, x55, x56, x57, x58, x59, x60, x61, x62, x63, x64, rfl, rfl, hB, h22, h23, h24, h25, h26, h27, h28, h29, h30, h31, h32, h33, h34, h35, h36, h37, h38⟩ := hI
        rfl
      case r3 =>
        intro ls A wz i o hI ho hls hall
        obtain ⟨b22, b23, b24, b25, b26, b27, b28, b29, b30, b31, b32, b33, b34, b35, b36, b37, b38, x48, x49, x50, x51, x52, x53, x54, x55, x56, x57, x58, x59, x60, x61, x62, x63, x64, rfl, rfl, hB, h22, h23, h24, h25, h26, h27, h28, h29, h30, h31, h32, h33, h34, h35, h36, h37, h38⟩ := hI
        have hbz := hB
        have k5z := k5.nx hB
        have kjz := kj.nx hB
        clear k5 kj
        have k5 := k5z
        have kj := kjz
        clear k5z kjz
        rcases i with _ | i
        · cases hls
        rcases i with _ | i
        · cases hls
        rcases i with _ | i
        · cases hls
        rcases i with _ | i
        · cases hls
        rcases i with _ | i
        · cases hls
        rcases i with _ | i
        · cases hls
        rcases i with _ | i
        · cases hls
        rcases i with _ | i
        · cases hls
        rcases i with _ | i
        · cases hls
        rcases i with _ | i
        · cases hls
        rcases i with _ | i
        · cases hls
        rcases i with _ | i
        · cases hls
        rcases i with _ | i
        · cases hls
        rcases i with _ | i
        · cases hls
        rcases i with _ | i
        · cases hls
        rcases i with _ | i
        · cases hls
        rcases i with _ | i
        · cases hls
        rcases i with _ | i
        · cases hls
        rcases i with _ | i
        · cases hls
        rcases i with _ | i
        · cases hls
        rcases i with _ | i
        · cases hls
        rcases i with _ | i
        · cases hls
        rcases i with _ | i
        · obtain rfl : _ = o := Option.some.inj ho
          obtain rfl : b22 = false := hls
          unfold StepTo
          go_wp2_with fail
          have hkn := Bk.new wz 2 #[.int .i64 j.U0, .int .i64 j.V0, .int .i64 j.U1, .int .i64 j.V1]
          have hRn := Rd.of_own (own_of_Bk (base := 0) hkn 4 rfl (by decide) (Nat.zero_le _))
          exact ⟨true, b23, b24, b25, b26, b27, b28, b29, b30, b31, b32, b33, b34, b35, b36, b37, b38, _, x49, x50, x51, x52, x53, x54, x55, x56, x57, x58, x59, x60, x61, x62, x63, x64, rfl, rfl, (hB.alloc hB.size _), (fun _ => ⟨_, _, rfl, hRn⟩), h23, h24, h25, h26, h27, h28, h29, h30, h31, h32, h33, h34, h35, h36, h37, h38⟩
        rcases i with _ | i
        · obtain rfl : _ = o := Option.some.inj ho
          obtain rfl : b23 = false := hls
          have p22 : b22 = true := hall { on := 22, ground := .data } (by simp) rfl
          unfold StepTo
          obtain ⟨A8, cp8, rfl, hR8⟩ := h22 p22
          subst p22
          go_wp2_with (go_at_call 26; (with_reducible refine (hFar _ _ _ _ hR8).mono ?_); rintro e w9 ⟨rfl, rfl⟩)
          exact ⟨true, true, b24, b25, b26, b27, b28, b29, b30, b31, b32, b33, b34, b35, b36, b37, b38, _, _, x50, x51, x52, x53, x54, x55, x56, x57, x58, x59, x60, x61, x62, x63, x64, rfl, rfl, hB, (fun _ => ⟨_, _, rfl, hR8⟩), (fun _ => rfl), h24, h25, h26, h27, h28, h29, h30, h31, h32, h33, h34, h35, h36, h37, h38⟩
        rcases i with _ | i
        · obtain rfl : _ = o := Option.some.inj ho
          obtain rfl : b24 = false := hls
          have p23 : b23 = true := hall { on := 23, ground := .data } (by simp) rfl
          unfold StepTo
          have e23 : x49 = .bool p3 := h23 p23
          clear h23
          subst e23
          subst p23
          go_wp2_with fail
          exact ⟨b22, true, true, b25, b26, b27, b28, b29, b30, b31, b32, b33, b34, b35, b36, b37, b38, x48, _, _, x51, x52, x53, x54, x55, x56, x57, x58, x59, x60, x61, x62, x63, x64, rfl, rfl, hB, h22, (fun _ => rfl), (fun _ => rfl), h25, h26, h27, h28, h29, h30, h31, h32, h33, h34, h35, h36, h37, h38⟩
        rcases i with _ | i
        · obtain rfl : _ = o := Option.some.inj ho
          obtain rfl : b25 = false := hls
          have p24 : b24 = true := hall { on := 24, ground := .data } (by simp) rfl
          unfold StepTo
          have e24 : x50 = .bool p3 := h24 p24
          clear h24
          subst e24
          subst p24
          go_wp2_with fail
          exact ⟨b22, b23, true, true, b26, b27, b28, b29, b30, b31, b32, b33, b34, b35, b36, b37, b38, x48, x49, _, _, x52, x53, x54, x55, x56, x57, x58, x59, x60, x61, x62, x63, x64, rfl, rfl, hB, h22, h23, (fun _ => rfl), (fun _ => rfl), h26, h27, h28, h29, h30, h31, h32, h33, h34, h35, h36, h37, h38⟩
        rcases i with _ | i
        · obtain rfl : _ = o := Option.some.inj ho
          obtain rfl : b26 = false := hls
          have p25 : b25 = true := hall { on := 25, ground := .guard } (by simp) rfl
          unfold StepTo
          cases p3
          ·
            have e25 : x51 = .bool false := h25 p25
            clear h25
            subst e25
            subst p25
            go_wp2_with fail
            exact ⟨b22, b23, b24, true, true, b27, b28, b29, b30, b31, b32, b33, b34, b35, b36, b37, b38, x48, x49, x50, _, _, x53, x54, x55, x56, x57, x58, x59, x60, x61, x62, x63, x64, rfl, rfl, hB, h22, h23, h24, (fun _ => rfl), (fun _ => rfl), h27, h28, h29, h30, h31, h32, h33, h34, h35, h36, h37, h38⟩
          ·
            have e25 : x51 = .bool true := h25 p25
            clear h25
            subst e25
            subst p25
            go_wp2_with fail
            exact ⟨b22, b23, b24, true, true, b27, b28, b29, b30, b31, b32, b33, b34, b35, b36, b37, b38, x48, x49, x50, _, _, x53, x54, x55, x56, x57, x58, x59, x60, x61, x62, x63, x64, rfl, rfl, hB, h22, h23, h24, (fun _ => rfl), (fun _ => rfl), h27, h28, h29, h30, h31, h32, h33, h34, h35, h36, h37, h38⟩
        rcases i with _ | i
        · obtain rfl : _ = o := Option.some.inj ho
          obtain rfl : b27 = false := hls
          have p25 : b25 = true := hall { on := 25, ground := .guard } (by simp) rfl
          have p26 : b26 = true := hall { on := 26, ground := .data } (by simp) rfl
          unfold StepTo
          cases p3
          ·
            have e25 : x51 = .bool false := h25 p25
            clear h25
            subst e25
            have e26 : x52 = .pointer (some ⟨g5, 0, none⟩) := h26 p26
            clear h26
            subst e26
            subst p25
            subst p26
            obtain ⟨u0, u1, u2, u3⟩ := k5.cell4
            go_wp2_with fail
            exact ⟨b22, b23, b24, true, true, true, b28, b29, b30, b31, b32, b33, b34, b35, b36, b37, b38, x48, x49, x50, _, _, _, x54, x55, x56, x57, x58, x59, x60, x61, x62, x63, x64, rfl, rfl, hB, h22, h23, h24, (fun _ => rfl), (fun _ => rfl), (fun _ => rfl), h28, h29, h30, h31, h32, h33, h34, h35, h36, h37, h38⟩
          ·
            have e25 : x51 = .bool true := h25 p25
            clear h25
            subst e25
            have e26 : x52 = undef := h26 p26
            clear h26
            subst e26
            subst p25
            subst p26
            obtain ⟨u0, u1, u2, u3⟩ := k5.cell4
            go_wp2_with fail
            exact ⟨b22, b23, b24, true, true, true, b28, b29, b30, b31, b32, b33, b34, b35, b36, b37, b38, x48, x49, x50, _, _, _, x54, x55, x56, x57, x58, x59, x60, x61, x62, x63, x64, rfl, rfl, hB, h22, h23, h24, (fun _ => rfl), (fun _ => rfl), (fun _ => rfl), h28, h29, h30, h31, h32, h33, h34, h35, h36, h37, h38⟩
        rcases i with _ | i
        · obtain rfl : _ = o := Option.some.inj ho
          obtain rfl : b28 = false := hls
          have p25 : b25 = true := hall { on := 25, ground := .guard } (by simp) rfl
          unfold StepTo
          cases p3
          ·
            have e25 : x51 = .bool false := h25 p25
            clear h25
            subst e25
            subst p25
            go_wp2_with fail
            exact ⟨b22, b23, b24, true, b26, b27, true, b29, b30, b31, b32, b33, b34, b35, b36, b37, b38, x48, x49, x50, _, x52, x53, _, x55, x56, x57, x58, x59, x60, x61, x62, x63, x64, rfl, rfl, hB, h22, h23, h24, (fun _ => rfl), h26, h27, (fun _ => rfl), h29, h30, h31, h32, h33, h34, h35, h36, h37, h38⟩
          ·
            have e25 : x51 = .bool true := h25 p25
            clear h25
            subst e25
            subst p25
            go_wp2_with fail
            exact ⟨b22, b23, b24, true, b26, b27, true, b29, b30, b31, b32, b33, b34, b35, b36, b37, b38, x48, x49, x50, _, x52, x53, _, x55, x56, x57, x58, x59, x60, x61, x62, x63, x64, rfl, rfl, hB, h22, h23, h24, (fun _ => rfl), h26, h27, (fun _ => rfl), h29, h30, h31, h32, h33, h34, h35, h36, h37, h38⟩
        rcases i with _ | i
        · obtain rfl : _ = o := Option.some.inj ho
          obtain rfl : b29 = false := hls
          have p25 : b25 = true := hall { on := 25, ground := .guard } (by simp) rfl
          have p28 : b28 = true := hall { on := 28, ground := .data } (by simp) rfl
          unfold StepTo
          cases p3
          ·
            have e25 : x51 = .bool false := h25 p25
            clear h25
            subst e25
            have e28 : x54 = .pointer (some ⟨g5, 2, none⟩) := h28 p28
            clear h28
            subst e28
            subst p25
            subst p28
            obtain ⟨u0, u1, u2, u3⟩ := k5.cell4
            go_wp2_with fail
            exact ⟨b22, b23, b24, true, b26, b27, true, true, b30, b31, b32, b33, b34, b35, b36, b37, b38, x48, x49, x50, _, x52, x53, _, _, x56, x57, x58, x59, x60, x61, x62, x63, x64, rfl, rfl, hB, h22, h23, h24, (fun _ => rfl), h26, h27, (fun _ => rfl), (fun _ => rfl), h30, h31, h32, h33, h34, h35, h36, h37, h38⟩
          ·
            have e25 : x51 = .bool true := h25 p25
            clear h25
            subst e25
            have e28 : x54 = undef := h28 p28
            clear h28
            subst e28
            subst p25
            subst p28
            obtain ⟨u0, u1, u2, u3⟩ := k5.cell4
            go_wp2_with fail
            exact ⟨b22, b23, b24, true, b26, b27, true, true, b30, b31, b32, b33, b34, b35, b36, b37, b38, x48, x49, x50, _, x52, x53, _, _, x56, x57, x58, x59, x60, x61, x62, x63, x64, rfl, rfl, hB, h22, h23, h24, (fun _ => rfl), h26, h27, (fun _ => rfl), (fun _ => rfl), h30, h31, h32, h33, h34, h35, h36, h37, h38⟩
        rcases i with _ | i
        · obtain rfl : _ = o := Option.some.inj ho
          obtain rfl : b30 = false := hls
          have p25 : b25 = true := hall { on := 25, ground := .guard } (by simp) rfl
          have p27 : b27 = true := hall { on := 27, ground := .data } (by simp) rfl
          have p29 : b29 = true := hall { on := 29, ground := .data } (by simp) rfl
          unfold StepTo
          cases p3
          ·
            have e25 : x51 = .bool false := h25 p25
            clear h25
            subst e25
            have e27 : x53 = .int .i64 j.U0 := h27 p27
            clear h27
            subst e27
            have e29 : x55 = .int .i64 j.U1 := h29 p29
            clear h29
            subst e29
            subst p25
            subst p27
            subst p29
            have y := HP4.out
            go_wp2_with fail
            exact ⟨b22, b23, b24, true, b26, true, b28, true, true, b31, b32, b33, b34, b35, b36, b37, b38, x48, x49, x50, _, x52, _, x54, _, _, x57, x58, x59, x60, x61, x62, x63, x64, rfl, rfl, hB, h22, h23, h24, (fun _ => rfl), h26, (fun _ => rfl), h28, (fun _ => rfl), (fun _ => rfl), h31, h32, h33, h34, h35, h36, h37, h38⟩
          ·
            have e25 : x51 = .bool true := h25 p25
            clear h25
            subst e25
            have e27 : x53 = undef := h27 p27
            clear h27
            subst e27
            have e29 : x55 = undef := h29 p29
            clear h29
            subst e29
            subst p25
            subst p27
            subst p29
            have y := HP4.out
            go_wp2_with fail
            exact ⟨b22, b23, b24, true, b26, true, b28, true, true, b31, b32, b33, b34, b35, b36, b37, b38, x48, x49, x50, _, x52, _, x54, _, _, x57, x58, x59, x60, x61, x62, x63, x64, rfl, rfl, hB, h22, h23, h24, (fun _ => rfl), h26, (fun _ => rfl), h28, (fun _ => rfl), (fun _ => rfl), h31, h32, h33, h34, h35, h36, h37, h38⟩
        rcases i with _ | i
        · obtain rfl : _ = o := Option.some.inj ho
          obtain rfl : b31 = false := hls
          have p25 : b25 = true := hall { on := 25, ground := .data } (by simp) rfl
          have p30 : b30 = true := hall { on := 30, ground := .data } (by simp) rfl
          unfold StepTo
          cases p3
          · cases p4
            ·
              have e25 : x51 = .bool false := h25 p25
              clear h25
              subst e25
              have e30 : x56 = .bool false := h30 p30
              clear h30
              subst e30
              subst p25
              subst p30
              go_wp2_with fail
              exact ⟨b22, b23, b24, true, b26, b27, b28, b29, true, true, b32, b33, b34, b35, b36, b37, b38, x48, x49, x50, _, x52, x53, x54, x55, _, _, x58, x59, x60, x61, x62, x63, x64, rfl, rfl, hB, h22, h23, h24, (fun _ => rfl), h26, h27, h28, h29, (fun _ => rfl), (fun _ => rfl), h32, h33, h34, h35, h36, h37, h38⟩
            ·
              have e25 : x51 = .bool false := h25 p25
              clear h25
              subst e25
              have e30 : x56 = .bool true := h30 p30
              clear h30
              subst e30
              subst p25
              subst p30
              go_wp2_with fail
              exact ⟨b22, b23, b24, true, b26, b27, b28, b29, true, true, b32, b33, b34, b35, b36, b37, b38, x48, x49, x50, _, x52, x53, x54, x55, _, _, x58, x59, x60, x61, x62, x63, x64, rfl, rfl, hB, h22, h23, h24, (fun _ => rfl), h26, h27, h28, h29, (fun _ => rfl), (fun _ => rfl), h32, h33, h34, h35, h36, h37, h38⟩
          · cases p4
            ·
              have e25 : x51 = .bool true := h25 p25
              clear h25
              subst e25
              have e30 : x56 = undef := h30 p30
              clear h30
              subst e30
              subst p25
              subst p30
              go_wp2_with fail
              exact ⟨b22, b23, b24, true, b26, b27, b28, b29, true, true, b32, b33, b34, b35, b36, b37, b38, x48, x49, x50, _, x52, x53, x54, x55, _, _, x58, x59, x60, x61, x62, x63, x64, rfl, rfl, hB, h22, h23, h24, (fun _ => rfl), h26, h27, h28, h29, (fun _ => rfl), (fun _ => rfl), h32, h33, h34, h35, h36, h37, h38⟩
            ·
              have e25 : x51 = .bool true := h25 p25
              clear h25
              subst e25
              have e30 : x56 = undef := h30 p30
              clear h30
              subst e30
              subst p25
              subst p30
              go_wp2_with fail
              exact ⟨b22, b23, b24, true, b26, b27, b28, b29, true, true, b32, b33, b34, b35, b36, b37, b38, x48, x49, x50, _, x52, x53, x54, x55, _, _, x58, x59, x60, x61, x62, x63, x64, rfl, rfl, hB, h22, h23, h24, (fun _ => rfl), h26, h27, h28, h29, (fun _ => rfl), (fun _ => rfl), h32, h33, h34, h35, h36, h37, h38⟩
        rcases i with _ | i
        · obtain rfl : _ = o := Option.some.inj ho
          obtain rfl : b32 = false := hls
          have p31 : b31 = true := hall { on := 31, ground := .data } (by simp) rfl
          unfold StepTo
          cases p3
          · cases p4
            ·
              have e31 : x57 = .bool false := h31 p31
              clear h31
              subst e31
              subst p31
              go_wp2_with fail
              exact ⟨b22, b23, b24, b25, b26, b27, b28, b29, b30, true, true, b33, b34, b35, b36, b37, b38, x48, x49, x50, x51, x52, x53, x54, x55, x56, _, _, x59, x60, x61, x62, x63, x64, rfl, rfl, hB, h22, h23, h24, h25, h26, h27, h28, h29, h30, (fun _ => rfl), (fun _ => rfl), h33, h34, h35, h36, h37, h38⟩
            ·
              have e31 : x57 = .bool true := h31 p31
              clear h31
              subst e31
              subst p31
              go_wp2_with fail
              exact ⟨b22, b23, b24, b25, b26, b27, b28, b29, b30, true, true, b33, b34, b35, b36, b37, b38, x48, x49, x50, x51, x52, x53, x54, x55, x56, _, _, x59, x60, x61, x62, x63, x64, rfl, rfl, hB, h22, h23, h24, h25, h26, h27, h28, h29, h30, (fun _ => rfl), (fun _ => rfl), h33, h34, h35, h36, h37, h38⟩
          · cases p4
            ·
              have e31 : x57 = .bool true := h31 p31
              clear h31
              subst e31
              subst p31
              go_wp2_with fail
              exact ⟨b22, b23, b24, b25, b26, b27, b28, b29, b30, true, true, b33, b34, b35, b36, b37, b38, x48, x49, x50, x51, x52, x53, x54, x55, x56, _, _, x59, x60, x61, x62, x63, x64, rfl, rfl, hB, h22, h23, h24, h25, h26, h27, h28, h29, h30, (fun _ => rfl), (fun _ => rfl), h33, h34, h35, h36, h37, h38⟩
            ·
              have e31 : x57 = .bool true := h31 p31
              clear h31
              subst e31
              subst p31
              go_wp2_with fail
              exact ⟨b22, b23, b24, b25, b26, b27, b28, b29, b30, true, true, b33, b34, b35, b36, b37, b38, x48, x49, x50, x51, x52, x53, x54, x55, x56, _, _, x59, x60, x61, x62, x63, x64, rfl, rfl, hB, h22, h23, h24, h25, h26, h27, h28, h29, h30, (fun _ => rfl), (fun _ => rfl), h33, h34, h35, h36, h37, h38⟩
        rcases i with _ | i
        · obtain rfl : _ = o := Option.some.inj ho
          obtain rfl : b33 = false := hls
          have p32 : b32 = true := hall { on := 32, ground := .guard } (by simp) rfl
          unfold StepTo
          cases p3
          · cases p4
            ·
              have e32 : x58 = .bool false := h32 p32
              clear h32
              subst e32
              subst p32
              go_wp2_with fail
              exact ⟨b22, b23, b24, b25, b26, b27, b28, b29, b30, b31, true, true, b34, b35, b36, b37, b38, x48, x49, x50, x51, x52, x53, x54, x55, x56, x57, _, _, x60, x61, x62, x63, x64, rfl, rfl, hB, h22, h23, h24, h25, h26, h27, h28, h29, h30, h31, (fun _ => rfl), (fun _ => rfl), h34, h35, h36, h37, h38⟩
            ·
              have e32 : x58 = .bool true := h32 p32
              clear h32
              subst e32
              subst p32
              go_wp2_with fail
              exact ⟨b22, b23, b24, b25, b26, b27, b28, b29, b30, b31, true, true, b34, b35, b36, b37, b38, x48, x49, x50, x51, x52, x53, x54, x55, x56, x57, _, _, x60, x61, x62, x63, x64, rfl, rfl, hB, h22, h23, h24, h25, h26, h27, h28, h29, h30, h31, (fun _ => rfl), (fun _ => rfl), h34, h35, h36, h37, h38⟩
          · cases p4
            ·
              have e32 : x58 = .bool true := h32 p32
              clear h32
              subst e32
              subst p32
              go_wp2_with fail
              exact ⟨b22, b23, b24, b25, b26, b27, b28, b29, b30, b31, true, true, b34, b35, b36, b37, b38, x48, x49, x50, x51, x52, x53, x54, x55, x56, x57, _, _, x60, x61, x62, x63, x64, rfl, rfl, hB, h22, h23, h24, h25, h26, h27, h28, h29, h30, h31, (fun _ => rfl), (fun _ => rfl), h34, h35, h36, h37, h38⟩
            ·
              have e32 : x58 = .bool true := h32 p32
              clear h32
              subst e32
              subst p32
              go_wp2_with fail
              exact ⟨b22, b23, b24, b25, b26, b27, b28, b29, b30, b31, true, true, b34, b35, b36, b37, b38, x48, x49, x50, x51, x52, x53, x54, x55, x56, x57, _, _, x60, x61, x62, x63, x64, rfl, rfl, hB, h22, h23, h24, h25, h26, h27, h28, h29, h30, h31, (fun _ => rfl), (fun _ => rfl), h34, h35, h36, h37, h38⟩
        rcases i with _ | i
        · obtain rfl : _ = o := Option.some.inj ho
          obtain rfl : b34 = false := hls
          have p32 : b32 = true := hall { on := 32, ground := .guard } (by simp) rfl
          have p33 : b33 = true := hall { on := 33, ground := .data } (by simp) rfl
          unfold StepTo
          cases p3
          · cases p4
            ·
              have e32 : x58 = .bool false := h32 p32
              clear h32
              subst e32
              have e33 : x59 = .pointer (some ⟨g5, 1, none⟩) := h33 p33
              clear h33
              subst e33
              subst p32
              subst p33
              obtain ⟨u0, u1, u2, u3⟩ := k5.cell4
              go_wp2_with fail
              exact ⟨b22, b23, b24, b25, b26, b27, b28, b29, b30, b31, true, true, true, b35, b36, b37, b38, x48, x49, x50, x51, x52, x53, x54, x55, x56, x57, _, _, _, x61, x62, x63, x64, rfl, rfl, hB, h22, h23, h24, h25, h26, h27, h28, h29, h30, h31, (fun _ => rfl), (fun _ => rfl), (fun _ => rfl), h35, h36, h37, h38⟩
            ·
              have e32 : x58 = .bool true := h32 p32
              clear h32
              subst e32
              have e33 : x59 = undef := h33 p33
              clear h33
              subst e33
              subst p32
              subst p33
              obtain ⟨u0, u1, u2, u3⟩ := k5.cell4
              go_wp2_with fail
              exact ⟨b22, b23, b24, b25, b26, b27, b28, b29, b30, b31, true, true, true, b35, b36, b37, b38, x48, x49, x50, x51, x52, x53, x54, x55, x56, x57, _, _, _, x61, x62, x63, x64, rfl, rfl, hB, h22, h23, h24, h25, h26, h27, h28, h29, h30, h31, (fun _ => rfl), (fun _ => rfl), (fun _ => rfl), h35, h36, h37, h38⟩
          · cases p4
            ·
              have e32 : x58 = .bool true := h32 p32
              clear h32
              subst e32
              have e33 : x59 = undef := h33 p33
              clear h33
              subst e33
              subst p32
              subst p33
              obtain ⟨u0, u1, u2, u3⟩ := k5.cell4
              go_wp2_with fail
              exact ⟨b22, b23, b24, b25, b26, b27, b28, b29, b30, b31, true, true, true, b35, b36, b37, b38, x48, x49, x50, x51, x52, x53, x54, x55, x56, x57, _, _, _, x61, x62, x63, x64, rfl, rfl, hB, h22, h23, h24, h25, h26, h27, h28, h29, h30, h31, (fun _ => rfl), (fun _ => rfl), (fun _ => rfl), h35, h36, h37, h38⟩
            ·
              have e32 : x58 = .bool true := h32 p32
              clear h32
              subst e32
              have e33 : x59 = undef := h33 p33
              clear h33
              subst e33
              subst p32
              subst p33
              obtain ⟨u0, u1, u2, u3⟩ := k5.cell4
              go_wp2_with fail
              exact ⟨b22, b23, b24, b25, b26, b27, b28, b29, b30, b31, true, true, true, b35, b36, b37, b38, x48, x49, x50, x51, x52, x53, x54, x55, x56, x57, _, _, _, x61, x62, x63, x64, rfl, rfl, hB, h22, h23, h24, h25, h26, h27, h28, h29, h30, h31, (fun _ => rfl), (fun _ => rfl), (fun _ => rfl), h35, h36, h37, h38⟩
        rcases i with _ | i
        · obtain rfl : _ = o := Option.some.inj ho
          obtain rfl : b35 = false := hls
          have p32 : b32 = true := hall { on := 32, ground := .guard } (by simp) rfl
          unfold StepTo
          cases p3
          · cases p4
            ·
              have e32 : x58 = .bool false := h32 p32
              clear h32
              subst e32
              subst p32
              go_wp2_with fail
              exact ⟨b22, b23, b24, b25, b26, b27, b28, b29, b30, b31, true, b33, b34, true, b36, b37, b38, x48, x49, x50, x51, x52, x53, x54, x55, x56, x57, _, x59, x60, _, x62, x63, x64, rfl, rfl, hB, h22, h23, h24, h25, h26, h27, h28, h29, h30, h31, (fun _ => rfl), h33, h34, (fun _ => rfl), h36, h37, h38⟩
            ·
              have e32 : x58 = .bool true := h32 p32
              clear h32
              subst e32
              subst p32
              go_wp2_with fail
              exact ⟨b22, b23, b24, b25, b26, b27, b28, b29, b30, b31, true, b33, b34, true, b36, b37, b38, x48, x49, x50, x51, x52, x53, x54, x55, x56, x57, _, x59, x60, _, x62, x63, x64, rfl, rfl, hB, h22, h23, h24, h25, h26, h27, h28, h29, h30, h31, (fun _ => rfl), h33, h34, (fun _ => rfl), h36, h37, h38⟩
          · cases p4
            ·
              have e32 : x58 = .bool true := h32 p32
              clear h32
              subst e32
              subst p32
              go_wp2_with fail
              exact ⟨b22, b23, b24, b25, b26, b27, b28, b29, b30, b31, true, b33, b34, true, b36, b37, b38, x48, x49, x50, x51, x52, x53, x54, x55, x56, x57, _, x59, x60, _, x62, x63, x64, rfl, rfl, hB, h22, h23, h24, h25, h26, h27, h28, h29, h30, h31, (fun _ => rfl), h33, h34, (fun _ => rfl), h36, h37, h38⟩
            ·
              have e32 : x58 = .bool true := h32 p32
              clear h32
              subst e32
              subst p32
              go_wp2_with fail
              exact ⟨b22, b23, b24, b25, b26, b27, b28, b29, b30, b31, true, b33, b34, true, b36, b37, b38, x48, x49, x50, x51, x52, x53, x54, x55, x56, x57, _, x59, x60, _, x62, x63, x64, rfl, rfl, hB, h22, h23, h24, h25, h26, h27, h28, h29, h30, h31, (fun _ => rfl), h33, h34, (fun _ => rfl), h36, h37, h38⟩
        rcases i with _ | i
        · obtain rfl : _ = o := Option.some.inj ho
          obtain rfl : b36 = false := hls
          have p32 : b32 = true := hall { on := 32, ground := .guard } (by simp) rfl
          have p35 : b35 = true := hall { on := 35, ground := .data } (by simp) rfl
          unfold StepTo
          cases p3
          · cases p4
            ·
              have e32 : x58 = .bool false := h32 p32
              clear h32
              subst e32
              have e35 : x61 = .pointer (some ⟨g5, 3, none⟩) := h35 p35
              clear h35
              subst e35
              subst p32
              subst p35
              obtain ⟨u0, u1, u2, u3⟩ := k5.cell4
              go_wp2_with fail
              exact ⟨b22, b23, b24, b25, b26, b27, b28, b29, b30, b31, true, b33, b34, true, true, b37, b38, x48, x49, x50, x51, x52, x53, x54, x55, x56, x57, _, x59, x60, _, _, x63, x64, rfl, rfl, hB, h22, h23, h24, h25, h26, h27, h28, h29, h30, h31, (fun _ => rfl), h33, h34, (fun _ => rfl), (fun _ => rfl), h37, h38⟩
            ·
              have e32 : x58 = .bool true := h32 p32
              clear h32
              subst e32
              have e35 : x61 = undef := h35 p35
              clear h35
              subst e35
              subst p32
              subst p35
              obtain ⟨u0, u1, u2, u3⟩ := k5.cell4
              go_wp2_with fail
              exact ⟨b22, b23, b24, b25, b26, b27, b28, b29, b30, b31, true, b33, b34, true, true, b37, b38, x48, x49, x50, x51, x52, x53, x54, x55, x56, x57, _, x59, x60, _, _, x63, x64, rfl, rfl, hB, h22, h23, h24, h25, h26, h27, h28, h29, h30, h31, (fun _ => rfl), h33, h34, (fun _ => rfl), (fun _ => rfl), h37, h38⟩
          · cases p4
            ·
              have e32 : x58 = .bool true := h32 p32
              clear h32
              subst e32
              have e35 : x61 = undef := h35 p35
              clear h35
              subst e35
              subst p32
              subst p35
              obtain ⟨u0, u1, u2, u3⟩ := k5.cell4
              go_wp2_with fail
              exact ⟨b22, b23, b24, b25, b26, b27, b28, b29, b30, b31, true, b33, b34, true, true, b37, b38, x48, x49, x50, x51, x52, x53, x54, x55, x56, x57, _, x59, x60, _, _, x63, x64, rfl, rfl, hB, h22, h23, h24, h25, h26, h27, h28, h29, h30, h31, (fun _ => rfl), h33, h34, (fun _ => rfl), (fun _ => rfl), h37, h38⟩
            ·
              have e32 : x58 = .bool true := h32 p32
              clear h32
              subst e32
              have e35 : x61 = undef := h35 p35
              clear h35
              subst e35
              subst p32
              subst p35
              obtain ⟨u0, u1, u2, u3⟩ := k5.cell4
              go_wp2_with fail
              exact ⟨b22, b23, b24, b25, b26, b27, b28, b29, b30, b31, true, b33, b34, true, true, b37, b38, x48, x49, x50, x51, x52, x53, x54, x55, x56, x57, _, x59, x60, _, _, x63, x64, rfl, rfl, hB, h22, h23, h24, h25, h26, h27, h28, h29, h30, h31, (fun _ => rfl), h33, h34, (fun _ => rfl), (fun _ => rfl), h37, h38⟩
        rcases i with _ | i
        · obtain rfl : _ = o := Option.some.inj ho
          obtain rfl : b37 = false := hls
          have p32 : b32 = true := hall { on := 32, ground := .guard } (by simp) rfl
          have p34 : b34 = true := hall { on := 34, ground := .data } (by simp) rfl
          have p36 : b36 = true := hall { on := 36, ground := .data } (by simp) rfl
          unfold StepTo
          cases p3
          · cases p4
            ·
              have e32 : x58 = .bool false := h32 p32
              clear h32
              subst e32
              have e34 : x60 = .int .i64 j.V0 := h34 p34
              clear h34
              subst e34
              have e36 : x62 = .int .i64 j.V1 := h36 p36
              clear h36
              subst e36
              subst p32
              subst p34
              subst p36
              have y := HP5.out
              go_wp2_with fail
              exact ⟨b22, b23, b24, b25, b26, b27, b28, b29, b30, b31, true, b33, true, b35, true, true, b38, x48, x49, x50, x51, x52, x53, x54, x55, x56, x57, _, x59, _, x61, _, _, x64, rfl, rfl, hB, h22, h23, h24, h25, h26, h27, h28, h29, h30, h31, (fun _ => rfl), h33, (fun _ => rfl), h35, (fun _ => rfl), (fun _ => rfl), h38⟩
            ·
              have e32 : x58 = .bool true := h32 p32
              clear h32
              subst e32
              have e34 : x60 = undef := h34 p34
              clear h34
              subst e34
              have e36 : x62 = undef := h36 p36
              clear h36
              subst e36
              subst p32
              subst p34
              subst p36
              have y := HP5.out
              go_wp2_with fail
              exact ⟨b22, b23, b24, b25, b26, b27, b28, b29, b30, b31, true, b33, true, b35, true, true, b38, x48, x49, x50, x51, x52, x53, x54, x55, x56, x57, _, x59, _, x61, _, _, x64, rfl, rfl, hB, h22, h23, h24, h25, h26, h27, h28, h29, h30, h31, (fun _ => rfl), h33, (fun _ => rfl), h35, (fun _ => rfl), (fun _ => rfl), h38⟩
          · cases p4
            ·
              have e32 : x58 = .bool true := h32 p32
              clear h32
              subst e32
              have e34 : x60 = undef := h34 p34
              clear h34
              subst e34
              have e36 : x62 = undef := h36 p36
              clear h36
              subst e36
              subst p32
              subst p34
              subst p36
              have y := HP5.out
              go_wp2_with fail
              exact ⟨b22, b23, b24, b25, b26, b27, b28, b29, b30, b31, true, b33, true, b35, true, true, b38, x48, x49, x50, x51, x52, x53, x54, x55, x56, x57, _, x59, _, x61, _, _, x64, rfl, rfl, hB, h22, h23, h24, h25, h26, h27, h28, h29, h30, h31, (fun _ => rfl), h33, (fun _ => rfl), h35, (fun _ => rfl), (fun _ => rfl), h38⟩
            ·
              have e32 : x58 = .bool true := h32 p32
              clear h32
              subst e32
              have e34 : x60 = undef := h34 p34
              clear h34
              subst e34
              have e36 : x62 = undef := h36 p36
              clear h36
              subst e36
              subst p32
              subst p34
              subst p36
              have y := HP5.out
              go_wp2_with fail
              exact ⟨b22, b23, b24, b25, b26, b27, b28, b29, b30, b31, true, b33, true, b35, true, true, b38, x48, x49, x50, x51, x52, x53, x54, x55, x56, x57, _, x59, _, x61, _, _, x64, rfl, rfl, hB, h22, h23, h24, h25, h26, h27, h28, h29, h30, h31, (fun _ => rfl), h33, (fun _ => rfl), h35, (fun _ => rfl), (fun _ => rfl), h38⟩
        rcases i with _ | i
        · obtain rfl : _ = o := Option.some.inj ho
          obtain rfl : b38 = false := hls
          have p32 : b32 = true := hall { on := 32, ground := .data } (by simp) rfl
          have p37 : b37 = true := hall { on := 37, ground := .data } (by simp) rfl
          unfold StepTo
          cases p3
          · cases p4
            ·
              have e32 : x58 = .bool false := h32 p32
              clear h32
              subst e32
              have e37 : x63 = .bool p5 := h37 p37
              clear h37
              subst e37
              subst p32
              subst p37
              go_wp2_with fail
              exact ⟨b22, b23, b24, b25, b26, b27, b28, b29, b30, b31, true, b33, b34, b35, b36, true, true, x48, x49, x50, x51, x52, x53, x54, x55, x56, x57, _, x59, x60, x61, x62, _, _, rfl, rfl, hB, h22, h23, h24, h25, h26, h27, h28, h29, h30, h31, (fun _ => rfl), h33, h34, h35, h36, (fun _ => rfl), (fun _ => rfl)⟩
            ·
              have e32 : x58 = .bool true := h32 p32
              clear h32
              subst e32
              have e37 : x63 = undef := h37 p37
              clear h37
              subst e37
              subst p32
              subst p37
              go_wp2_with fail
              exact ⟨b22, b23, b24, b25, b26, b27, b28, b29, b30, b31, true, b33, b34, b35, b36, true, true, x48, x49, x50, x51, x52, x53, x54, x55, x56, x57, _, x59, x60, x61, x62, _, _, rfl, rfl, hB, h22, h23, h24, h25, h26, h27, h28, h29, h30, h31, (fun _ => rfl), h33, h34, h35, h36, (fun _ => rfl), (fun _ => rfl)⟩
          · cases p4
            ·
              have e32 : x58 = .bool true := h32 p32
              clear h32
              subst e32
              have e37 : x63 = undef := h37 p37
              clear h37
              subst e37
              subst p32
              subst p37
              go_wp2_with fail
              exact ⟨b22, b23, b24, b25, b26, b27, b28, b29, b30, b31, true, b33, b34, b35, b36, true, true, x48, x49, x50, x51, x52, x53, x54, x55, x56, x57, _, x59, x60, x61, x62, _, _, rfl, rfl, hB, h22, h23, h24, h25, h26, h27, h28, h29, h30, h31, (fun _ => rfl), h33, h34, h35, h36, (fun _ => rfl), (fun _ => rfl)⟩
            ·
              have e32 : x58 = .bool true := h32 p32
              clear h32
              subst e32
              have e37 : x63 = undef := h37 p37
              clear h37
              subst e37
              subst p32
              subst p37
              go_wp2_with fail
              exact ⟨b22, b23, b24, b25, b26, b27, b28, b29, b30, b31, true, b33, b34, b35, b36, true, true, x48, x49, x50, x51, x52, x53, x54, x55, x56, x57, _, x59, x60, x61, x62, _, _, rfl, rfl, hB, h22, h23, h24, h25, h26, h27, h28, h29, h30, h31, (fun _ => rfl), h33, h34, h35, h36, (fun _ => rfl), (fun _ => rfl)⟩
        cases ho
      case r4 =>
        intro ls A wz hI hall
        obtain ⟨b22, b23, b24, b25, b26, b27, b28, b29, b30, b31, b32, b33, b34, b35, b36, b37, b38, x48, x49, x50, x51, x52, x53, x54, x55, x56, x57, x58, x59, x60, x61, x62, x63, x64, rfl, rfl, hB, h22, h23, h24, h25, h26, h27, h28, h29, h30, h31, h32, h33, h34, h35, h36, h37, h38⟩ := hI
        have p38 : b38 = true := hall 38 (by decide)
        obtain rfl := h38 p38
        have hbz := hb5.trans (hB.mono hgz6)
        clear h22 h23 h24 h25 h26 h27 h28 h29 h30 h31 h32 h33 h34 h35 h36 h37
        cases hp : (p3 || p4 || p5)
        · have hcv : Hid (cv = 0) := by show _ = _; rw [← HCV.out, hp]; rfl
          go_wp2_with fail
          go_returns
          exact ⟨by rw [hcv.out]; rfl, by rw [HG0.out]; exact hbz⟩
        · have hcv : Hid (cv = 11) := by show _ = _; rw [← HCV.out, hp]; rfl
          go_wp2_with fail
          go_returns
          exact ⟨by rw [hcv.out]; rfl, by rw [HG0.out]; exact hbz⟩
end Go.Proofs.YtibmhabipghjlaaGreat
end
section
set_option linter.unusedVariables false
namespace Go.Proofs.YtibmhabipghjlaaGreat
open Go.RowKit
theorem hitB_false {cs : List Rn} {a b : Int} (h : ¬ hitC cs a b) : hitB cs a b = false := by
  cases hb : hitB cs a b with
  | false => rfl
  | true => exact absurd ((hitB_iff cs a b).1 hb) h
/-- Marks of the first n columns. -/
def Marks (bs : List Bool) (cs : List Rn) : Prop := ∀ k (h : k < bs.length), bs[k] = true ↔ MemR cs (k : Int)
set_option maxHeartbeats 4000000 in
theorem rany39 (bs : List Bool) (cs : List Rn) (hm : Marks bs cs) (A : Option Addr) (n cp : Nat) (a b : Int) (w : World) {B : Nat} (hn : bs.length = n) (hsm : n ≤ 1000000) (hr : Rd w B A (bs.map Value.bool)) (ha : 0 ≤ a) (hb : b ≤ n) :
    Calls Tryz.prog 32 #[.slice A n cp, .int .i64 a, .int .i64 b] w fun e w' => e = .returned (.bool (hitB cs a b)) ∧ w = w' := by
  have HM := Lib.hid hm
  obtain ⟨hv, hh⟩ : ∃ hv, hitB cs a b = hv := ⟨_, rfl⟩
  rw [hh]
  have HH := Lib.hid hh
  have hbn : b ≤ 1000000 := by omega
  clear hm hh
  go_enter Tryz.func32, Tryz.ntmps32
  go_wp2_with fail
  go_loopw [7] (fun i wr => ∃ k : Int, a ≤ k ∧ i = .int .i64 k ∧ w = wr ∧ ∀ x, a ≤ x → x < k → ¬ MemR cs x) (fun i _ => (b - intOf i).toNat)
  case atStart => exact ⟨a, by omega, rfl, rfl, fun x h1 h2 => by omega⟩
  case round =>
    obtain ⟨k, hk, rfl, rfl, hall⟩ := hrel
    have HALL := Lib.hid hall
    clear hall
    by_cases hlt : k < b
    · obtain ⟨q, rfl⟩ : ∃ q : Nat, k = q := ⟨k.toNat, by omega⟩
      have hq : q < bs.length := by omega
      obtain ⟨bb, o, rfl, _, e0⟩ := hr.get q (by simpa using hq)
      simp only [List.getElem_map] at e0
      have hM := Lib.hid (HM.out q hq)
      have v1 : wrap64 ((q : Int) + 1) = q + 1 := IntWalk.wrap64_in _ ⟨by omega, by omega⟩
      have hqn : q < n := by omega
      cases hbv : bs[q] with
      | true =>
        rw [hbv] at e0 hM
        have hv1 : Hid (hv = true) := by
          show _ = _
          rw [← HH.out, hitB_iff]
          exact ⟨q, hk, hlt, hM.out.1 rfl⟩
        clear hbv
        go_wp2_with fail
        go_returns
        exact ⟨ret_bool hv1.out.symm, rfl⟩
      | false =>
        rw [hbv] at e0 hM
        have hF : Hid (∀ x, a ≤ x → x < (q : Int) + 1 → ¬ MemR cs x) := fun x h1 h2 h3 => by
          by_cases e : x = q
          · subst e; exact absurd (hM.out.2 h3) (by simp)
          · exact HALL.out x h1 (by omega) h3
        clear hbv
        go_wp2_with fail
        exact ⟨⟨(q : Int) + 1, by omega, rfl, trivial, hF.out⟩, by simp [intOf]; omega⟩
    · have hv1 : Hid (hv = false) := by
        show _ = _
        rw [← HH.out]
        exact hitB_false fun ⟨x, h1, h2, h3⟩ => HALL.out x h1 (by omega) h3
      go_wp2_with fail
      go_returns
      exact ⟨ret_bool hv1.out.symm, rfl⟩
end Go.Proofs.YtibmhabipghjlaaGreat
end
section
set_option linter.unusedVariables false
namespace Go.Proofs.YtibmhabipghjlaaGreat
open Go.RowKit
theorem idx_col {m n i j : Int} (hm : 0 ≤ m ∧ m ≤ 3) (hn : 1 ≤ n) : colAt m n i = some j ↔ idx m i n = (j, true) := by
  have h1 := split_col (n := n) (i := i) hn
  have ha := again_eq (i := i) hn
  have hbad : ¬ (m < 0 ∨ 3 < m ∨ n < 1) := by omega
  unfold idx colAt
  rw [if_neg hbad]
  clear hbad
  by_cases hi : 0 ≤ i ∧ i < n
  · simp only [if_pos hi]
    have e1 : i % n = i := Int.emod_eq_of_lt hi.1 hi.2
    have e2 : i / n = 0 := Int.ediv_eq_zero_of_lt hi.1 hi.2
    have hcase : m = 0 ∨ m = 1 ∨ m = 2 ∨ m = 3 := by omega
    rcases hcase with rfl | rfl | rfl | rfl
    · simp
    · simp; constructor <;> intro h <;> omega
    · simp [e1]
    · simp [e1, e2]
  · simp only [if_neg hi]
    have hcase : m = 0 ∨ m = 1 ∨ m = 2 ∨ m = 3 := by omega
    rcases hcase with rfl | rfl | rfl | rfl
    · simp
    · simp only [if_neg (show ¬ (1 : Int) = 0 by omega), if_pos]
      split <;> simp <;> constructor <;> intro h <;> omega
    · simp
    · simp only [if_neg (show ¬ (3 : Int) = 0 by omega), if_neg (show ¬ (3 : Int) = 1 by omega), if_neg (show ¬ (3 : Int) = 2 by omega)]
      rw [ha]
      split <;> simp
structure HvI (m lo : Int) (n : Nat) (i : Int) (bs : List Bool) : Prop where
  len : bs.length = n
  mem : ∀ j : Nat, bs[j]? = some true ↔ j < n ∧ ∃ i', lo ≤ i' ∧ i' < i ∧ colAt m n i' = some (j : Int)
theorem hv_start (m lo : Int) (n : Nat) : HvI m lo n lo (List.replicate n false) :=
  ⟨by simp, fun j => ⟨fun h => by rw [List.getElem?_replicate] at h; split at h <;> simp at h, fun ⟨_, i', h1, h2, _⟩ => by omega⟩⟩
theorem hv_skip {m lo i : Int} {n : Nat} {bs : List Bool} (h : HvI m lo n i bs) (hc : ∀ j : Int, colAt m n i ≠ some j) : HvI m lo n (i + 1) bs := by
  refine ⟨h.len, fun j => ?_⟩
  rw [h.mem j]
  constructor
  · rintro ⟨a, i', h1, h2, h3⟩; exact ⟨a, i', h1, by omega, h3⟩
  · rintro ⟨a, i', h1, h2, h3⟩
    refine ⟨a, i', h1, ?_, h3⟩
    rcases Int.lt_or_le i' i with g | g
    · exact g
    · have : i' = i := by omega
      subst this
      exact absurd h3 (hc _)
theorem hv_set {m lo i : Int} {n q : Nat} {bs : List Bool} (h : HvI m lo n i bs) (hlo : lo ≤ i) (hq : q < n) (hc : colAt m n i = some (q : Int)) : HvI m lo n (i + 1) (bs.set q true) := by
  refine ⟨by simpa using h.len, fun j => ?_⟩
  rw [List.getElem?_set]
  by_cases hj : q = j
  · subst hj
    rw [if_pos rfl, if_pos (by have := h.len; omega)]
    exact ⟨fun _ => ⟨hq, i, hlo, by omega, hc⟩, fun _ => rfl⟩
  · rw [if_neg hj, h.mem j]
    constructor
    · rintro ⟨a, i', h1, h2, h3⟩; exact ⟨a, i', h1, by omega, h3⟩
    · rintro ⟨a, i', h1, h2, h3⟩
      refine ⟨a, i', h1, ?_, h3⟩
      rcases Int.lt_or_le i' i with g | g
      · exact g
      · have : i' = i := by omega
        subst this
        rw [hc] at h3
        injection h3 with h3
        omega
theorem bool_info : (Tryz.prog.info? 4).map (fun i => (i.zero, i.size, i.bytes)) = some (some (.bool false), 1, 1) := by kernel_rfl
end Go.Proofs.YtibmhabipghjlaaGreat
end
section
set_option linter.unusedVariables false
namespace Go.Proofs.YtibmhabipghjlaaGreat
open Go.RowKit
theorem rjob_size : (Tryz.prog.info? 31).map (·.size) = some 15 := by kernel_rfl
theorem bool_info39 : (Tryz.prog.info? 4).map (fun i => (i.zero, i.size, i.bytes)) = some (some (.bool false), 1, 1) := by kernel_rfl
/-- Which are marked by those from a on, before i. -/
def MkTo (bs : List Bool) (mo n a i : Int) : Prop := ∀ k (h : k < bs.length), bs[k] = true ↔ ∃ q, a ≤ q ∧ q < i ∧ colAt mo n q = some (k : Int)
theorem mkto_none {bs : List Bool} {mo n a i : Int} (h : MkTo bs mo n a i) (ha : a ≤ i) (hc : ∀ k : Int, colAt mo n i = some k → False) : MkTo bs mo n a (i + 1) := fun k hk => by
  rw [h k hk]
  constructor
  · rintro ⟨q, h1, h2, h3⟩; exact ⟨q, h1, by omega, h3⟩
  · rintro ⟨q, h1, h2, h3⟩
    by_cases e : q = i
    · subst e; exact (hc _ h3).elim
    · exact ⟨q, h1, by omega, h3⟩
theorem mkto_set {bs : List Bool} {mo n a i : Int} {x : Nat} (h : MkTo bs mo n a i) (ha : a ≤ i) (hc : colAt mo n i = some (x : Int)) : MkTo (bs.set x true) mo n a (i + 1) := fun k hk => by
  rw [List.getElem_set]
  by_cases e : x = k
  · subst e
    simp only [if_true, true_iff]
    exact ⟨i, ha, by omega, hc⟩
  · rw [if_neg e, h k (by simpa using hk)]
    constructor
    · rintro ⟨q, h1, h2, h3⟩; exact ⟨q, h1, by omega, h3⟩
    · rintro ⟨q, h1, h2, h3⟩
      by_cases e2 : q = i
      · subst e2
        rw [hc] at h3
        injection h3 with h3
        omega
      · exact ⟨q, h1, by omega, h3⟩
theorem mkto_end {bs : List Bool} {mo n a b : Int} (h : MkTo bs mo n a (b + 1)) (hok : okC mo a b n) : Marks bs (colsR mo a b n) := fun k hk => by
  rw [h k hk, colsR_mem hok]
  constructor
  · rintro ⟨q, h1, h2, h3⟩; exact ⟨q, h1, by omega, h3⟩
  · rintro ⟨q, h1, h2, h3⟩; exact ⟨q, h1, by omega, h3⟩
set_option maxRecDepth 100000 in
set_option maxHeartbeats 4000000 in
theorem rmarks39 (j : Jb) (k : Nat) (lo hi a b : Int) (n : Nat) (w : World) (hTo : ∀ (u : Int) (w' : World), (u = lo ∨ u = hi) → Calls Tryz.prog 50 #[.int .i64 u, .int .i64 k] w' fun e w'' => e = .returned (.int .i64 (lvTo u k)) ∧ w' = w'')
    (hRe : ∀ w', Calls Tryz.prog 49 #[.int .i64 j.K, .int .i64 (lvTo lo k), .int .i64 (lvTo hi k)] w' fun e w'' => e = .returned (.tuple #[.int .i64 a, .int .i64 b]) ∧ w' = w'')
    (hok : okC j.mo a b n) (hn4 : n ≤ 40000) :
    Calls Tryz.prog 30 #[.agg j.cells, .int .i64 k, .int .i64 lo, .int .i64 hi, .int .i64 n] w fun e w' => ∃ v bs, e = .returned v ∧ bs.length = n ∧ w'.ownsRow w.heap.size 4 1 v n (bs.map Value.bool) ∧ Below w.heap.size w w' ∧ Marks bs (colsR j.mo a b n) := by
  have hend := fun bs (h : MkTo bs j.mo n a (b + 1)) => mkto_end h hok
  obtain ⟨hlh, hm, ⟨hn, hn2⟩, ho1, ho2⟩ := hok
  have o1 := off_no ho1
  have o2 := off_no ho2
  clear ho1 ho2
  generalize colsR j.mo a b n = L at *
  have h1 := fun w' => (hTo lo w' (by simp)).mono (R' := fun e w'' => e = .returned (.int .i64 (lvTo lo k)) ∧ Below w'.heap.size w' w'') fun e w'' ⟨q1, q2⟩ => ⟨q1, q2 ▸ Below.refl _ _⟩
  have h2 := fun w' => (hTo hi w' (by simp)).mono (R' := fun e w'' => e = .returned (.int .i64 (lvTo hi k)) ∧ Below w'.heap.size w' w'') fun e w'' ⟨q1, q2⟩ => ⟨q1, q2 ▸ Below.refl _ _⟩
  have h3 := fun w' => (hRe w').mono (R' := fun e w'' => e = .returned (.tuple #[.int .i64 a, .int .i64 b]) ∧ Below w'.heap.size w' w'') fun e w'' ⟨q1, q2⟩ => ⟨q1, q2 ▸ Below.refl _ _⟩
  have hmk := fun W => run_make1 (P := Tryz.prog) Tryz.underlying79 bool_info39 rfl (n : Int) n rfl (by omega) (by omega) W
  have hix := fun i q => @idx_col j.mo n i q hm hn
  have hL := (Lie.start w).alloc j.cells 31
  have k0 : Bk _ w.heap.size 31 j.cells := hL.k 0 (by simp)
  have hb0 := hL.bel
  obtain ⟨y0, y1, y2, y3, y4, y5, y6, y7, y8, y9, y10, y11, y12, y13, y14⟩ := k0.cellJ
  have x4 := fun (n : Nat) (os : Array Obj) => cell_regrown y4 n os
  generalize lvTo lo k = lo' at *
  generalize lvTo hi k = hi' at *
  clear hTo hRe hL y0 y1 y2 y3 y6 y7 y8 y9 y10 y11 y12 y13 y14
  go_enter Tryz.func30, Tryz.ntmps30
  go_upto_region 1 with fail
  generalize w.alloc (.cells j.cells 31) = w1 at *
  refine wp_region_quiet_below (by kernel_rfl) (by kernel_rfl) ?_
  repeat (first
    | go_big_quiet_step ((first | with_reducible exact quiet_below (h1 _) | with_reducible exact quiet_below (h2 _) | with_reducible exact quiet_below (h3 _)))
    | quiet_step ((first | with_reducible exact quiet_below (h1 _) | with_reducible exact quiet_below (h2 _) | with_reducible exact quiet_below (h3 _))))
  refine wpQuiet_nil ?_
  intro _ hw'
  obtain ⟨⟨d9, os⟩, hw''⟩ := hw'
  subst hw''
  have hbx := below_regrown w1 d9 os
  have k1 := k0.nx hbx
  have hb1 := hb0.trans (hbx.mono hb0.size)
  clear x4 y4 y5 k0 hb0 hbx h1 h2 h3
  generalize Go.Sort.grow (redrawn w1 d9) os = w2 at *
  go_wp2_with fail
  clear hmk
  have hs2 := hb1.size
  have hown0 := own_of_Bk (base := w.heap.size) (Bk.new w2 4 (Array.replicate n (.bool false))) n (by simp) (by omega) hb1.size
  have hbn : Below w.heap.size w (w2.alloc (.cells (Array.replicate n (.bool false)) 4)) := by go_grown
  have kn : Bk (w2.alloc (.cells (Array.replicate n (.bool false)) 4)) w.heap.size 31 j.cells := k1.alloc _
  have hg : w.heap.size < w2.heap.size := k1.lt
  generalize w2.heap.size = g at *
  generalize w2.alloc (.cells (Array.replicate n (.bool false)) 4) = w3 at *
  go_loopw [14] (fun v wr => ∃ (i : Int) (bs : List Bool), v = .int .i64 i ∧ a ≤ i ∧ i ≤ b + 1 ∧ bs.length = n ∧ wr.ownsRow w.heap.size 4 1 (.slice (some ⟨g, 0, none⟩) n n) n (bs.map Value.bool) ∧ Bk wr w.heap.size 31 j.cells ∧ Below w.heap.size w wr ∧ MkTo bs j.mo n a i) (fun v _ => (b + 1 - intOf v).toNat)
  case atStart =>
    refine ⟨a, List.replicate n false, rfl, by omega, by omega, by simp, by simpa using hown0, kn, hbn, ?_⟩
    intro q hq
    simp only [List.getElem_replicate]
    exact ⟨fun h => by simp at h, fun ⟨x, h1, h2, _⟩ => by omega⟩
  case round =>
    obtain ⟨i, bs, rfl, hl1, hl2, hlen, hown, kr, hbr, hinv⟩ := hrel
    have hbw := hbr.size
    have z5 := kr.cellJ.2.2.2.2.2.1
    by_cases hlt : i ≤ b
    · have hri := fun W => rindex_any j.mo i n W (by omega) (by omega) hn2
      have hixi := fun q => hix i q
      have hbd := @idx_bd j.mo i n
      generalize idx j.mo i n = p at *
      obtain ⟨q, c⟩ := p
      cases c
      · have hsk := mkto_none hinv hl1 (fun q' hc => by have := (hixi q').1 hc; simp at this)
        clear hinv hixi hbd hend hix
        go_wp2_with (go_at_call 51; (with_reducible refine (hri _).mono ?_); rintro e w4 ⟨rfl, hb4⟩)
        refine ⟨⟨i + 1, bs, by go_num, by omega, by omega, hlen, own_below hown hb4 (Nat.le_refl _), kr.nx hb4, hbr.trans (hb4.mono hbw), hsk⟩, by simp [intOf]; omega⟩
      · obtain ⟨hj0, hj1⟩ := hbd rfl
        simp only at hj0 hj1
        obtain ⟨q, rfl⟩ : ∃ x : Nat, q = x := ⟨q.toNat, by omega⟩
        have hq : q < n := by omega
        have hst := mkto_set hinv hl1 ((hixi q).2 rfl)
        clear hinv hixi hbd hend hix
        go_wp2_with (go_at_call 51; (with_reducible refine (hri _).mono ?_); rintro e w4 ⟨rfl, hb4⟩; have hown1 := own_below hown hb4 (Nat.le_refl _); have hfz := hown1.frozenAt q; obtain ⟨g', o', e', _, hcq⟩ := rd_bool (Rd.of_own hown1) q (by omega); injection e' with e'; injection e' with e1 e2; subst e1; subst e2; rw [Nat.zero_add] at hcq; have hst2 := hown1.stored q (.bool true); have hbr1 := hbr.trans (hb4.mono hbw); have kr1 := kr.nx hb4)
        have hbx := hbr1.grown hst2.2 hbr1.size (fun k e => by injection e with e; omega)
        refine ⟨⟨i + 1, _, by go_num, by omega, by omega, by simpa using hlen, ?_, kr1.grown hst2.2 (fun e => by injection e with e; omega), hbx, hst⟩, by simp [intOf]; omega⟩
        rw [List.map_set]
        exact hst2.1
    · obtain rfl : i = b + 1 := by omega
      go_wp2_with fail
      go_returns
      exact ⟨_, rfl, bs, hlen, hown, hbr, hend bs hinv⟩
end Go.Proofs.YtibmhabipghjlaaGreat
end
section
set_option linter.unusedVariables false
namespace Go.Proofs.YtibmhabipghjlaaGreat
open Go.RowKit
theorem encG_get (W H TW TH : Int) (N k : Nat) (hk : k < N) (j : Nat) (hj : j < 4) : (encG W H TW TH N)[k * 4 + j]? = (tlR W H TW TH k)[j]? := by
  induction N with
  | zero => omega
  | succ N ih =>
    rw [encG_succ]
    have hl : (encG W H TW TH N).length = N * 4 := by
      clear ih hk
      induction N with
      | zero => rfl
      | succ N ih => rw [encG_succ, List.length_append, ih]; simp [tlR]; omega
    by_cases e : k < N
    · rw [List.getElem?_append_left (by omega)]; exact ih e
    · obtain rfl : k = N := by omega
      rw [List.getElem?_append_right (by omega), hl, show k * 4 + j - k * 4 = j by omega]
      simp
theorem rd_tlR {w : World} {B : Nat} {A : Option Addr} {W H TW TH : Int} {N : Nat} (h : Rd w B A (encG W H TW TH N)) (k : Nat) (hk : k < N) : ∃ b o, A = some ⟨b, o, none⟩ ∧ b < B ∧ w.cell? ⟨b, o + k * 4, none⟩ = some (.int .i64 (tlX W TW k)) ∧ w.cell? ⟨b, o + k * 4 + 1, none⟩ = some (.int .i64 (tlY W TW TH k)) ∧ w.cell? ⟨b, o + k * 4 + 2, none⟩ = some (.int .i64 (min (tlX W TW k + TW) W)) ∧ w.cell? ⟨b, o + k * 4 + 3, none⟩ = some (.int .i64 (min (tlY W TW TH k + TH) H)) := by
  have hg : ∀ j v, j < 4 → (tlR W H TW TH k)[j]? = some v → ∃ b o, A = some ⟨b, o, none⟩ ∧ b < B ∧ w.cell? ⟨b, o + k * 4 + j, none⟩ = some v := fun j v hj hv => by
    have h1 := encG_get W H TW TH N k hk j hj
    rw [hv] at h1
    have hlt : k * 4 + j < (encG W H TW TH N).length := by
      rcases Nat.lt_or_ge (k * 4 + j) (encG W H TW TH N).length with h | h
      · exact h
      · rw [List.getElem?_eq_none h] at h1; cases h1
    obtain ⟨b, o, rfl, hb, hc⟩ := h.get _ hlt
    rw [List.getElem?_eq_getElem hlt] at h1
    injection h1 with h1
    exact ⟨b, o, rfl, hb, by rw [Nat.add_assoc, hc, h1]⟩
  obtain ⟨b, o, rfl, hb, c0⟩ := hg 0 _ (by omega) rfl
  obtain ⟨b1, o1, e1, _, c1⟩ := hg 1 _ (by omega) rfl
  obtain ⟨b2, o2, e2, _, c2⟩ := hg 2 _ (by omega) rfl
  obtain ⟨b3, o3, e3, _, c3⟩ := hg 3 _ (by omega) rfl
  injection e1 with e1; injection e1 with e11 e12; subst e11; subst e12
  injection e2 with e2; injection e2 with e21 e22; subst e21; subst e22
  injection e3 with e3; injection e3 with e31 e32; subst e31; subst e32
  exact ⟨b, o, rfl, hb, c0, c1, c2, c3⟩
end Go.Proofs.YtibmhabipghjlaaGreat
end
