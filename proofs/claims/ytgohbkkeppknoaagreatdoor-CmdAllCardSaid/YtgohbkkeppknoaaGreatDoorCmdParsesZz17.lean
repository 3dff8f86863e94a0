/- Several texts in one: The reference's numbers: whether one fits. (Printed by wip/tools/gennc3.py.) -/
import Derived.Test.YtgohbkkeppknoaaGreatDoorCmdParsesZz16
section
set_option linter.unusedVariables false
namespace Go.Proofs.YtgohbkkeppknoaaGreatDoor
open Go.RowKit
theorem p63 : (2 : Int) ^ 63 = 9223372036854775808 := by decide
set_option maxRecDepth 100000 in
set_option maxHeartbeats 16000000 in
theorem rfits_any63 (va : Value) (z : Int) (w : World) {lo : Nat} (ha : BigN lo w va z) (hz : Sm z) : Calls Tryz.prog 198 #[va, .int .i64 63] w fun e w' => e = .returned (.bool (decide (in64 z))) ∧ Below w.heap.size w w' := by
  obtain ⟨s, A, n, c, rfl⟩ := ha.shape
  have hb0 := (Below.refl w.heap.size w).alloc (Nat.le_refl _) (.cells #[.bool s, .slice A n c] 200)
  have hC0 : BgC (w.alloc (.cells #[.bool s, .slice A n c] 200)) w.heap.size z := ⟨s, A, n, c, Bk.new w _ _, (ha.alloc _).any⟩
  have hP := fun w' => pow_any1 63 w' (by omega)
  rw [p63] at hP
  have sp : Sm 9223372036854775808 := sm_of (by omega) (by omega)
  have sn : Sm (-9223372036854775808) := sm_of (by omega) (by omega)
  go_enter Tryz.func198, Tryz.ntmps198
  go_upto_region 1 with fail
  generalize w.alloc (.cells #[.bool s, .slice A n c] 200) = w1 at *
  by_cases h1 : -9223372036854775808 ≤ z
  · have e1 : decide (0 ≤ cmpI z (-9223372036854775808)) = true := by unfold cmpI; simp; omega
    have e1' : (cmpI z (-9223372036854775808) ≥ 0) = True := by simp; unfold cmpI; omega
    by_cases h2 : z ≤ 9223372036854775807
    · have e2 : decide (cmpI z 9223372036854775808 < 0) = true := by unfold cmpI; simp; omega
      have HR : Hid (decide (in64 z) = true) := decide_eq_true ⟨h1, h2⟩
      refine wp_region_dag' 14 [] id
        (SatL [bigS z, valS (.int .i64 63), bigS 9223372036854775808, bigS (-9223372036854775808), valS (.int .i64 (cmpI z (-9223372036854775808))), valS (.bool true), valS (.bool true), bigS z, valS (.int .i64 63), bigS 9223372036854775808, valS (.int .i64 (cmpI z 9223372036854775808)), valS (.bool true), valS (.bool true), valS (.bool true)])
        (fun b w' => Below w.heap.size w w' ∧ BgC w' w.heap.size z)
        (by kernel_rfl) (by kernel_rfl) (by kernel_rfl) (by kernel_rfl) ⟨below_drewN hb0 1, hC0.nx (below_drewN (Below.refl _ _) 1)⟩ ?_ ?_
      case refine_1 =>
        intro K i o y wr b ho hG hs hdep hK
        have hG' := hG
        obtain ⟨hB, hC⟩ := hG'
        rcases i with _ | i
        · obtain rfl : _ = o := Option.some.inj ho
          unfold StepTo
          simp only [↓reduceIte, Nat.zero_add, Nat.reduceAdd, Nat.reduceEqDiff, List.map_cons, List.map_nil, puts, updV, Act.put, List.setIfInBounds_toArray, List.set_cons_zero, List.set_cons_succ] at hK ⊢
          generalize y 0 = y0 at *; generalize y 1 = y1 at *; generalize y 2 = y2 at *; generalize y 3 = y3 at *; generalize y 4 = y4 at *; generalize y 5 = y5 at *; generalize y 6 = y6 at *; generalize y 7 = y7 at *; generalize y 8 = y8 at *; generalize y 9 = y9 at *; generalize y 10 = y10 at *; generalize y 11 = y11 at *; generalize y 12 = y12 at *; generalize y 13 = y13 at *
          clear hs
          obtain ⟨s1', A1', n1', c1', k1, hN⟩ := hC
          refine ldBig rfl _ rfl k1 rfl ?_
          exact ⟨rfl, hK _ _ hN hG (fun _ _ _ h => h)⟩
        rcases i with _ | i
        · obtain rfl : _ = o := Option.some.inj ho
          unfold StepTo
          simp only [↓reduceIte, Nat.zero_add, Nat.reduceAdd, Nat.reduceEqDiff, List.map_cons, List.map_nil, puts, updV, Act.put, List.setIfInBounds_toArray, List.set_cons_zero, List.set_cons_succ] at hK ⊢
          generalize y 0 = y0 at *; generalize y 1 = y1 at *; generalize y 2 = y2 at *; generalize y 3 = y3 at *; generalize y 4 = y4 at *; generalize y 5 = y5 at *; generalize y 6 = y6 at *; generalize y 7 = y7 at *; generalize y 8 = y8 at *; generalize y 9 = y9 at *; generalize y 10 = y10 at *; generalize y 11 = y11 at *; generalize y 12 = y12 at *; generalize y 13 = y13 at *
          clear hs
          go_wp2_with fail
          first | exact hK _ _ rfl hG (fun _ _ _ h => h) | exact ⟨rfl, hK _ _ rfl hG (fun _ _ _ h => h)⟩
        rcases i with _ | i
        · obtain rfl : _ = o := Option.some.inj ho
          have p1 : y 1 = _ := hdep { on := 1, ground := .data } (by simp) rfl
          unfold StepTo
          simp only [↓reduceIte, Nat.zero_add, Nat.reduceAdd, Nat.reduceEqDiff, List.map_cons, List.map_nil, puts, updV, Act.put, List.setIfInBounds_toArray, List.set_cons_zero, List.set_cons_succ] at hK ⊢
          generalize y 0 = y0 at *; generalize y 1 = y1 at *; generalize y 2 = y2 at *; generalize y 3 = y3 at *; generalize y 4 = y4 at *; generalize y 5 = y5 at *; generalize y 6 = y6 at *; generalize y 7 = y7 at *; generalize y 8 = y8 at *; generalize y 9 = y9 at *; generalize y 10 = y10 at *; generalize y 11 = y11 at *; generalize y 12 = y12 at *; generalize y 13 = y13 at *
          clear hs
          subst p1
          go_wp2_with (go_at_call 201; refine (hP _).mono ?_; rintro e w2 ⟨v, rfl, hN, hb⟩)
          exact hK _ _ hN.any ⟨hB.trans (hb.mono hB.size), hC.nx hb⟩ (fun _ _ _ h => Sat.nx hb h)
        rcases i with _ | i
        · obtain rfl : _ = o := Option.some.inj ho
          have p2 : BigN 0 wr (y 2) 9223372036854775808 := hdep { on := 2, ground := .data } (by simp) rfl
          unfold StepTo
          simp only [↓reduceIte, Nat.zero_add, Nat.reduceAdd, Nat.reduceEqDiff, List.map_cons, List.map_nil, puts, updV, Act.put, List.setIfInBounds_toArray, List.set_cons_zero, List.set_cons_succ] at hK ⊢
          generalize y 0 = y0 at *; generalize y 1 = y1 at *; generalize y 2 = y2 at *; generalize y 3 = y3 at *; generalize y 4 = y4 at *; generalize y 5 = y5 at *; generalize y 6 = y6 at *; generalize y 7 = y7 at *; generalize y 8 = y8 at *; generalize y 9 = y9 at *; generalize y 10 = y10 at *; generalize y 11 = y11 at *; generalize y 12 = y12 at *; generalize y 13 = y13 at *
          clear hs
          go_wp2_with (go_at_call 197; refine (neg_any _ _ _ p2 sp).mono ?_; rintro e w2 ⟨v, rfl, hN, hb⟩)
          exact hK _ _ hN.any ⟨hB.trans (hb.mono hB.size), hC.nx hb⟩ (fun _ _ _ h => Sat.nx hb h)
        rcases i with _ | i
        · obtain rfl : _ = o := Option.some.inj ho
          have p0 : BigN 0 wr (y 0) z := hdep { on := 0, ground := .data } (by simp) rfl
          have p3 : BigN 0 wr (y 3) (-9223372036854775808) := hdep { on := 3, ground := .data } (by simp) rfl
          unfold StepTo
          simp only [↓reduceIte, Nat.zero_add, Nat.reduceAdd, Nat.reduceEqDiff, List.map_cons, List.map_nil, puts, updV, Act.put, List.setIfInBounds_toArray, List.set_cons_zero, List.set_cons_succ] at hK ⊢
          generalize y 0 = y0 at *; generalize y 1 = y1 at *; generalize y 2 = y2 at *; generalize y 3 = y3 at *; generalize y 4 = y4 at *; generalize y 5 = y5 at *; generalize y 6 = y6 at *; generalize y 7 = y7 at *; generalize y 8 = y8 at *; generalize y 9 = y9 at *; generalize y 10 = y10 at *; generalize y 11 = y11 at *; generalize y 12 = y12 at *; generalize y 13 = y13 at *
          clear hs
          go_wp2_with (go_at_call 276; refine (cmp_any _ _ _ _ _ p0 p3 hz sn).mono ?_; rintro e w2 ⟨rfl, hb⟩)
          exact hK _ _ rfl ⟨hB.trans (hb.mono hB.size), hC.nx hb⟩ (fun _ _ _ h => Sat.nx hb h)
        rcases i with _ | i
        · obtain rfl : _ = o := Option.some.inj ho
          have p4 : y 4 = _ := hdep { on := 4, ground := .data } (by simp) rfl
          unfold StepTo
          simp only [↓reduceIte, Nat.zero_add, Nat.reduceAdd, Nat.reduceEqDiff, List.map_cons, List.map_nil, puts, updV, Act.put, List.setIfInBounds_toArray, List.set_cons_zero, List.set_cons_succ] at hK ⊢
          generalize y 0 = y0 at *; generalize y 1 = y1 at *; generalize y 2 = y2 at *; generalize y 3 = y3 at *; generalize y 4 = y4 at *; generalize y 5 = y5 at *; generalize y 6 = y6 at *; generalize y 7 = y7 at *; generalize y 8 = y8 at *; generalize y 9 = y9 at *; generalize y 10 = y10 at *; generalize y 11 = y11 at *; generalize y 12 = y12 at *; generalize y 13 = y13 at *
          clear hs
          subst p4
          go_wp2_with fail
          first | exact hK _ _ rfl hG (fun _ _ _ h => h) | exact ⟨rfl, hK _ _ rfl hG (fun _ _ _ h => h)⟩
        rcases i with _ | i
        · obtain rfl : _ = o := Option.some.inj ho
          have p5 : y 5 = _ := hdep { on := 5, ground := .data } (by simp) rfl
          unfold StepTo
          simp only [↓reduceIte, Nat.zero_add, Nat.reduceAdd, Nat.reduceEqDiff, List.map_cons, List.map_nil, puts, updV, Act.put, List.setIfInBounds_toArray, List.set_cons_zero, List.set_cons_succ] at hK ⊢
          generalize y 0 = y0 at *; generalize y 1 = y1 at *; generalize y 2 = y2 at *; generalize y 3 = y3 at *; generalize y 4 = y4 at *; generalize y 5 = y5 at *; generalize y 6 = y6 at *; generalize y 7 = y7 at *; generalize y 8 = y8 at *; generalize y 9 = y9 at *; generalize y 10 = y10 at *; generalize y 11 = y11 at *; generalize y 12 = y12 at *; generalize y 13 = y13 at *
          clear hs
          subst p5
          go_wp2_with fail
          first | exact hK _ _ rfl hG (fun _ _ _ h => h) | exact ⟨rfl, hK _ _ rfl hG (fun _ _ _ h => h)⟩
        rcases i with _ | i
        · obtain rfl : _ = o := Option.some.inj ho
          have p6 : y 6 = _ := hdep { on := 6, ground := .guard } (by simp) rfl
          unfold StepTo
          simp only [↓reduceIte, Nat.zero_add, Nat.reduceAdd, Nat.reduceEqDiff, List.map_cons, List.map_nil, puts, updV, Act.put, List.setIfInBounds_toArray, List.set_cons_zero, List.set_cons_succ] at hK ⊢
          generalize y 0 = y0 at *; generalize y 1 = y1 at *; generalize y 2 = y2 at *; generalize y 3 = y3 at *; generalize y 4 = y4 at *; generalize y 5 = y5 at *; generalize y 6 = y6 at *; generalize y 7 = y7 at *; generalize y 8 = y8 at *; generalize y 9 = y9 at *; generalize y 10 = y10 at *; generalize y 11 = y11 at *; generalize y 12 = y12 at *; generalize y 13 = y13 at *
          clear hs
          subst p6
          obtain ⟨s1', A1', n1', c1', k1, hN⟩ := hC
          obtain ⟨d0, d1⟩ := k1.cell2
          go_wp2_with fail
          exact hK _ _ hN hG (fun _ _ _ h => h)
        rcases i with _ | i
        · obtain rfl : _ = o := Option.some.inj ho
          have p6 : y 6 = _ := hdep { on := 6, ground := .guard } (by simp) rfl
          unfold StepTo
          simp only [↓reduceIte, Nat.zero_add, Nat.reduceAdd, Nat.reduceEqDiff, List.map_cons, List.map_nil, puts, updV, Act.put, List.setIfInBounds_toArray, List.set_cons_zero, List.set_cons_succ] at hK ⊢
          generalize y 0 = y0 at *; generalize y 1 = y1 at *; generalize y 2 = y2 at *; generalize y 3 = y3 at *; generalize y 4 = y4 at *; generalize y 5 = y5 at *; generalize y 6 = y6 at *; generalize y 7 = y7 at *; generalize y 8 = y8 at *; generalize y 9 = y9 at *; generalize y 10 = y10 at *; generalize y 11 = y11 at *; generalize y 12 = y12 at *; generalize y 13 = y13 at *
          clear hs
          subst p6
          go_wp2_with fail
          first | exact hK _ _ rfl hG (fun _ _ _ h => h) | exact ⟨rfl, hK _ _ rfl hG (fun _ _ _ h => h)⟩
        rcases i with _ | i
        · obtain rfl : _ = o := Option.some.inj ho
          have p8 : y 8 = _ := hdep { on := 8, ground := .data } (by simp) rfl
          have p6 : y 6 = _ := hdep { on := 6, ground := .guard } (by simp) rfl
          unfold StepTo
          simp only [↓reduceIte, Nat.zero_add, Nat.reduceAdd, Nat.reduceEqDiff, List.map_cons, List.map_nil, puts, updV, Act.put, List.setIfInBounds_toArray, List.set_cons_zero, List.set_cons_succ] at hK ⊢
          generalize y 0 = y0 at *; generalize y 1 = y1 at *; generalize y 2 = y2 at *; generalize y 3 = y3 at *; generalize y 4 = y4 at *; generalize y 5 = y5 at *; generalize y 6 = y6 at *; generalize y 7 = y7 at *; generalize y 8 = y8 at *; generalize y 9 = y9 at *; generalize y 10 = y10 at *; generalize y 11 = y11 at *; generalize y 12 = y12 at *; generalize y 13 = y13 at *
          clear hs
          subst p8
          subst p6
          go_wp2_with (go_at_call 201; refine (hP _).mono ?_; rintro e w2 ⟨v, rfl, hN, hb⟩)
          exact hK _ _ hN.any ⟨hB.trans (hb.mono hB.size), hC.nx hb⟩ (fun _ _ _ h => Sat.nx hb h)
        rcases i with _ | i
        · obtain rfl : _ = o := Option.some.inj ho
          have p7 : BigN 0 wr (y 7) z := hdep { on := 7, ground := .data } (by simp) rfl
          have p9 : BigN 0 wr (y 9) 9223372036854775808 := hdep { on := 9, ground := .data } (by simp) rfl
          have p6 : y 6 = _ := hdep { on := 6, ground := .guard } (by simp) rfl
          unfold StepTo
          simp only [↓reduceIte, Nat.zero_add, Nat.reduceAdd, Nat.reduceEqDiff, List.map_cons, List.map_nil, puts, updV, Act.put, List.setIfInBounds_toArray, List.set_cons_zero, List.set_cons_succ] at hK ⊢
          generalize y 0 = y0 at *; generalize y 1 = y1 at *; generalize y 2 = y2 at *; generalize y 3 = y3 at *; generalize y 4 = y4 at *; generalize y 5 = y5 at *; generalize y 6 = y6 at *; generalize y 7 = y7 at *; generalize y 8 = y8 at *; generalize y 9 = y9 at *; generalize y 10 = y10 at *; generalize y 11 = y11 at *; generalize y 12 = y12 at *; generalize y 13 = y13 at *
          clear hs
          subst p6
          go_wp2_with (go_at_call 276; refine (cmp_any _ _ _ _ _ p7 p9 hz sp).mono ?_; rintro e w2 ⟨rfl, hb⟩)
          exact hK _ _ rfl ⟨hB.trans (hb.mono hB.size), hC.nx hb⟩ (fun _ _ _ h => Sat.nx hb h)
        rcases i with _ | i
        · obtain rfl : _ = o := Option.some.inj ho
          have p10 : y 10 = _ := hdep { on := 10, ground := .data } (by simp) rfl
          have p6 : y 6 = _ := hdep { on := 6, ground := .guard } (by simp) rfl
          unfold StepTo
          simp only [↓reduceIte, Nat.zero_add, Nat.reduceAdd, Nat.reduceEqDiff, List.map_cons, List.map_nil, puts, updV, Act.put, List.setIfInBounds_toArray, List.set_cons_zero, List.set_cons_succ] at hK ⊢
          generalize y 0 = y0 at *; generalize y 1 = y1 at *; generalize y 2 = y2 at *; generalize y 3 = y3 at *; generalize y 4 = y4 at *; generalize y 5 = y5 at *; generalize y 6 = y6 at *; generalize y 7 = y7 at *; generalize y 8 = y8 at *; generalize y 9 = y9 at *; generalize y 10 = y10 at *; generalize y 11 = y11 at *; generalize y 12 = y12 at *; generalize y 13 = y13 at *
          clear hs
          subst p10
          subst p6
          go_wp2_with fail
          first | exact hK _ _ rfl hG (fun _ _ _ h => h) | exact ⟨rfl, hK _ _ rfl hG (fun _ _ _ h => h)⟩
        rcases i with _ | i
        · obtain rfl : _ = o := Option.some.inj ho
          have p6 : y 6 = _ := hdep { on := 6, ground := .data } (by simp) rfl
          have p11 : y 11 = _ := hdep { on := 11, ground := .data } (by simp) rfl
          unfold StepTo
          simp only [↓reduceIte, Nat.zero_add, Nat.reduceAdd, Nat.reduceEqDiff, List.map_cons, List.map_nil, puts, updV, Act.put, List.setIfInBounds_toArray, List.set_cons_zero, List.set_cons_succ] at hK ⊢
          generalize y 0 = y0 at *; generalize y 1 = y1 at *; generalize y 2 = y2 at *; generalize y 3 = y3 at *; generalize y 4 = y4 at *; generalize y 5 = y5 at *; generalize y 6 = y6 at *; generalize y 7 = y7 at *; generalize y 8 = y8 at *; generalize y 9 = y9 at *; generalize y 10 = y10 at *; generalize y 11 = y11 at *; generalize y 12 = y12 at *; generalize y 13 = y13 at *
          clear hs
          subst p6
          subst p11
          go_wp2_with fail
          first | exact hK _ _ rfl hG (fun _ _ _ h => h) | exact ⟨rfl, hK _ _ rfl hG (fun _ _ _ h => h)⟩
        rcases i with _ | i
        · obtain rfl : _ = o := Option.some.inj ho
          have p12 : y 12 = _ := hdep { on := 12, ground := .data } (by simp) rfl
          unfold StepTo
          simp only [↓reduceIte, Nat.zero_add, Nat.reduceAdd, Nat.reduceEqDiff, List.map_cons, List.map_nil, puts, updV, Act.put, List.setIfInBounds_toArray, List.set_cons_zero, List.set_cons_succ] at hK ⊢
          generalize y 0 = y0 at *; generalize y 1 = y1 at *; generalize y 2 = y2 at *; generalize y 3 = y3 at *; generalize y 4 = y4 at *; generalize y 5 = y5 at *; generalize y 6 = y6 at *; generalize y 7 = y7 at *; generalize y 8 = y8 at *; generalize y 9 = y9 at *; generalize y 10 = y10 at *; generalize y 11 = y11 at *; generalize y 12 = y12 at *; generalize y 13 = y13 at *
          clear hs
          subst p12
          go_wp2_with fail
          first | exact hK _ _ rfl hG (fun _ _ _ h => h) | exact ⟨rfl, hK _ _ rfl hG (fun _ _ _ h => h)⟩
        · exact absurd ho (by simp)
      case refine_2 =>
        intro y wr b hG hF hbs
        clear hbs
        obtain ⟨hB, hC⟩ := hG
        have p13 : y 13 = _ := hF 13 (by decide)
        simp only [Nat.zero_add, Nat.reduceAdd, List.map_cons, List.map_nil, puts, Act.put, List.setIfInBounds_toArray, List.set_cons_zero, List.set_cons_succ]
        generalize y 0 = y0 at *; generalize y 1 = y1 at *; generalize y 2 = y2 at *; generalize y 3 = y3 at *; generalize y 4 = y4 at *; generalize y 5 = y5 at *; generalize y 6 = y6 at *; generalize y 7 = y7 at *; generalize y 8 = y8 at *; generalize y 9 = y9 at *; generalize y 10 = y10 at *; generalize y 11 = y11 at *; generalize y 12 = y12 at *; generalize y 13 = y13 at *
        subst p13
        clear hF
        go_wp2_with fail
        go_returns
        exact ⟨(congrArg (fun b => Ending.returned (Value.bool b)) HR.out).symm, hB⟩
    · have e2 : decide (cmpI z 9223372036854775808 < 0) = false := by unfold cmpI; simp; omega
      have HR : Hid (decide (in64 z) = false) := decide_eq_false (fun h => h2 h.2)
      refine wp_region_dag' 14 [] id
        (SatL [bigS z, valS (.int .i64 63), bigS 9223372036854775808, bigS (-9223372036854775808), valS (.int .i64 (cmpI z (-9223372036854775808))), valS (.bool true), valS (.bool true), bigS z, valS (.int .i64 63), bigS 9223372036854775808, valS (.int .i64 (cmpI z 9223372036854775808)), valS (.bool false), valS (.bool false), valS (.bool false)])
        (fun b w' => Below w.heap.size w w' ∧ BgC w' w.heap.size z)
        (by kernel_rfl) (by kernel_rfl) (by kernel_rfl) (by kernel_rfl) ⟨below_drewN hb0 1, hC0.nx (below_drewN (Below.refl _ _) 1)⟩ ?_ ?_
      case refine_1 =>
        intro K i o y wr b ho hG hs hdep hK
        have hG' := hG
        obtain ⟨hB, hC⟩ := hG'
        rcases i with _ | i
        · obtain rfl : _ = o := Option.some.inj ho
          unfold StepTo
          simp only [↓reduceIte, Nat.zero_add, Nat.reduceAdd, Nat.reduceEqDiff, List.map_cons, List.map_nil, puts, updV, Act.put, List.setIfInBounds_toArray, List.set_cons_zero, List.set_cons_succ] at hK ⊢
          generalize y 0 = y0 at *; generalize y 1 = y1 at *; generalize y 2 = y2 at *; generalize y 3 = y3 at *; generalize y 4 = y4 at *; generalize y 5 = y5 at *; generalize y 6 = y6 at *; generalize y 7 = y7 at *; generalize y 8 = y8 at *; generalize y 9 = y9 at *; generalize y 10 = y10 at *; generalize y 11 = y11 at *; generalize y 12 = y12 at *; generalize y 13 = y13 at *
          clear hs
          obtain ⟨s1', A1', n1', c1', k1, hN⟩ := hC
          refine ldBig rfl _ rfl k1 rfl ?_
          exact ⟨rfl, hK _ _ hN hG (fun _ _ _ h => h)⟩
        rcases i with _ | i
        · obtain rfl : _ = o := Option.some.inj ho
          unfold StepTo
          simp only [↓reduceIte, Nat.zero_add, Nat.reduceAdd, Nat.reduceEqDiff, List.map_cons, List.map_nil, puts, updV, Act.put, List.setIfInBounds_toArray, List.set_cons_zero, List.set_cons_succ] at hK ⊢
          generalize y 0 = y0 at *; generalize y 1 = y1 at *; generalize y 2 = y2 at *; generalize y 3 = y3 at *; generalize y 4 = y4 at *; generalize y 5 = y5 at *; generalize y 6 = y6 at *; generalize y 7 = y7 at *; generalize y 8 = y8 at *; generalize y 9 = y9 at *; generalize y 10 = y10 at *; generalize y 11 = y11 at *; generalize y 12 = y12 at *; generalize y 13 = y13 at *
          clear hs
          go_wp2_with fail
          first | exact hK _ _ rfl hG (fun _ _ _ h => h) | exact ⟨rfl, hK _ _ rfl hG (fun _ _ _ h => h)⟩
        rcases i with _ | i
        · obtain rfl : _ = o := Option.some.inj ho
          have p1 : y 1 = _ := hdep { on := 1, ground := .data } (by simp) rfl
          unfold StepTo
          simp only [↓reduceIte, Nat.zero_add, Nat.reduceAdd, Nat.reduceEqDiff, List.map_cons, List.map_nil, puts, updV, Act.put, List.setIfInBounds_toArray, List.set_cons_zero, List.set_cons_succ] at hK ⊢
          generalize y 0 = y0 at *; generalize y 1 = y1 at *; generalize y 2 = y2 at *; generalize y 3 = y3 at *; generalize y 4 = y4 at *; generalize y 5 = y5 at *; generalize y 6 = y6 at *; generalize y 7 = y7 at *; generalize y 8 = y8 at *; generalize y 9 = y9 at *; generalize y 10 = y10 at *; generalize y 11 = y11 at *; generalize y 12 = y12 at *; generalize y 13 = y13 at *
          clear hs
          subst p1
          go_wp2_with (go_at_call 201; refine (hP _).mono ?_; rintro e w2 ⟨v, rfl, hN, hb⟩)
          exact hK _ _ hN.any ⟨hB.trans (hb.mono hB.size), hC.nx hb⟩ (fun _ _ _ h => Sat.nx hb h)
        rcases i with _ | i
        · obtain rfl : _ = o := Option.some.inj ho
          have p2 : BigN 0 wr (y 2) 9223372036854775808 := hdep { on := 2, ground := .data } (by simp) rfl
          unfold StepTo
          simp only [↓reduceIte, Nat.zero_add, Nat.reduceAdd, Nat.reduceEqDiff, List.map_cons, List.map_nil, puts, updV, Act.put, List.setIfInBounds_toArray, List.set_cons_zero, List.set_cons_succ] at hK ⊢
          generalize y 0 = y0 at *; generalize y 1 = y1 at *; generalize y 2 = y2 at *; generalize y 3 = y3 at *; generalize y 4 = y4 at *; generalize y 5 = y5 at *; generalize y 6 = y6 at *; generalize y 7 = y7 at *; generalize y 8 = y8 at *; generalize y 9 = y9 at *; generalize y 10 = y10 at *; generalize y 11 = y11 at *; generalize y 12 = y12 at *; generalize y 13 = y13 at *
          clear hs
          go_wp2_with (go_at_call 197; refine (neg_any _ _ _ p2 sp).mono ?_; rintro e w2 ⟨v, rfl, hN, hb⟩)
          exact hK _ _ hN.any ⟨hB.trans (hb.mono hB.size), hC.nx hb⟩ (fun _ _ _ h => Sat.nx hb h)
        rcases i with _ | i
        · obtain rfl : _ = o := Option.some.inj ho
          have p0 : BigN 0 wr (y 0) z := hdep { on := 0, ground := .data } (by simp) rfl
          have p3 : BigN 0 wr (y 3) (-9223372036854775808) := hdep { on := 3, ground := .data } (by simp) rfl
          unfold StepTo
          simp only [↓reduceIte, Nat.zero_add, Nat.reduceAdd, Nat.reduceEqDiff, List.map_cons, List.map_nil, puts, updV, Act.put, List.setIfInBounds_toArray, List.set_cons_zero, List.set_cons_succ] at hK ⊢
          generalize y 0 = y0 at *; generalize y 1 = y1 at *; generalize y 2 = y2 at *; generalize y 3 = y3 at *; generalize y 4 = y4 at *; generalize y 5 = y5 at *; generalize y 6 = y6 at *; generalize y 7 = y7 at *; generalize y 8 = y8 at *; generalize y 9 = y9 at *; generalize y 10 = y10 at *; generalize y 11 = y11 at *; generalize y 12 = y12 at *; generalize y 13 = y13 at *
          clear hs
          go_wp2_with (go_at_call 276; refine (cmp_any _ _ _ _ _ p0 p3 hz sn).mono ?_; rintro e w2 ⟨rfl, hb⟩)
          exact hK _ _ rfl ⟨hB.trans (hb.mono hB.size), hC.nx hb⟩ (fun _ _ _ h => Sat.nx hb h)
        rcases i with _ | i
        · obtain rfl : _ = o := Option.some.inj ho
          have p4 : y 4 = _ := hdep { on := 4, ground := .data } (by simp) rfl
          unfold StepTo
          simp only [↓reduceIte, Nat.zero_add, Nat.reduceAdd, Nat.reduceEqDiff, List.map_cons, List.map_nil, puts, updV, Act.put, List.setIfInBounds_toArray, List.set_cons_zero, List.set_cons_succ] at hK ⊢
          generalize y 0 = y0 at *; generalize y 1 = y1 at *; generalize y 2 = y2 at *; generalize y 3 = y3 at *; generalize y 4 = y4 at *; generalize y 5 = y5 at *; generalize y 6 = y6 at *; generalize y 7 = y7 at *; generalize y 8 = y8 at *; generalize y 9 = y9 at *; generalize y 10 = y10 at *; generalize y 11 = y11 at *; generalize y 12 = y12 at *; generalize y 13 = y13 at *
          clear hs
          subst p4
          go_wp2_with fail
          first | exact hK _ _ rfl hG (fun _ _ _ h => h) | exact ⟨rfl, hK _ _ rfl hG (fun _ _ _ h => h)⟩
        rcases i with _ | i
        · obtain rfl : _ = o := Option.some.inj ho
          have p5 : y 5 = _ := hdep { on := 5, ground := .data } (by simp) rfl
          unfold StepTo
          simp only [↓reduceIte, Nat.zero_add, Nat.reduceAdd, Nat.reduceEqDiff, List.map_cons, List.map_nil, puts, updV, Act.put, List.setIfInBounds_toArray, List.set_cons_zero, List.set_cons_succ] at hK ⊢
          generalize y 0 = y0 at *; generalize y 1 = y1 at *; generalize y 2 = y2 at *; generalize y 3 = y3 at *; generalize y 4 = y4 at *; generalize y 5 = y5 at *; generalize y 6 = y6 at *; generalize y 7 = y7 at *; generalize y 8 = y8 at *; generalize y 9 = y9 at *; generalize y 10 = y10 at *; generalize y 11 = y11 at *; generalize y 12 = y12 at *; generalize y 13 = y13 at *
          clear hs
          subst p5
          go_wp2_with fail
          first | exact hK _ _ rfl hG (fun _ _ _ h => h) | exact ⟨rfl, hK _ _ rfl hG (fun _ _ _ h => h)⟩
        rcases i with _ | i
        · obtain rfl : _ = o := Option.some.inj ho
          have p6 : y 6 = _ := hdep { on := 6, ground := .guard } (by simp) rfl
          unfold StepTo
          simp only [↓reduceIte, Nat.zero_add, Nat.reduceAdd, Nat.reduceEqDiff, List.map_cons, List.map_nil, puts, updV, Act.put, List.setIfInBounds_toArray, List.set_cons_zero, List.set_cons_succ] at hK ⊢
          generalize y 0 = y0 at *; generalize y 1 = y1 at *; generalize y 2 = y2 at *; generalize y 3 = y3 at *; generalize y 4 = y4 at *; generalize y 5 = y5 at *; generalize y 6 = y6 at *; generalize y 7 = y7 at *; generalize y 8 = y8 at *; generalize y 9 = y9 at *; generalize y 10 = y10 at *; generalize y 11 = y11 at *; generalize y 12 = y12 at *; generalize y 13 = y13 at *
          clear hs
          subst p6
          obtain ⟨s1', A1', n1', c1', k1, hN⟩ := hC
          obtain ⟨d0, d1⟩ := k1.cell2
          go_wp2_with fail
          exact hK _ _ hN hG (fun _ _ _ h => h)
        rcases i with _ | i
        · obtain rfl : _ = o := Option.some.inj ho
          have p6 : y 6 = _ := hdep { on := 6, ground := .guard } (by simp) rfl
          unfold StepTo
          simp only [↓reduceIte, Nat.zero_add, Nat.reduceAdd, Nat.reduceEqDiff, List.map_cons, List.map_nil, puts, updV, Act.put, List.setIfInBounds_toArray, List.set_cons_zero, List.set_cons_succ] at hK ⊢
          generalize y 0 = y0 at *; generalize y 1 = y1 at *; generalize y 2 = y2 at *; generalize y 3 = y3 at *; generalize y 4 = y4 at *; generalize y 5 = y5 at *; generalize y 6 = y6 at *; generalize y 7 = y7 at *; generalize y 8 = y8 at *; generalize y 9 = y9 at *; generalize y 10 = y10 at *; generalize y 11 = y11 at *; generalize y 12 = y12 at *; generalize y 13 = y13 at *
          clear hs
          subst p6
          go_wp2_with fail
          first | exact hK _ _ rfl hG (fun _ _ _ h => h) | exact ⟨rfl, hK _ _ rfl hG (fun _ _ _ h => h)⟩
        rcases i with _ | i
        · obtain rfl : _ = o := Option.some.inj ho
          have p8 : y 8 = _ := hdep { on := 8, ground := .data } (by simp) rfl
          have p6 : y 6 = _ := hdep { on := 6, ground := .guard } (by simp) rfl
          unfold StepTo
          simp only [↓reduceIte, Nat.zero_add, Nat.reduceAdd, Nat.reduceEqDiff, List.map_cons, List.map_nil, puts, updV, Act.put, List.setIfInBounds_toArray, List.set_cons_zero, List.set_cons_succ] at hK ⊢
          generalize y 0 = y0 at *; generalize y 1 = y1 at *; generalize y 2 = y2 at *; generalize y 3 = y3 at *; generalize y 4 = y4 at *; generalize y 5 = y5 at *; generalize y 6 = y6 at *; generalize y 7 = y7 at *; generalize y 8 = y8 at *; generalize y 9 = y9 at *; generalize y 10 = y10 at *; generalize y 11 = y11 at *; generalize y 12 = y12 at *; generalize y 13 = y13 at *
          clear hs
          subst p8
          subst p6
          go_wp2_with (go_at_call 201; refine (hP _).mono ?_; rintro e w2 ⟨v, rfl, hN, hb⟩)
          exact hK _ _ hN.any ⟨hB.trans (hb.mono hB.size), hC.nx hb⟩ (fun _ _ _ h => Sat.nx hb h)
        rcases i with _ | i
        · obtain rfl : _ = o := Option.some.inj ho
          have p7 : BigN 0 wr (y 7) z := hdep { on := 7, ground := .data } (by simp) rfl
          have p9 : BigN 0 wr (y 9) 9223372036854775808 := hdep { on := 9, ground := .data } (by simp) rfl
          have p6 : y 6 = _ := hdep { on := 6, ground := .guard } (by simp) rfl
          unfold StepTo
          simp only [↓reduceIte, Nat.zero_add, Nat.reduceAdd, Nat.reduceEqDiff, List.map_cons, List.map_nil, puts, updV, Act.put, List.setIfInBounds_toArray, List.set_cons_zero, List.set_cons_succ] at hK ⊢
          generalize y 0 = y0 at *; generalize y 1 = y1 at *; generalize y 2 = y2 at *; generalize y 3 = y3 at *; generalize y 4 = y4 at *; generalize y 5 = y5 at *; generalize y 6 = y6 at *; generalize y 7 = y7 at *; generalize y 8 = y8 at *; generalize y 9 = y9 at *; generalize y 10 = y10 at *; generalize y 11 = y11 at *; generalize y 12 = y12 at *; generalize y 13 = y13 at *
          clear hs
          subst p6
          go_wp2_with (go_at_call 276; refine (cmp_any _ _ _ _ _ p7 p9 hz sp).mono ?_; rintro e w2 ⟨rfl, hb⟩)
          exact hK _ _ rfl ⟨hB.trans (hb.mono hB.size), hC.nx hb⟩ (fun _ _ _ h => Sat.nx hb h)
        rcases i with _ | i
        · obtain rfl : _ = o := Option.some.inj ho
          have p10 : y 10 = _ := hdep { on := 10, ground := .data } (by simp) rfl
          have p6 : y 6 = _ := hdep { on := 6, ground := .guard } (by simp) rfl
          unfold StepTo
          simp only [↓reduceIte, Nat.zero_add, Nat.reduceAdd, Nat.reduceEqDiff, List.map_cons, List.map_nil, puts, updV, Act.put, List.setIfInBounds_toArray, List.set_cons_zero, List.set_cons_succ] at hK ⊢
          generalize y 0 = y0 at *; generalize y 1 = y1 at *; generalize y 2 = y2 at *; generalize y 3 = y3 at *; generalize y 4 = y4 at *; generalize y 5 = y5 at *; generalize y 6 = y6 at *; generalize y 7 = y7 at *; generalize y 8 = y8 at *; generalize y 9 = y9 at *; generalize y 10 = y10 at *; generalize y 11 = y11 at *; generalize y 12 = y12 at *; generalize y 13 = y13 at *
          clear hs
          subst p10
          subst p6
          go_wp2_with fail
          first | exact hK _ _ rfl hG (fun _ _ _ h => h) | exact ⟨rfl, hK _ _ rfl hG (fun _ _ _ h => h)⟩
        rcases i with _ | i
        · obtain rfl : _ = o := Option.some.inj ho
          have p6 : y 6 = _ := hdep { on := 6, ground := .data } (by simp) rfl
          have p11 : y 11 = _ := hdep { on := 11, ground := .data } (by simp) rfl
          unfold StepTo
          simp only [↓reduceIte, Nat.zero_add, Nat.reduceAdd, Nat.reduceEqDiff, List.map_cons, List.map_nil, puts, updV, Act.put, List.setIfInBounds_toArray, List.set_cons_zero, List.set_cons_succ] at hK ⊢
          generalize y 0 = y0 at *; generalize y 1 = y1 at *; generalize y 2 = y2 at *; generalize y 3 = y3 at *; generalize y 4 = y4 at *; generalize y 5 = y5 at *; generalize y 6 = y6 at *; generalize y 7 = y7 at *; generalize y 8 = y8 at *; generalize y 9 = y9 at *; generalize y 10 = y10 at *; generalize y 11 = y11 at *; generalize y 12 = y12 at *; generalize y 13 = y13 at *
          clear hs
          subst p6
          subst p11
          go_wp2_with fail
          first | exact hK _ _ rfl hG (fun _ _ _ h => h) | exact ⟨rfl, hK _ _ rfl hG (fun _ _ _ h => h)⟩
        rcases i with _ | i
        · obtain rfl : _ = o := Option.some.inj ho
          have p12 : y 12 = _ := hdep { on := 12, ground := .data } (by simp) rfl
          unfold StepTo
          simp only [↓reduceIte, Nat.zero_add, Nat.reduceAdd, Nat.reduceEqDiff, List.map_cons, List.map_nil, puts, updV, Act.put, List.setIfInBounds_toArray, List.set_cons_zero, List.set_cons_succ] at hK ⊢
          generalize y 0 = y0 at *; generalize y 1 = y1 at *; generalize y 2 = y2 at *; generalize y 3 = y3 at *; generalize y 4 = y4 at *; generalize y 5 = y5 at *; generalize y 6 = y6 at *; generalize y 7 = y7 at *; generalize y 8 = y8 at *; generalize y 9 = y9 at *; generalize y 10 = y10 at *; generalize y 11 = y11 at *; generalize y 12 = y12 at *; generalize y 13 = y13 at *
          clear hs
          subst p12
          go_wp2_with fail
          first | exact hK _ _ rfl hG (fun _ _ _ h => h) | exact ⟨rfl, hK _ _ rfl hG (fun _ _ _ h => h)⟩
        · exact absurd ho (by simp)
      case refine_2 =>
        intro y wr b hG hF hbs
        clear hbs
        obtain ⟨hB, hC⟩ := hG
        have p13 : y 13 = _ := hF 13 (by decide)
        simp only [Nat.zero_add, Nat.reduceAdd, List.map_cons, List.map_nil, puts, Act.put, List.setIfInBounds_toArray, List.set_cons_zero, List.set_cons_succ]
        generalize y 0 = y0 at *; generalize y 1 = y1 at *; generalize y 2 = y2 at *; generalize y 3 = y3 at *; generalize y 4 = y4 at *; generalize y 5 = y5 at *; generalize y 6 = y6 at *; generalize y 7 = y7 at *; generalize y 8 = y8 at *; generalize y 9 = y9 at *; generalize y 10 = y10 at *; generalize y 11 = y11 at *; generalize y 12 = y12 at *; generalize y 13 = y13 at *
        subst p13
        clear hF
        go_wp2_with fail
        go_returns
        exact ⟨(congrArg (fun b => Ending.returned (Value.bool b)) HR.out).symm, hB⟩
  · have e1 : decide (0 ≤ cmpI z (-9223372036854775808)) = false := by unfold cmpI; simp; omega
    have HR : Hid (decide (in64 z) = false) := decide_eq_false (fun h => h1 h.1)
    refine wp_region_dag' 14 [] id
      (SatL [bigS z, valS (.int .i64 63), bigS 9223372036854775808, bigS (-9223372036854775808), valS (.int .i64 (cmpI z (-9223372036854775808))), valS (.bool false), valS (.bool false), valS undef, valS undef, valS undef, valS undef, valS undef, valS (.bool false), valS (.bool false)])
      (fun b w' => Below w.heap.size w w' ∧ BgC w' w.heap.size z)
      (by kernel_rfl) (by kernel_rfl) (by kernel_rfl) (by kernel_rfl) ⟨below_drewN hb0 1, hC0.nx (below_drewN (Below.refl _ _) 1)⟩ ?_ ?_
    case refine_1 =>
      intro K i o y wr b ho hG hs hdep hK
      have hG' := hG
      obtain ⟨hB, hC⟩ := hG'
      rcases i with _ | i
      · obtain rfl : _ = o := Option.some.inj ho
        unfold StepTo
        simp only [↓reduceIte, Nat.zero_add, Nat.reduceAdd, Nat.reduceEqDiff, List.map_cons, List.map_nil, puts, updV, Act.put, List.setIfInBounds_toArray, List.set_cons_zero, List.set_cons_succ] at hK ⊢
        generalize y 0 = y0 at *; generalize y 1 = y1 at *; generalize y 2 = y2 at *; generalize y 3 = y3 at *; generalize y 4 = y4 at *; generalize y 5 = y5 at *; generalize y 6 = y6 at *; generalize y 7 = y7 at *; generalize y 8 = y8 at *; generalize y 9 = y9 at *; generalize y 10 = y10 at *; generalize y 11 = y11 at *; generalize y 12 = y12 at *; generalize y 13 = y13 at *
        clear hs
        obtain ⟨s1', A1', n1', c1', k1, hN⟩ := hC
        refine ldBig rfl _ rfl k1 rfl ?_
        exact ⟨rfl, hK _ _ hN hG (fun _ _ _ h => h)⟩
      rcases i with _ | i
      · obtain rfl : _ = o := Option.some.inj ho
        unfold StepTo
        simp only [↓reduceIte, Nat.zero_add, Nat.reduceAdd, Nat.reduceEqDiff, List.map_cons, List.map_nil, puts, updV, Act.put, List.setIfInBounds_toArray, List.set_cons_zero, List.set_cons_succ] at hK ⊢
        generalize y 0 = y0 at *; generalize y 1 = y1 at *; generalize y 2 = y2 at *; generalize y 3 = y3 at *; generalize y 4 = y4 at *; generalize y 5 = y5 at *; generalize y 6 = y6 at *; generalize y 7 = y7 at *; generalize y 8 = y8 at *; generalize y 9 = y9 at *; generalize y 10 = y10 at *; generalize y 11 = y11 at *; generalize y 12 = y12 at *; generalize y 13 = y13 at *
        clear hs
        go_wp2_with fail
        first | exact hK _ _ rfl hG (fun _ _ _ h => h) | exact ⟨rfl, hK _ _ rfl hG (fun _ _ _ h => h)⟩
      rcases i with _ | i
      · obtain rfl : _ = o := Option.some.inj ho
        have p1 : y 1 = _ := hdep { on := 1, ground := .data } (by simp) rfl
        unfold StepTo
        simp only [↓reduceIte, Nat.zero_add, Nat.reduceAdd, Nat.reduceEqDiff, List.map_cons, List.map_nil, puts, updV, Act.put, List.setIfInBounds_toArray, List.set_cons_zero, List.set_cons_succ] at hK ⊢
        generalize y 0 = y0 at *; generalize y 1 = y1 at *; generalize y 2 = y2 at *; generalize y 3 = y3 at *; generalize y 4 = y4 at *; generalize y 5 = y5 at *; generalize y 6 = y6 at *; generalize y 7 = y7 at *; generalize y 8 = y8 at *; generalize y 9 = y9 at *; generalize y 10 = y10 at *; generalize y 11 = y11 at *; generalize y 12 = y12 at *; generalize y 13 = y13 at *
        clear hs
        subst p1
        go_wp2_with (go_at_call 201; refine (hP _).mono ?_; rintro e w2 ⟨v, rfl, hN, hb⟩)
        exact hK _ _ hN.any ⟨hB.trans (hb.mono hB.size), hC.nx hb⟩ (fun _ _ _ h => Sat.nx hb h)
      rcases i with _ | i
      · obtain rfl : _ = o := Option.some.inj ho
        have p2 : BigN 0 wr (y 2) 9223372036854775808 := hdep { on := 2, ground := .data } (by simp) rfl
        unfold StepTo
        simp only [↓reduceIte, Nat.zero_add, Nat.reduceAdd, Nat.reduceEqDiff, List.map_cons, List.map_nil, puts, updV, Act.put, List.setIfInBounds_toArray, List.set_cons_zero, List.set_cons_succ] at hK ⊢
        generalize y 0 = y0 at *; generalize y 1 = y1 at *; generalize y 2 = y2 at *; generalize y 3 = y3 at *; generalize y 4 = y4 at *; generalize y 5 = y5 at *; generalize y 6 = y6 at *; generalize y 7 = y7 at *; generalize y 8 = y8 at *; generalize y 9 = y9 at *; generalize y 10 = y10 at *; generalize y 11 = y11 at *; generalize y 12 = y12 at *; generalize y 13 = y13 at *
        clear hs
        go_wp2_with (go_at_call 197; refine (neg_any _ _ _ p2 sp).mono ?_; rintro e w2 ⟨v, rfl, hN, hb⟩)
        exact hK _ _ hN.any ⟨hB.trans (hb.mono hB.size), hC.nx hb⟩ (fun _ _ _ h => Sat.nx hb h)
      rcases i with _ | i
      · obtain rfl : _ = o := Option.some.inj ho
        have p0 : BigN 0 wr (y 0) z := hdep { on := 0, ground := .data } (by simp) rfl
        have p3 : BigN 0 wr (y 3) (-9223372036854775808) := hdep { on := 3, ground := .data } (by simp) rfl
        unfold StepTo
        simp only [↓reduceIte, Nat.zero_add, Nat.reduceAdd, Nat.reduceEqDiff, List.map_cons, List.map_nil, puts, updV, Act.put, List.setIfInBounds_toArray, List.set_cons_zero, List.set_cons_succ] at hK ⊢
        generalize y 0 = y0 at *; generalize y 1 = y1 at *; generalize y 2 = y2 at *; generalize y 3 = y3 at *; generalize y 4 = y4 at *; generalize y 5 = y5 at *; generalize y 6 = y6 at *; generalize y 7 = y7 at *; generalize y 8 = y8 at *; generalize y 9 = y9 at *; generalize y 10 = y10 at *; generalize y 11 = y11 at *; generalize y 12 = y12 at *; generalize y 13 = y13 at *
        clear hs
        go_wp2_with (go_at_call 276; refine (cmp_any _ _ _ _ _ p0 p3 hz sn).mono ?_; rintro e w2 ⟨rfl, hb⟩)
        exact hK _ _ rfl ⟨hB.trans (hb.mono hB.size), hC.nx hb⟩ (fun _ _ _ h => Sat.nx hb h)
      rcases i with _ | i
      · obtain rfl : _ = o := Option.some.inj ho
        have p4 : y 4 = _ := hdep { on := 4, ground := .data } (by simp) rfl
        unfold StepTo
        simp only [↓reduceIte, Nat.zero_add, Nat.reduceAdd, Nat.reduceEqDiff, List.map_cons, List.map_nil, puts, updV, Act.put, List.setIfInBounds_toArray, List.set_cons_zero, List.set_cons_succ] at hK ⊢
        generalize y 0 = y0 at *; generalize y 1 = y1 at *; generalize y 2 = y2 at *; generalize y 3 = y3 at *; generalize y 4 = y4 at *; generalize y 5 = y5 at *; generalize y 6 = y6 at *; generalize y 7 = y7 at *; generalize y 8 = y8 at *; generalize y 9 = y9 at *; generalize y 10 = y10 at *; generalize y 11 = y11 at *; generalize y 12 = y12 at *; generalize y 13 = y13 at *
        clear hs
        subst p4
        go_wp2_with fail
        first | exact hK _ _ rfl hG (fun _ _ _ h => h) | exact ⟨rfl, hK _ _ rfl hG (fun _ _ _ h => h)⟩
      rcases i with _ | i
      · obtain rfl : _ = o := Option.some.inj ho
        have p5 : y 5 = _ := hdep { on := 5, ground := .data } (by simp) rfl
        unfold StepTo
        simp only [↓reduceIte, Nat.zero_add, Nat.reduceAdd, Nat.reduceEqDiff, List.map_cons, List.map_nil, puts, updV, Act.put, List.setIfInBounds_toArray, List.set_cons_zero, List.set_cons_succ] at hK ⊢
        generalize y 0 = y0 at *; generalize y 1 = y1 at *; generalize y 2 = y2 at *; generalize y 3 = y3 at *; generalize y 4 = y4 at *; generalize y 5 = y5 at *; generalize y 6 = y6 at *; generalize y 7 = y7 at *; generalize y 8 = y8 at *; generalize y 9 = y9 at *; generalize y 10 = y10 at *; generalize y 11 = y11 at *; generalize y 12 = y12 at *; generalize y 13 = y13 at *
        clear hs
        subst p5
        go_wp2_with fail
        first | exact hK _ _ rfl hG (fun _ _ _ h => h) | exact ⟨rfl, hK _ _ rfl hG (fun _ _ _ h => h)⟩
      rcases i with _ | i
      · obtain rfl : _ = o := Option.some.inj ho
        have p6 : y 6 = _ := hdep { on := 6, ground := .guard } (by simp) rfl
        unfold StepTo
        simp only [↓reduceIte, Nat.zero_add, Nat.reduceAdd, Nat.reduceEqDiff, List.map_cons, List.map_nil, puts, updV, Act.put, List.setIfInBounds_toArray, List.set_cons_zero, List.set_cons_succ] at hK ⊢
        generalize y 0 = y0 at *; generalize y 1 = y1 at *; generalize y 2 = y2 at *; generalize y 3 = y3 at *; generalize y 4 = y4 at *; generalize y 5 = y5 at *; generalize y 6 = y6 at *; generalize y 7 = y7 at *; generalize y 8 = y8 at *; generalize y 9 = y9 at *; generalize y 10 = y10 at *; generalize y 11 = y11 at *; generalize y 12 = y12 at *; generalize y 13 = y13 at *
        clear hs
        subst p6
        go_wp2_with fail
        first | exact hK _ _ rfl hG (fun _ _ _ h => h) | exact ⟨rfl, hK _ _ rfl hG (fun _ _ _ h => h)⟩
      rcases i with _ | i
      · obtain rfl : _ = o := Option.some.inj ho
        have p6 : y 6 = _ := hdep { on := 6, ground := .guard } (by simp) rfl
        unfold StepTo
        simp only [↓reduceIte, Nat.zero_add, Nat.reduceAdd, Nat.reduceEqDiff, List.map_cons, List.map_nil, puts, updV, Act.put, List.setIfInBounds_toArray, List.set_cons_zero, List.set_cons_succ] at hK ⊢
        generalize y 0 = y0 at *; generalize y 1 = y1 at *; generalize y 2 = y2 at *; generalize y 3 = y3 at *; generalize y 4 = y4 at *; generalize y 5 = y5 at *; generalize y 6 = y6 at *; generalize y 7 = y7 at *; generalize y 8 = y8 at *; generalize y 9 = y9 at *; generalize y 10 = y10 at *; generalize y 11 = y11 at *; generalize y 12 = y12 at *; generalize y 13 = y13 at *
        clear hs
        subst p6
        go_wp2_with fail
        first | exact hK _ _ rfl hG (fun _ _ _ h => h) | exact ⟨rfl, hK _ _ rfl hG (fun _ _ _ h => h)⟩
      rcases i with _ | i
      · obtain rfl : _ = o := Option.some.inj ho
        have p8 : y 8 = _ := hdep { on := 8, ground := .data } (by simp) rfl
        have p6 : y 6 = _ := hdep { on := 6, ground := .guard } (by simp) rfl
        unfold StepTo
        simp only [↓reduceIte, Nat.zero_add, Nat.reduceAdd, Nat.reduceEqDiff, List.map_cons, List.map_nil, puts, updV, Act.put, List.setIfInBounds_toArray, List.set_cons_zero, List.set_cons_succ] at hK ⊢
        generalize y 0 = y0 at *; generalize y 1 = y1 at *; generalize y 2 = y2 at *; generalize y 3 = y3 at *; generalize y 4 = y4 at *; generalize y 5 = y5 at *; generalize y 6 = y6 at *; generalize y 7 = y7 at *; generalize y 8 = y8 at *; generalize y 9 = y9 at *; generalize y 10 = y10 at *; generalize y 11 = y11 at *; generalize y 12 = y12 at *; generalize y 13 = y13 at *
        clear hs
        subst p8
        subst p6
        go_wp2_with fail
        first | exact hK _ _ rfl hG (fun _ _ _ h => h) | exact ⟨rfl, hK _ _ rfl hG (fun _ _ _ h => h)⟩
      rcases i with _ | i
      · obtain rfl : _ = o := Option.some.inj ho
        have p7 : y 7 = _ := hdep { on := 7, ground := .data } (by simp) rfl
        have p9 : y 9 = _ := hdep { on := 9, ground := .data } (by simp) rfl
        have p6 : y 6 = _ := hdep { on := 6, ground := .guard } (by simp) rfl
        unfold StepTo
        simp only [↓reduceIte, Nat.zero_add, Nat.reduceAdd, Nat.reduceEqDiff, List.map_cons, List.map_nil, puts, updV, Act.put, List.setIfInBounds_toArray, List.set_cons_zero, List.set_cons_succ] at hK ⊢
        generalize y 0 = y0 at *; generalize y 1 = y1 at *; generalize y 2 = y2 at *; generalize y 3 = y3 at *; generalize y 4 = y4 at *; generalize y 5 = y5 at *; generalize y 6 = y6 at *; generalize y 7 = y7 at *; generalize y 8 = y8 at *; generalize y 9 = y9 at *; generalize y 10 = y10 at *; generalize y 11 = y11 at *; generalize y 12 = y12 at *; generalize y 13 = y13 at *
        clear hs
        subst p7
        subst p9
        subst p6
        go_wp2_with fail
        first | exact hK _ _ rfl hG (fun _ _ _ h => h) | exact ⟨rfl, hK _ _ rfl hG (fun _ _ _ h => h)⟩
      rcases i with _ | i
      · obtain rfl : _ = o := Option.some.inj ho
        have p10 : y 10 = _ := hdep { on := 10, ground := .data } (by simp) rfl
        have p6 : y 6 = _ := hdep { on := 6, ground := .guard } (by simp) rfl
        unfold StepTo
        simp only [↓reduceIte, Nat.zero_add, Nat.reduceAdd, Nat.reduceEqDiff, List.map_cons, List.map_nil, puts, updV, Act.put, List.setIfInBounds_toArray, List.set_cons_zero, List.set_cons_succ] at hK ⊢
        generalize y 0 = y0 at *; generalize y 1 = y1 at *; generalize y 2 = y2 at *; generalize y 3 = y3 at *; generalize y 4 = y4 at *; generalize y 5 = y5 at *; generalize y 6 = y6 at *; generalize y 7 = y7 at *; generalize y 8 = y8 at *; generalize y 9 = y9 at *; generalize y 10 = y10 at *; generalize y 11 = y11 at *; generalize y 12 = y12 at *; generalize y 13 = y13 at *
        clear hs
        subst p10
        subst p6
        go_wp2_with fail
        first | exact hK _ _ rfl hG (fun _ _ _ h => h) | exact ⟨rfl, hK _ _ rfl hG (fun _ _ _ h => h)⟩
      rcases i with _ | i
      · obtain rfl : _ = o := Option.some.inj ho
        have p6 : y 6 = _ := hdep { on := 6, ground := .data } (by simp) rfl
        have p11 : y 11 = _ := hdep { on := 11, ground := .data } (by simp) rfl
        unfold StepTo
        simp only [↓reduceIte, Nat.zero_add, Nat.reduceAdd, Nat.reduceEqDiff, List.map_cons, List.map_nil, puts, updV, Act.put, List.setIfInBounds_toArray, List.set_cons_zero, List.set_cons_succ] at hK ⊢
        generalize y 0 = y0 at *; generalize y 1 = y1 at *; generalize y 2 = y2 at *; generalize y 3 = y3 at *; generalize y 4 = y4 at *; generalize y 5 = y5 at *; generalize y 6 = y6 at *; generalize y 7 = y7 at *; generalize y 8 = y8 at *; generalize y 9 = y9 at *; generalize y 10 = y10 at *; generalize y 11 = y11 at *; generalize y 12 = y12 at *; generalize y 13 = y13 at *
        clear hs
        subst p6
        subst p11
        go_wp2_with fail
        first | exact hK _ _ rfl hG (fun _ _ _ h => h) | exact ⟨rfl, hK _ _ rfl hG (fun _ _ _ h => h)⟩
      rcases i with _ | i
      · obtain rfl : _ = o := Option.some.inj ho
        have p12 : y 12 = _ := hdep { on := 12, ground := .data } (by simp) rfl
        unfold StepTo
        simp only [↓reduceIte, Nat.zero_add, Nat.reduceAdd, Nat.reduceEqDiff, List.map_cons, List.map_nil, puts, updV, Act.put, List.setIfInBounds_toArray, List.set_cons_zero, List.set_cons_succ] at hK ⊢
        generalize y 0 = y0 at *; generalize y 1 = y1 at *; generalize y 2 = y2 at *; generalize y 3 = y3 at *; generalize y 4 = y4 at *; generalize y 5 = y5 at *; generalize y 6 = y6 at *; generalize y 7 = y7 at *; generalize y 8 = y8 at *; generalize y 9 = y9 at *; generalize y 10 = y10 at *; generalize y 11 = y11 at *; generalize y 12 = y12 at *; generalize y 13 = y13 at *
        clear hs
        subst p12
        go_wp2_with fail
        first | exact hK _ _ rfl hG (fun _ _ _ h => h) | exact ⟨rfl, hK _ _ rfl hG (fun _ _ _ h => h)⟩
      · exact absurd ho (by simp)
    case refine_2 =>
      intro y wr b hG hF hbs
      clear hbs
      obtain ⟨hB, hC⟩ := hG
      have p13 : y 13 = _ := hF 13 (by decide)
      simp only [Nat.zero_add, Nat.reduceAdd, List.map_cons, List.map_nil, puts, Act.put, List.setIfInBounds_toArray, List.set_cons_zero, List.set_cons_succ]
      generalize y 0 = y0 at *; generalize y 1 = y1 at *; generalize y 2 = y2 at *; generalize y 3 = y3 at *; generalize y 4 = y4 at *; generalize y 5 = y5 at *; generalize y 6 = y6 at *; generalize y 7 = y7 at *; generalize y 8 = y8 at *; generalize y 9 = y9 at *; generalize y 10 = y10 at *; generalize y 11 = y11 at *; generalize y 12 = y12 at *; generalize y 13 = y13 at *
      subst p13
      clear hF
      go_wp2_with fail
      go_returns
      exact ⟨(congrArg (fun b => Ending.returned (Value.bool b)) HR.out).symm, hB⟩
end Go.Proofs.YtgohbkkeppknoaaGreatDoor
end
