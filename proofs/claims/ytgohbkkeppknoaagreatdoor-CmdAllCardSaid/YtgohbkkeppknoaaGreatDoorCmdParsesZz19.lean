/- Several texts in one: The reference's numbers in parts as texts. (Printed by wip/tools/gennc5.py.) -/
import Derived.Test.YtgohbkkeppknoaaGreatDoorCmdParsesZz18
import Derived.Test.YtgohbkkeppknoaaGreatDoorCmdParsesZz8
section
set_option linter.unusedVariables false
namespace Go.Proofs.YtgohbkkeppknoaaGreatDoor
open Go.RowKit
open Go.Lib (decDigits itoa nDigits)
theorem p16 : (2 : Int) ^ 16 = 65536 := by decide
theorem itoa_nat (n : Nat) : itoa (n : Int) = decDigits n := by
  unfold Go.Lib.itoa
  rw [if_neg (by omega)]
  congr 1
theorem dec_len (n : Nat) (h : n < 10 ^ 20) : (decDigits n).length ≤ 20 := by
  rw [Go.Lib.decDigits_length]
  exact nd_le 19 n h
def headL (x : Int) (P : Nat) : List UInt8 := (if x < 0 then [45] else []) ++ (decDigits (x.natAbs / 65536) ++ (if P = 0 then [] else [46]))
theorem headL_len (x : Int) (P : Nat) (h : x.natAbs ≤ 9223372036854775808) : (headL x P).length ≤ 22 := by
  have := dec_len (x.natAbs / 65536) (by have : x.natAbs / 65536 ≤ x.natAbs := Nat.div_le_self _ _; omega)
  unfold headL
  rw [List.length_append, List.length_append]
  split <;> split <;> simp <;> omega
theorem showL_head (x : Int) : showL x = headL x (x.natAbs % 65536) ++ fracF 16 (x.natAbs % 65536) := by
  unfold showL headL ptL
  by_cases h : x.natAbs % 65536 = 0
  · rw [if_pos h, if_pos h, h, fracF_zero]; simp
  · rw [if_neg h, if_neg h]; simp
set_option maxRecDepth 100000 in
set_option maxHeartbeats 32000000 in
theorem rshow_any (x : Int) (hx : in64 x) (w : World) : Calls Tryz.prog 149 #[.int .i64 x] w fun e w' => e = .returned (strV (showL x)) ∧ Below w.heap.size w w' := by
  obtain ⟨x0, x1⟩ := hx
  have hO := fun w' => of_any x w' x0 x1
  have hP := fun w' => pow_any1 16 w' (by omega)
  rw [p16] at hP
  have s16 : Sm 65536 := sm_of (by omega) (by omega)
  have b16 : ((65536 : Int).natAbs : Int) < Bp 38 := by have := Bp_mono (show 4 ≤ 38 by decide); rw [Bp4] at this; omega
  obtain ⟨X, hX⟩ : ∃ X, x.natAbs = X := ⟨_, rfl⟩
  have hXb : X ≤ 9223372036854775808 := by omega
  have sX : Sm (X : Int) := sm_of (by omega) (by omega)
  obtain ⟨W, hW⟩ : ∃ W, X / 65536 = W := ⟨_, rfl⟩
  obtain ⟨P, hPP⟩ : ∃ P, X % 65536 = P := ⟨_, rfl⟩
  have hWb : W ≤ 140737488355328 := by omega
  have hPb : P < 65536 := by omega
  have sW : Sm (W : Int) := sm_of (by omega) (by omega)
  have sW6 : Sm ((W : Int) * 65536) := sm_of (by omega) (by omega)
  have hfl : flo (X : Int) 65536 = (W : Int) := by unfold flo; omega
  have hsb : (X : Int) - (W : Int) * 65536 = (P : Int) := by omega
  have HS : Hid (showL x = headL x P ++ fracF 16 P) := by show _ = _; rw [showL_head, hX, hPP]
  have HL := Lib.hid (headL_len x P (by omega))
  have hTx := fun w' v (h : BigN 0 w' v W) => rtext_any v W w' h (by rw [Int.natAbs_natCast]; exact Nat.lt_of_le_of_lt hWb (by decide))
  rw [itoa_nat] at hTx
  unfold strV at hTx
  have HD : Hid (decDigits W = decDigits (x.natAbs / 65536)) := by show _ = _; rw [hX, hW]
  have HDL : Hid ((decDigits W).length ≤ 20) := dec_len W (Nat.lt_of_le_of_lt hWb (by decide))
  have HX := Lib.hid hX
  clear hW hPP hX
  go_enter Tryz.func149, Tryz.ntmps149
  go_upto_region 2 with (first
    | (go_at_call 151; (with_reducible refine (hO _).mono ?_); rintro e w1 ⟨v1, rfl, hN1, hb1⟩; obtain ⟨s1, A1, n1, c1, rfl⟩ := hN1.shape; have hK1 := Bk.new w1 200 #[.bool false, .slice none 0 0]; have hN1a := (hN1.alloc (.cells #[.bool false, .slice none 0 0] 200)).any)
    | (refine stBig rfl _ _ rfl hK1 rfl rfl rfl ?_; intro w2 hK2 hg2 hs2))
  have hN2 : BigN 0 w2 (.agg #[.bool s1, .slice A1 n1 c1]) x := hN1a.gbig hK1 hg2
  have hbel0 : Below w.heap.size w w2 := below_of_gb (hb1.alloc hb1.size _) hg2 hb1.size (hb1.alloc hb1.size _).size
  have hgg : w.heap.size ≤ w1.heap.size := hb1.size
  obtain ⟨g3, hg3⟩ : ∃ g3, w1.heap.size = g3 := ⟨_, rfl⟩
  rw [hg3] at hgg hK2
  simp only [hg3]
  have hA0 : BigN 0 w2 (.agg #[.bool false, .slice A1 n1 c1]) (X : Int) := by have := hN2.abs; rw [HX.out] at this; exact this
  clear hg3 hO hb1 hN1 hK1 hN1a hg2 hs2 hN2
  refine wp_region_dag' 7 [] (fun i => if i = 6 then 5 else i)
    (DagF [valS (.pointer (some ⟨g3, 1, none⟩)), valS (.slice A1 n1 c1), bigS X, bigS 65536, bigS W] 5 6 g3 (W : Int))
    (fun b w' => Below w.heap.size w w' ∧ Bk w' g3 200 #[.bool s1, .slice A1 n1 c1] ∧ BigN 0 w' (.agg #[.bool false, .slice A1 n1 c1]) (X : Int))
    (by kernel_rfl) (by kernel_rfl) (by kernel_rfl) (by kernel_rfl) ⟨below_drewN hbel0 1, hK2, hA0⟩ ?_ ?_
  case refine_1 =>
    intro K i o y wr b ho hG hs hdep hK
    have hG' := hG
    obtain ⟨hB, hk3, hA⟩ := hG'
    rcases i with _ | i
    · obtain rfl : _ = o := Option.some.inj ho
      unfold StepTo
      simp only [↓reduceIte, Nat.zero_add, Nat.reduceAdd, Nat.reduceEqDiff, List.map_cons, List.map_nil, puts, updV, Act.put, List.setIfInBounds_toArray, List.set_cons_zero, List.set_cons_succ] at hK ⊢
      generalize y 0 = y0 at *; generalize y 1 = y1 at *; generalize y 2 = y2 at *; generalize y 3 = y3 at *; generalize y 4 = y4 at *; generalize y 5 = y5 at *; generalize y 6 = y6 at *
      clear hs
      go_wp2_with fail
      first | exact hK _ _ rfl hG (fun _ _ _ h => h) | exact ⟨rfl, hK _ _ rfl hG (fun _ _ _ h => h)⟩
    rcases i with _ | i
    · obtain rfl : _ = o := Option.some.inj ho
      have p0 : y 0 = _ := hdep { on := 0, ground := .data } (by simp) rfl
      unfold StepTo
      simp only [↓reduceIte, Nat.zero_add, Nat.reduceAdd, Nat.reduceEqDiff, List.map_cons, List.map_nil, puts, updV, Act.put, List.setIfInBounds_toArray, List.set_cons_zero, List.set_cons_succ] at hK ⊢
      generalize y 0 = y0 at *; generalize y 1 = y1 at *; generalize y 2 = y2 at *; generalize y 3 = y3 at *; generalize y 4 = y4 at *; generalize y 5 = y5 at *; generalize y 6 = y6 at *
      clear hs
      subst p0
      obtain ⟨d0, d1⟩ := hk3.cell2
      go_wp2_with fail
      first | exact hK _ _ rfl hG (fun _ _ _ h => h) | exact ⟨rfl, hK _ _ rfl hG (fun _ _ _ h => h)⟩
    rcases i with _ | i
    · obtain rfl : _ = o := Option.some.inj ho
      have p1 : y 1 = _ := hdep { on := 1, ground := .data } (by simp) rfl
      unfold StepTo
      simp only [↓reduceIte, Nat.zero_add, Nat.reduceAdd, Nat.reduceEqDiff, List.map_cons, List.map_nil, puts, updV, Act.put, List.setIfInBounds_toArray, List.set_cons_zero, List.set_cons_succ] at hK ⊢
      generalize y 0 = y0 at *; generalize y 1 = y1 at *; generalize y 2 = y2 at *; generalize y 3 = y3 at *; generalize y 4 = y4 at *; generalize y 5 = y5 at *; generalize y 6 = y6 at *
      clear hs
      subst p1
      go_wp2_with fail
      exact hK _ _ hA hG (fun _ _ _ h => h)
    rcases i with _ | i
    · obtain rfl : _ = o := Option.some.inj ho
      unfold StepTo
      simp only [↓reduceIte, Nat.zero_add, Nat.reduceAdd, Nat.reduceEqDiff, List.map_cons, List.map_nil, puts, updV, Act.put, List.setIfInBounds_toArray, List.set_cons_zero, List.set_cons_succ] at hK ⊢
      generalize y 0 = y0 at *; generalize y 1 = y1 at *; generalize y 2 = y2 at *; generalize y 3 = y3 at *; generalize y 4 = y4 at *; generalize y 5 = y5 at *; generalize y 6 = y6 at *
      clear hs
      go_wp2_with (go_at_call 201; refine (hP _).mono ?_; rintro e w2 ⟨v, rfl, hN, hb⟩)
      exact hK _ _ hN.any ⟨hB.trans (hb.mono hB.size), hk3.nx hb, hA.nx hb⟩ (fun _ _ _ h => DagF.nx hb h)
    rcases i with _ | i
    · obtain rfl : _ = o := Option.some.inj ho
      have p2 : BigN 0 wr (y 2) X := hdep { on := 2, ground := .data } (by simp) rfl
      have p3 : BigN 0 wr (y 3) 65536 := hdep { on := 3, ground := .data } (by simp) rfl
      unfold StepTo
      simp only [↓reduceIte, Nat.zero_add, Nat.reduceAdd, Nat.reduceEqDiff, List.map_cons, List.map_nil, puts, updV, Act.put, List.setIfInBounds_toArray, List.set_cons_zero, List.set_cons_succ] at hK ⊢
      generalize y 0 = y0 at *; generalize y 1 = y1 at *; generalize y 2 = y2 at *; generalize y 3 = y3 at *; generalize y 4 = y4 at *; generalize y 5 = y5 at *; generalize y 6 = y6 at *
      clear hs
      go_wp2_with (go_at_call 202; refine (floor_any _ _ _ _ _ p2 p3 (by omega) sX b16).mono ?_; rintro e w2 ⟨v, rfl, hN, hb⟩)
      exact hK _ _ (by rw [hfl] at hN; exact hN.any) ⟨hB.trans (hb.mono hB.size), hk3.nx hb, hA.nx hb⟩ (fun _ _ _ h => DagF.nx hb h)
    rcases i with _ | i
    · obtain rfl : _ = o := Option.some.inj ho
      unfold StepTo
      simp only [↓reduceIte, Nat.zero_add, Nat.reduceAdd, Nat.reduceEqDiff, List.map_cons, List.map_nil, puts, updV, Act.put, List.setIfInBounds_toArray, List.set_cons_zero, List.set_cons_succ] at hK ⊢
      generalize y 0 = y0 at *; generalize y 1 = y1 at *; generalize y 2 = y2 at *; generalize y 3 = y3 at *; generalize y 4 = y4 at *; generalize y 5 = y5 at *; generalize y 6 = y6 at *
      clear hs
      have hb := (Below.refl wr.heap.size wr).alloc (Nat.le_refl _) (.cells #[.bool false, .slice none 0 0] 200)
      have hlt4 : g3 < wr.heap.size := hk3.lt
      go_wp2_with fail
      exact hK _ _ ⟨_, rfl, hlt4, _, _, _, _, Bk.new _ _ _⟩ ⟨hB.alloc hB.size _, hk3.nx hb, hA.nx hb⟩ (fun _ _ _ h => DagF.nx hb h)
    rcases i with _ | i
    · obtain rfl : _ = o := Option.some.inj ho
      have p4 : BigN 0 wr (y 4) W := hdep { on := 4, ground := .data } (by simp) rfl
      have p5 : ∃ g, (y 5) = .pointer (some ⟨g, 0, none⟩) ∧ g3 < g ∧ ∃ b A n c, Bk wr g 200 #[.bool b, .slice A n c] := hdep { on := 5, ground := .data } (by simp) rfl
      unfold StepTo
      simp only [↓reduceIte, Nat.zero_add, Nat.reduceAdd, Nat.reduceEqDiff, List.map_cons, List.map_nil, puts, updV, Act.put, List.setIfInBounds_toArray, List.set_cons_zero, List.set_cons_succ] at hK ⊢
      generalize y 0 = y0 at *; generalize y 1 = y1 at *; generalize y 2 = y2 at *; generalize y 3 = y3 at *; generalize y 4 = y4 at *; generalize y 5 = y5 at *; generalize y 6 = y6 at *
      clear hs
      obtain ⟨g, rfl, hlg, b5, A5, n5, c5, k5⟩ := p5
      obtain ⟨s9, A9, n9, c9, rfl⟩ := p4.shape
      refine stBig rfl _ _ rfl k5 rfl rfl rfl ?_
      intro w2 hk hg hs2
      exact ⟨rfl, hK undef _ ⟨g, rfl, _, _, _, _, hk, p4.gbig k5 hg⟩ ⟨below_of_gb hB hg (by omega) hB.size, hk3.grown hg (fun e => by injection e with e; omega), hA.gbig k5 hg⟩ (fun _ _ _ h => DagF.gb k5 hg hk p4 h)⟩
    · exact absurd ho (by simp)
  case refine_2 =>
    intro y wr b hG hF hbs
    clear hbs
    obtain ⟨hB, hk3, hA⟩ := hG
    have p5 : ∃ g, y 5 = .pointer (some ⟨g, 0, none⟩) ∧ g3 < g ∧ _ := hF 5 (by decide)
    have p6 : ∃ g, y 5 = .pointer (some ⟨g, 0, none⟩) ∧ BgC wr g W := hF 6 (by decide)
    obtain ⟨g4, e3, hgg4, -⟩ := p5
    obtain ⟨g9', e3', hCg4⟩ := p6
    rw [e3] at e3'
    injection e3' with e3'
    injection e3' with e3'
    injection e3' with e3'
    subst e3'
    simp only [Nat.zero_add, Nat.reduceAdd, List.map_cons, List.map_nil, puts, Act.put, List.setIfInBounds_toArray, List.set_cons_zero, List.set_cons_succ]
    generalize y 0 = y0 at *; generalize y 1 = y1 at *; generalize y 2 = y2 at *; generalize y 3 = y3 at *; generalize y 4 = y4 at *; generalize y 5 = y5 at *; generalize y 6 = y6 at *
    subst e3
    clear hF
    go_upto_region 3 with fail
    refine wp_region_dag' 9 [] (fun i => if i = 8 then 7 else i)
      (DagF [valS (.pointer (some ⟨g3, 1, none⟩)), valS (.slice A1 n1 c1), bigS X, bigS W, bigS 65536, bigS (W * 65536), bigS P] 7 8 g4 (P : Int))
      (fun b w' => Below w.heap.size w w' ∧ Bk w' g3 200 #[.bool s1, .slice A1 n1 c1] ∧ BigN 0 w' (.agg #[.bool false, .slice A1 n1 c1]) (X : Int) ∧ BgC w' g4 (W : Int))
      (by kernel_rfl) (by kernel_rfl) (by kernel_rfl) (by kernel_rfl) ⟨below_drewN hB 1, hk3, hA.nx (below_drewN (Below.refl _ _) 1), hCg4.nx (below_drewN (Below.refl _ _) 1)⟩ ?_ ?_
    case refine_1 =>
      intro K i o y wr b ho hG hs hdep hK
      have hG' := hG
      obtain ⟨hB, hk3, hA, hC4⟩ := hG'
      rcases i with _ | i
      · obtain rfl : _ = o := Option.some.inj ho
        unfold StepTo
        simp only [↓reduceIte, Nat.zero_add, Nat.reduceAdd, Nat.reduceEqDiff, List.map_cons, List.map_nil, puts, updV, Act.put, List.setIfInBounds_toArray, List.set_cons_zero, List.set_cons_succ] at hK ⊢
        generalize y 0 = y0 at *; generalize y 1 = y1 at *; generalize y 2 = y2 at *; generalize y 3 = y3 at *; generalize y 4 = y4 at *; generalize y 5 = y5 at *; generalize y 6 = y6 at *; generalize y 7 = y7 at *; generalize y 8 = y8 at *
        clear hs
        go_wp2_with fail
        first | exact hK _ _ rfl hG (fun _ _ _ h => h) | exact ⟨rfl, hK _ _ rfl hG (fun _ _ _ h => h)⟩
      rcases i with _ | i
      · obtain rfl : _ = o := Option.some.inj ho
        have p0 : y 0 = _ := hdep { on := 0, ground := .data } (by simp) rfl
        unfold StepTo
        simp only [↓reduceIte, Nat.zero_add, Nat.reduceAdd, Nat.reduceEqDiff, List.map_cons, List.map_nil, puts, updV, Act.put, List.setIfInBounds_toArray, List.set_cons_zero, List.set_cons_succ] at hK ⊢
        generalize y 0 = y0 at *; generalize y 1 = y1 at *; generalize y 2 = y2 at *; generalize y 3 = y3 at *; generalize y 4 = y4 at *; generalize y 5 = y5 at *; generalize y 6 = y6 at *; generalize y 7 = y7 at *; generalize y 8 = y8 at *
        clear hs
        subst p0
        obtain ⟨d0, d1⟩ := hk3.cell2
        go_wp2_with fail
        first | exact hK _ _ rfl hG (fun _ _ _ h => h) | exact ⟨rfl, hK _ _ rfl hG (fun _ _ _ h => h)⟩
      rcases i with _ | i
      · obtain rfl : _ = o := Option.some.inj ho
        have p1 : y 1 = _ := hdep { on := 1, ground := .data } (by simp) rfl
        unfold StepTo
        simp only [↓reduceIte, Nat.zero_add, Nat.reduceAdd, Nat.reduceEqDiff, List.map_cons, List.map_nil, puts, updV, Act.put, List.setIfInBounds_toArray, List.set_cons_zero, List.set_cons_succ] at hK ⊢
        generalize y 0 = y0 at *; generalize y 1 = y1 at *; generalize y 2 = y2 at *; generalize y 3 = y3 at *; generalize y 4 = y4 at *; generalize y 5 = y5 at *; generalize y 6 = y6 at *; generalize y 7 = y7 at *; generalize y 8 = y8 at *
        clear hs
        subst p1
        go_wp2_with fail
        exact hK _ _ hA hG (fun _ _ _ h => h)
      rcases i with _ | i
      · obtain rfl : _ = o := Option.some.inj ho
        unfold StepTo
        simp only [↓reduceIte, Nat.zero_add, Nat.reduceAdd, Nat.reduceEqDiff, List.map_cons, List.map_nil, puts, updV, Act.put, List.setIfInBounds_toArray, List.set_cons_zero, List.set_cons_succ] at hK ⊢
        generalize y 0 = y0 at *; generalize y 1 = y1 at *; generalize y 2 = y2 at *; generalize y 3 = y3 at *; generalize y 4 = y4 at *; generalize y 5 = y5 at *; generalize y 6 = y6 at *; generalize y 7 = y7 at *; generalize y 8 = y8 at *
        clear hs
        obtain ⟨s1', A1', n1', c1', k1, hN⟩ := hC4
        refine ldBig rfl _ rfl k1 rfl ?_
        exact ⟨rfl, hK _ _ hN hG (fun _ _ _ h => h)⟩
      rcases i with _ | i
      · obtain rfl : _ = o := Option.some.inj ho
        unfold StepTo
        simp only [↓reduceIte, Nat.zero_add, Nat.reduceAdd, Nat.reduceEqDiff, List.map_cons, List.map_nil, puts, updV, Act.put, List.setIfInBounds_toArray, List.set_cons_zero, List.set_cons_succ] at hK ⊢
        generalize y 0 = y0 at *; generalize y 1 = y1 at *; generalize y 2 = y2 at *; generalize y 3 = y3 at *; generalize y 4 = y4 at *; generalize y 5 = y5 at *; generalize y 6 = y6 at *; generalize y 7 = y7 at *; generalize y 8 = y8 at *
        clear hs
        go_wp2_with (go_at_call 201; refine (hP _).mono ?_; rintro e w2 ⟨v, rfl, hN, hb⟩)
        exact hK _ _ hN.any ⟨hB.trans (hb.mono hB.size), hk3.nx hb, hA.nx hb, hC4.nx hb⟩ (fun _ _ _ h => DagF.nx hb h)
      rcases i with _ | i
      · obtain rfl : _ = o := Option.some.inj ho
        have p3 : BigN 0 wr (y 3) W := hdep { on := 3, ground := .data } (by simp) rfl
        have p4 : BigN 0 wr (y 4) 65536 := hdep { on := 4, ground := .data } (by simp) rfl
        unfold StepTo
        simp only [↓reduceIte, Nat.zero_add, Nat.reduceAdd, Nat.reduceEqDiff, List.map_cons, List.map_nil, puts, updV, Act.put, List.setIfInBounds_toArray, List.set_cons_zero, List.set_cons_succ] at hK ⊢
        generalize y 0 = y0 at *; generalize y 1 = y1 at *; generalize y 2 = y2 at *; generalize y 3 = y3 at *; generalize y 4 = y4 at *; generalize y 5 = y5 at *; generalize y 6 = y6 at *; generalize y 7 = y7 at *; generalize y 8 = y8 at *
        clear hs
        go_wp2_with (go_at_call 196; refine (mul_any _ _ _ _ _ p3 p4 sW s16).mono ?_; rintro e w2 ⟨v, rfl, hN, hb⟩)
        exact hK _ _ hN.any ⟨hB.trans (hb.mono hB.size), hk3.nx hb, hA.nx hb, hC4.nx hb⟩ (fun _ _ _ h => DagF.nx hb h)
      rcases i with _ | i
      · obtain rfl : _ = o := Option.some.inj ho
        have p2 : BigN 0 wr (y 2) X := hdep { on := 2, ground := .data } (by simp) rfl
        have p5 : BigN 0 wr (y 5) (W * 65536) := hdep { on := 5, ground := .data } (by simp) rfl
        unfold StepTo
        simp only [↓reduceIte, Nat.zero_add, Nat.reduceAdd, Nat.reduceEqDiff, List.map_cons, List.map_nil, puts, updV, Act.put, List.setIfInBounds_toArray, List.set_cons_zero, List.set_cons_succ] at hK ⊢
        generalize y 0 = y0 at *; generalize y 1 = y1 at *; generalize y 2 = y2 at *; generalize y 3 = y3 at *; generalize y 4 = y4 at *; generalize y 5 = y5 at *; generalize y 6 = y6 at *; generalize y 7 = y7 at *; generalize y 8 = y8 at *
        clear hs
        go_wp2_with (go_at_call 209; refine (sub_any _ _ _ _ _ p2 p5 sX sW6).mono ?_; rintro e w2 ⟨v, rfl, hN, hb⟩)
        exact hK _ _ (by rw [hsb] at hN; exact hN.any) ⟨hB.trans (hb.mono hB.size), hk3.nx hb, hA.nx hb, hC4.nx hb⟩ (fun _ _ _ h => DagF.nx hb h)
      rcases i with _ | i
      · obtain rfl : _ = o := Option.some.inj ho
        unfold StepTo
        simp only [↓reduceIte, Nat.zero_add, Nat.reduceAdd, Nat.reduceEqDiff, List.map_cons, List.map_nil, puts, updV, Act.put, List.setIfInBounds_toArray, List.set_cons_zero, List.set_cons_succ] at hK ⊢
        generalize y 0 = y0 at *; generalize y 1 = y1 at *; generalize y 2 = y2 at *; generalize y 3 = y3 at *; generalize y 4 = y4 at *; generalize y 5 = y5 at *; generalize y 6 = y6 at *; generalize y 7 = y7 at *; generalize y 8 = y8 at *
        clear hs
        have hb := (Below.refl wr.heap.size wr).alloc (Nat.le_refl _) (.cells #[.bool false, .slice none 0 0] 200)
        have hlt4 : g4 < wr.heap.size := by obtain ⟨_, _, _, _, k, _⟩ := hC4; exact k.lt
        go_wp2_with fail
        exact hK _ _ ⟨_, rfl, hlt4, _, _, _, _, Bk.new _ _ _⟩ ⟨hB.alloc hB.size _, hk3.nx hb, hA.nx hb, hC4.nx hb⟩ (fun _ _ _ h => DagF.nx hb h)
      rcases i with _ | i
      · obtain rfl : _ = o := Option.some.inj ho
        have p6 : BigN 0 wr (y 6) P := hdep { on := 6, ground := .data } (by simp) rfl
        have p7 : ∃ g, (y 7) = .pointer (some ⟨g, 0, none⟩) ∧ g4 < g ∧ ∃ b A n c, Bk wr g 200 #[.bool b, .slice A n c] := hdep { on := 7, ground := .data } (by simp) rfl
        unfold StepTo
        simp only [↓reduceIte, Nat.zero_add, Nat.reduceAdd, Nat.reduceEqDiff, List.map_cons, List.map_nil, puts, updV, Act.put, List.setIfInBounds_toArray, List.set_cons_zero, List.set_cons_succ] at hK ⊢
        generalize y 0 = y0 at *; generalize y 1 = y1 at *; generalize y 2 = y2 at *; generalize y 3 = y3 at *; generalize y 4 = y4 at *; generalize y 5 = y5 at *; generalize y 6 = y6 at *; generalize y 7 = y7 at *; generalize y 8 = y8 at *
        clear hs
        obtain ⟨g, rfl, hlg, b5, A5, n5, c5, k5⟩ := p7
        obtain ⟨s9, A9, n9, c9, rfl⟩ := p6.shape
        refine stBig rfl _ _ rfl k5 rfl rfl rfl ?_
        intro w2 hk hg hs2
        exact ⟨rfl, hK undef _ ⟨g, rfl, _, _, _, _, hk, p6.gbig k5 hg⟩ ⟨below_of_gb hB hg (by omega) hB.size, hk3.grown hg (fun e => by injection e with e; omega), hA.gbig k5 hg, hC4.gb k5 hg (by omega)⟩ (fun _ _ _ h => DagF.gb k5 hg hk p6 h)⟩
      · exact absurd ho (by simp)
    case refine_2 =>
      intro y wr b hG hF hbs
      clear hbs
      obtain ⟨hB, hk3, hA, hC4⟩ := hG
      have p7 : ∃ g, y 7 = .pointer (some ⟨g, 0, none⟩) ∧ g4 < g ∧ _ := hF 7 (by decide)
      have p8 : ∃ g, y 7 = .pointer (some ⟨g, 0, none⟩) ∧ BgC wr g P := hF 8 (by decide)
      obtain ⟨g5, e3, hgg5, -⟩ := p7
      obtain ⟨g9', e3', hCg5⟩ := p8
      rw [e3] at e3'
      injection e3' with e3'
      injection e3' with e3'
      injection e3' with e3'
      subst e3'
      simp only [Nat.zero_add, Nat.reduceAdd, List.map_cons, List.map_nil, puts, Act.put, List.setIfInBounds_toArray, List.set_cons_zero, List.set_cons_succ]
      generalize y 0 = y0 at *; generalize y 1 = y1 at *; generalize y 2 = y2 at *; generalize y 3 = y3 at *; generalize y 4 = y4 at *; generalize y 5 = y5 at *; generalize y 6 = y6 at *; generalize y 7 = y7 at *; generalize y 8 = y8 at *
      subst e3
      clear hF
      obtain ⟨s4, A4, n4, c4, k4, hN4⟩ := hC4
      clear hA hk3 sX sW6 hfl hsb sW hK2 hbel0 hA0
      have hTx := hTx _ _ hN4
      obtain ⟨TW, hTW⟩ : ∃ TW : ByteArray, (⟨(decDigits W).toArray⟩ : ByteArray) = TW := ⟨_, rfl⟩
      have hTWz : TW.size ≤ 20 := by rw [← hTW, str_size]; exact HDL.out
      have HTW := Lib.hid hTW
      rw [hTW] at hTx
      clear hTW
      go_upto_region 5 with (first
        | (refine ldBig rfl _ rfl k4 rfl ?_)
        | (go_at_call 150; (with_reducible refine hTx.mono ?_); rintro e w4 ⟨rfl, hb4⟩))
      have hC5 := hCg5.nx hb4
      have hB4 := hB.trans (hb4.mono hB.size)
      clear hTx hb4 hN4 k4 hB hCg5 hCg4
      have hgw : w.heap.size ≤ g5 := by omega
      go_upto_if 26 with fail
      go_cut [6] (fun sv wx => ∃ S : ByteArray, sv = .string S ∧ Hid (S = ⟨((if x < 0 then [45] else []) ++ decDigits W).toArray⟩) ∧ S.size ≤ 21 ∧ wx = w4)
      case first =>
        clear hP hC5 HS HL
        by_cases hneg : x < 0
        · have hd : decide (x < 0) = true := decide_eq_true hneg
          have happ : (⟨#[45]⟩ : ByteArray) ++ TW = ⟨(45 :: decDigits W).toArray⟩ := by rw [← HTW.out]; exact str_app [45] _
          have HA := Lib.hid happ
          have HZ : Hid ((⟨#[45]⟩ ++ TW : ByteArray).size ≤ 21) := by
            show _ ≤ _
            rw [happ, str_size]
            simpa using HDL.out
          clear happ
          go_wp2_with fail
          go_meet
          exact ⟨_, rfl, by show _ = _; rw [HA.out, if_pos hneg]; rfl, HZ.out, rfl⟩
        · have hd : decide (x < 0) = false := decide_eq_false hneg
          go_wp2_with fail
          go_meet
          exact ⟨_, rfl, by show _ = _; rw [if_neg (by omega)]; exact HTW.out.symm, by omega, rfl⟩
      case rest =>
        obtain ⟨S, rfl, HSS, hSz, rfl⟩ := hcut
        go_upto_region 7 with fail
        obtain ⟨s5, A5, n5, c5, k5, hN5⟩ := id hC5
        obtain ⟨-, hn5⟩ := hN5.len0
        obtain ⟨d0, d1⟩ := k5.cell2
        go_upto_if 32 with fail
        go_cut [6] (fun sv wx => ∃ S : ByteArray, sv = .string S ∧ Hid (S = ⟨(headL x P).toArray⟩) ∧ wx = wc)
        case first =>
          clear hP hC5 HS HL hN5 k5
          by_cases hP0 : P = 0
          · have h5 : n5 = 0 := hn5.2 (by omega)
            subst h5
            go_wp2_with fail
            go_meet
            refine ⟨_, rfl, ?_, rfl⟩
            show _ = _
            rw [HSS.out]
            unfold headL
            rw [if_pos hP0, List.append_nil, HD.out]
          · have h5 : 0 < n5 := by
              rcases Nat.eq_zero_or_pos n5 with h | h
              · have := hn5.1 h; omega
              · exact h
            have happ : S ++ ⟨#[46]⟩ = ⟨(headL x P).toArray⟩ := by
              rw [HSS.out]
              unfold headL
              rw [if_neg hP0, ← HD.out, ← List.append_assoc]
              exact str_app _ [46]
            have HA := Lib.hid happ
            clear happ
            go_wp2_with fail
            go_meet
            exact ⟨_, rfl, HA.out, rfl⟩
        case rest =>
          obtain ⟨S2, rfl, HS2, rfl⟩ := hcut
          clear d0 d1 k5 hN5 hn5
          obtain ⟨wd, rfl⟩ : ∃ wd : World, wd = wc := ⟨_, rfl⟩
          go_wp2_with fail
          go_loopw [6] (fun sv wr => ∃ (pre : List UInt8) (m q : Nat), sv = .string ⟨(headL x P ++ pre).toArray⟩ ∧ Hid (FrS P pre m q) ∧ BgC wr g5 (q : Int) ∧ Below w.heap.size w wr) (fun sv _ => 40 - strLen sv)
          case atStart =>
            refine ⟨[], 16, P, ?_, FrS.start hPb, hC5, hB4⟩
            rw [List.append_nil, ← HS2.out]
          case round =>
            clear hC5 hB4 HS2
            obtain ⟨pre, m, q, rfl, hf, hC, hbr⟩ := hrel
            obtain ⟨s5, A5, n5, c5, k5, hN5⟩ := id hC
            obtain ⟨-, hn5⟩ := hN5.len0
            obtain ⟨d0, d1⟩ := k5.cell2
            have hbz := hbr.size
            have hg5r := k5.lt
            by_cases hq : 0 < q
            · have h5 : 0 < n5 := by
                rcases Nat.eq_zero_or_pos n5 with h | h
                · have := hn5.1 h; omega
                · exact h
              obtain ⟨m', rfl, hup⟩ := hf.out.up hq
              have hql := hf.out.lt
              have hln := hf.out.len
              have hO := fun w' => of_any 10 w' (by omega) (by omega)
              have s10 : Sm 10 := sm_of (by omega) (by omega)
              have sq : Sm (q : Int) := sm_of (by omega) (by omega)
              have st : Sm ((q : Int) * 10) := sm_of (by omega) (by omega)
              obtain ⟨d, hd⟩ : ∃ d, q * 10 / 65536 = d := ⟨_, rfl⟩
              obtain ⟨r, hr⟩ : ∃ r, q * 10 % 65536 = r := ⟨_, rfl⟩
              rw [hd, hr] at hup
              have hd9 : d < 10 := by omega
              have hfl : flo ((q : Int) * 10) 65536 = (d : Int) := by unfold flo; omega
              have hsb : (q : Int) * 10 - (d : Int) * 65536 = (r : Int) := by omega
              have sd : Sm (d : Int) := sm_of (by omega) (by omega)
              have sd6 : Sm ((d : Int) * 65536) := sm_of (by omega) (by omega)
              have hTd := fun w' v (h : BigN 0 w' v d) => rtext_any v d w' h (by rw [Int.natAbs_natCast]; exact Nat.lt_of_lt_of_le hd9 (by decide))
              rw [itoa_nat, Go.Lib.decDigits_one hd9] at hTd
              unfold strV at hTd
              have HUP := Lib.hid hup
              have hll : (headL x P ++ pre).length ≤ 38 := by rw [List.length_append]; have := HL.out; omega
              obtain ⟨B, hB1⟩ : ∃ B, UInt8.ofNat (48 + d) = B := ⟨_, rfl⟩
              rw [hB1] at hTd HUP
              have happ : (⟨(headL x P ++ pre).toArray⟩ : ByteArray) ++ ⟨[B].toArray⟩ = ⟨(headL x P ++ (pre ++ [B])).toArray⟩ := by rw [← List.append_assoc]; exact str_app _ [B]
              have HM : Hid (40 - (⟨(headL x P ++ (pre ++ [B])).toArray⟩ : ByteArray).size < 40 - (⟨(headL x P ++ pre).toArray⟩ : ByteArray).size) := by
                show _ < _
                rw [str_size, str_size, ← List.append_assoc, List.length_append]
                simp only [List.length_singleton]
                omega
              have hz2 : (⟨(headL x P ++ pre).toArray⟩ : ByteArray).size ≤ 38 := by rw [str_size]; exact hll
              have hz1 : (⟨[B].toArray⟩ : ByteArray).size ≤ 1 := by rw [str_size]; simp
              obtain ⟨NB, hNB⟩ : ∃ NB : ByteArray, ⟨(headL x P ++ (pre ++ [B])).toArray⟩ = NB := ⟨_, rfl⟩
              rw [hNB] at happ HM
              have HNB := Lib.hid hNB
              generalize (⟨[B].toArray⟩ : ByteArray) = OB at *
              generalize (⟨(headL x P ++ pre).toArray⟩ : ByteArray) = TL at *
              clear hd hr hup hln hB1 hNB hll hf hn5 hql hN5
              go_upto_region 10 with fail
              clear h5 d0 d1
              refine wp_region_dag' 5 [] (fun i => if i = 4 then 3 else i)
                (DagF [bigS q, bigS 10, bigS (q * 10)] 3 4 g5 (q * 10))
                (fun b w' => Below w.heap.size w w' ∧ BgC w' g5 (q : Int))
                (by kernel_rfl) (by kernel_rfl) (by kernel_rfl) (by kernel_rfl) ⟨below_drewN hbr 1, hC.nx (below_drewN (Below.refl _ _) 1)⟩ ?_ ?_
              case refine_1 =>
                intro K i o y wr b ho hG hs hdep hK
                have hG' := hG
                obtain ⟨hB, hC5⟩ := hG'
                rcases i with _ | i
                · obtain rfl : _ = o := Option.some.inj ho
                  unfold StepTo
                  simp only [↓reduceIte, Nat.zero_add, Nat.reduceAdd, Nat.reduceEqDiff, List.map_cons, List.map_nil, puts, updV, Act.put, List.setIfInBounds_toArray, List.set_cons_zero, List.set_cons_succ] at hK ⊢
                  generalize y 0 = y0 at *; generalize y 1 = y1 at *; generalize y 2 = y2 at *; generalize y 3 = y3 at *; generalize y 4 = y4 at *
                  clear hs
                  obtain ⟨s1', A1', n1', c1', k1, hN⟩ := hC5
                  refine ldBig rfl _ rfl k1 rfl ?_
                  exact ⟨rfl, hK _ _ hN hG (fun _ _ _ h => h)⟩
                rcases i with _ | i
                · obtain rfl : _ = o := Option.some.inj ho
                  unfold StepTo
                  simp only [↓reduceIte, Nat.zero_add, Nat.reduceAdd, Nat.reduceEqDiff, List.map_cons, List.map_nil, puts, updV, Act.put, List.setIfInBounds_toArray, List.set_cons_zero, List.set_cons_succ] at hK ⊢
                  generalize y 0 = y0 at *; generalize y 1 = y1 at *; generalize y 2 = y2 at *; generalize y 3 = y3 at *; generalize y 4 = y4 at *
                  clear hs
                  go_wp2_with (go_at_call 151; refine (hO _).mono ?_; rintro e w2 ⟨v, rfl, hN, hb⟩)
                  exact hK _ _ hN.any ⟨hB.trans (hb.mono hB.size), hC5.nx hb⟩ (fun _ _ _ h => DagF.nx hb h)
                rcases i with _ | i
                · obtain rfl : _ = o := Option.some.inj ho
                  have p0 : BigN 0 wr (y 0) q := hdep { on := 0, ground := .data } (by simp) rfl
                  have p1 : BigN 0 wr (y 1) 10 := hdep { on := 1, ground := .data } (by simp) rfl
                  unfold StepTo
                  simp only [↓reduceIte, Nat.zero_add, Nat.reduceAdd, Nat.reduceEqDiff, List.map_cons, List.map_nil, puts, updV, Act.put, List.setIfInBounds_toArray, List.set_cons_zero, List.set_cons_succ] at hK ⊢
                  generalize y 0 = y0 at *; generalize y 1 = y1 at *; generalize y 2 = y2 at *; generalize y 3 = y3 at *; generalize y 4 = y4 at *
                  clear hs
                  go_wp2_with (go_at_call 196; refine (mul_any _ _ _ _ _ p0 p1 sq s10).mono ?_; rintro e w2 ⟨v, rfl, hN, hb⟩)
                  exact hK _ _ hN.any ⟨hB.trans (hb.mono hB.size), hC5.nx hb⟩ (fun _ _ _ h => DagF.nx hb h)
                rcases i with _ | i
                · obtain rfl : _ = o := Option.some.inj ho
                  unfold StepTo
                  simp only [↓reduceIte, Nat.zero_add, Nat.reduceAdd, Nat.reduceEqDiff, List.map_cons, List.map_nil, puts, updV, Act.put, List.setIfInBounds_toArray, List.set_cons_zero, List.set_cons_succ] at hK ⊢
                  generalize y 0 = y0 at *; generalize y 1 = y1 at *; generalize y 2 = y2 at *; generalize y 3 = y3 at *; generalize y 4 = y4 at *
                  clear hs
                  have hb := (Below.refl wr.heap.size wr).alloc (Nat.le_refl _) (.cells #[.bool false, .slice none 0 0] 200)
                  have hlt4 : g5 < wr.heap.size := by obtain ⟨_, _, _, _, k, _⟩ := hC5; exact k.lt
                  go_wp2_with fail
                  exact hK _ _ ⟨_, rfl, hlt4, _, _, _, _, Bk.new _ _ _⟩ ⟨hB.alloc hB.size _, hC5.nx hb⟩ (fun _ _ _ h => DagF.nx hb h)
                rcases i with _ | i
                · obtain rfl : _ = o := Option.some.inj ho
                  have p2 : BigN 0 wr (y 2) (q * 10) := hdep { on := 2, ground := .data } (by simp) rfl
                  have p3 : ∃ g, (y 3) = .pointer (some ⟨g, 0, none⟩) ∧ g5 < g ∧ ∃ b A n c, Bk wr g 200 #[.bool b, .slice A n c] := hdep { on := 3, ground := .data } (by simp) rfl
                  unfold StepTo
                  simp only [↓reduceIte, Nat.zero_add, Nat.reduceAdd, Nat.reduceEqDiff, List.map_cons, List.map_nil, puts, updV, Act.put, List.setIfInBounds_toArray, List.set_cons_zero, List.set_cons_succ] at hK ⊢
                  generalize y 0 = y0 at *; generalize y 1 = y1 at *; generalize y 2 = y2 at *; generalize y 3 = y3 at *; generalize y 4 = y4 at *
                  clear hs
                  obtain ⟨g, rfl, hlg, b5, A5, n5, c5, k5⟩ := p3
                  obtain ⟨s9, A9, n9, c9, rfl⟩ := p2.shape
                  refine stBig rfl _ _ rfl k5 rfl rfl rfl ?_
                  intro w2 hk hg hs2
                  exact ⟨rfl, hK undef _ ⟨g, rfl, _, _, _, _, hk, p2.gbig k5 hg⟩ ⟨below_of_gb hB hg (by omega) hB.size, hC5.gb k5 hg (by omega)⟩ (fun _ _ _ h => DagF.gb k5 hg hk p2 h)⟩
                · exact absurd ho (by simp)
              case refine_2 =>
                intro y wr b hG hF hbs
                clear hbs
                obtain ⟨hB, hC5⟩ := hG
                have p3 : ∃ g, y 3 = .pointer (some ⟨g, 0, none⟩) ∧ g5 < g ∧ _ := hF 3 (by decide)
                have p4 : ∃ g, y 3 = .pointer (some ⟨g, 0, none⟩) ∧ BgC wr g (q * 10) := hF 4 (by decide)
                obtain ⟨g7, e3, hgg7, -⟩ := p3
                obtain ⟨g9', e3', hCg7⟩ := p4
                rw [e3] at e3'
                injection e3' with e3'
                injection e3' with e3'
                injection e3' with e3'
                subst e3'
                simp only [Nat.zero_add, Nat.reduceAdd, List.map_cons, List.map_nil, puts, Act.put, List.setIfInBounds_toArray, List.set_cons_zero, List.set_cons_succ]
                generalize y 0 = y0 at *; generalize y 1 = y1 at *; generalize y 2 = y2 at *; generalize y 3 = y3 at *; generalize y 4 = y4 at *
                subst e3
                clear hF
                go_upto_region 11 with fail
                refine wp_region_dag' 5 [] (fun i => if i = 4 then 3 else i)
                  (DagF [bigS (q * 10), bigS 65536, bigS d] 3 4 g7 (d : Int))
                  (fun b w' => Below w.heap.size w w' ∧ BgC w' g5 (q : Int) ∧ BgC w' g7 (q * 10))
                  (by kernel_rfl) (by kernel_rfl) (by kernel_rfl) (by kernel_rfl) ⟨below_drewN hB 1, hC5.nx (below_drewN (Below.refl _ _) 1), hCg7.nx (below_drewN (Below.refl _ _) 1)⟩ ?_ ?_
                case refine_1 =>
                  intro K i o y wr b ho hG hs hdep hK
                  have hG' := hG
                  obtain ⟨hB, hC5, hC7⟩ := hG'
                  rcases i with _ | i
                  · obtain rfl : _ = o := Option.some.inj ho
                    unfold StepTo
                    simp only [↓reduceIte, Nat.zero_add, Nat.reduceAdd, Nat.reduceEqDiff, List.map_cons, List.map_nil, puts, updV, Act.put, List.setIfInBounds_toArray, List.set_cons_zero, List.set_cons_succ] at hK ⊢
                    generalize y 0 = y0 at *; generalize y 1 = y1 at *; generalize y 2 = y2 at *; generalize y 3 = y3 at *; generalize y 4 = y4 at *
                    clear hs
                    obtain ⟨s1', A1', n1', c1', k1, hN⟩ := hC7
                    refine ldBig rfl _ rfl k1 rfl ?_
                    exact ⟨rfl, hK _ _ hN hG (fun _ _ _ h => h)⟩
                  rcases i with _ | i
                  · obtain rfl : _ = o := Option.some.inj ho
                    unfold StepTo
                    simp only [↓reduceIte, Nat.zero_add, Nat.reduceAdd, Nat.reduceEqDiff, List.map_cons, List.map_nil, puts, updV, Act.put, List.setIfInBounds_toArray, List.set_cons_zero, List.set_cons_succ] at hK ⊢
                    generalize y 0 = y0 at *; generalize y 1 = y1 at *; generalize y 2 = y2 at *; generalize y 3 = y3 at *; generalize y 4 = y4 at *
                    clear hs
                    go_wp2_with (go_at_call 201; refine (hP _).mono ?_; rintro e w2 ⟨v, rfl, hN, hb⟩)
                    exact hK _ _ hN.any ⟨hB.trans (hb.mono hB.size), hC5.nx hb, hC7.nx hb⟩ (fun _ _ _ h => DagF.nx hb h)
                  rcases i with _ | i
                  · obtain rfl : _ = o := Option.some.inj ho
                    have p0 : BigN 0 wr (y 0) (q * 10) := hdep { on := 0, ground := .data } (by simp) rfl
                    have p1 : BigN 0 wr (y 1) 65536 := hdep { on := 1, ground := .data } (by simp) rfl
                    unfold StepTo
                    simp only [↓reduceIte, Nat.zero_add, Nat.reduceAdd, Nat.reduceEqDiff, List.map_cons, List.map_nil, puts, updV, Act.put, List.setIfInBounds_toArray, List.set_cons_zero, List.set_cons_succ] at hK ⊢
                    generalize y 0 = y0 at *; generalize y 1 = y1 at *; generalize y 2 = y2 at *; generalize y 3 = y3 at *; generalize y 4 = y4 at *
                    clear hs
                    go_wp2_with (go_at_call 202; refine (floor_any _ _ _ _ _ p0 p1 (by omega) st b16).mono ?_; rintro e w2 ⟨v, rfl, hN, hb⟩)
                    exact hK _ _ (by rw [hfl] at hN; exact hN.any) ⟨hB.trans (hb.mono hB.size), hC5.nx hb, hC7.nx hb⟩ (fun _ _ _ h => DagF.nx hb h)
                  rcases i with _ | i
                  · obtain rfl : _ = o := Option.some.inj ho
                    unfold StepTo
                    simp only [↓reduceIte, Nat.zero_add, Nat.reduceAdd, Nat.reduceEqDiff, List.map_cons, List.map_nil, puts, updV, Act.put, List.setIfInBounds_toArray, List.set_cons_zero, List.set_cons_succ] at hK ⊢
                    generalize y 0 = y0 at *; generalize y 1 = y1 at *; generalize y 2 = y2 at *; generalize y 3 = y3 at *; generalize y 4 = y4 at *
                    clear hs
                    have hb := (Below.refl wr.heap.size wr).alloc (Nat.le_refl _) (.cells #[.bool false, .slice none 0 0] 200)
                    have hlt4 : g7 < wr.heap.size := by obtain ⟨_, _, _, _, k, _⟩ := hC7; exact k.lt
                    go_wp2_with fail
                    exact hK _ _ ⟨_, rfl, hlt4, _, _, _, _, Bk.new _ _ _⟩ ⟨hB.alloc hB.size _, hC5.nx hb, hC7.nx hb⟩ (fun _ _ _ h => DagF.nx hb h)
                  rcases i with _ | i
                  · obtain rfl : _ = o := Option.some.inj ho
                    have p2 : BigN 0 wr (y 2) d := hdep { on := 2, ground := .data } (by simp) rfl
                    have p3 : ∃ g, (y 3) = .pointer (some ⟨g, 0, none⟩) ∧ g7 < g ∧ ∃ b A n c, Bk wr g 200 #[.bool b, .slice A n c] := hdep { on := 3, ground := .data } (by simp) rfl
                    unfold StepTo
                    simp only [↓reduceIte, Nat.zero_add, Nat.reduceAdd, Nat.reduceEqDiff, List.map_cons, List.map_nil, puts, updV, Act.put, List.setIfInBounds_toArray, List.set_cons_zero, List.set_cons_succ] at hK ⊢
                    generalize y 0 = y0 at *; generalize y 1 = y1 at *; generalize y 2 = y2 at *; generalize y 3 = y3 at *; generalize y 4 = y4 at *
                    clear hs
                    obtain ⟨g, rfl, hlg, b5, A5, n5, c5, k5⟩ := p3
                    obtain ⟨s9, A9, n9, c9, rfl⟩ := p2.shape
                    refine stBig rfl _ _ rfl k5 rfl rfl rfl ?_
                    intro w2 hk hg hs2
                    exact ⟨rfl, hK undef _ ⟨g, rfl, _, _, _, _, hk, p2.gbig k5 hg⟩ ⟨below_of_gb hB hg (by omega) hB.size, hC5.gb k5 hg (by omega), hC7.gb k5 hg (by omega)⟩ (fun _ _ _ h => DagF.gb k5 hg hk p2 h)⟩
                  · exact absurd ho (by simp)
                case refine_2 =>
                  intro y wr b hG hF hbs
                  clear hbs
                  obtain ⟨hB, hC5, hC7⟩ := hG
                  have p3 : ∃ g, y 3 = .pointer (some ⟨g, 0, none⟩) ∧ g7 < g ∧ _ := hF 3 (by decide)
                  have p4 : ∃ g, y 3 = .pointer (some ⟨g, 0, none⟩) ∧ BgC wr g d := hF 4 (by decide)
                  obtain ⟨g8, e3, hgg8, -⟩ := p3
                  obtain ⟨g9', e3', hCg8⟩ := p4
                  rw [e3] at e3'
                  injection e3' with e3'
                  injection e3' with e3'
                  injection e3' with e3'
                  subst e3'
                  simp only [Nat.zero_add, Nat.reduceAdd, List.map_cons, List.map_nil, puts, Act.put, List.setIfInBounds_toArray, List.set_cons_zero, List.set_cons_succ]
                  generalize y 0 = y0 at *; generalize y 1 = y1 at *; generalize y 2 = y2 at *; generalize y 3 = y3 at *; generalize y 4 = y4 at *
                  subst e3
                  clear hF
                  obtain ⟨s8, A8, n8, c8, k8, hN8⟩ := id hCg8
                  have hTd := hTd _ _ hN8
                  go_upto_region 13 with (first
                    | (refine ldBig rfl _ rfl k8 rfl ?_)
                    | (go_at_call 150; (with_reducible refine hTd.mono ?_); rintro e w6 ⟨rfl, hb6⟩))
                  have hC5 := hC5.nx hb6
                  have hC7 := hC7.nx hb6
                  have hC8 := hCg8.nx hb6
                  have hB := hB.trans (hb6.mono hB.size)
                  refine wp_region_dag' 5 [] id
                    (SatL [bigS (q * 10), bigS d, bigS 65536, bigS (d * 65536), bigS r, none])
                    (fun b w' => Below w.heap.size w w' ∧ BgC w' g5 (if b then (r : Int) else (q : Int)) ∧ BgC w' g7 (q * 10) ∧ BgC w' g8 (d : Int))
                    (by kernel_rfl) (by kernel_rfl) (by kernel_rfl) (by kernel_rfl) ⟨below_drewN hB 1, hC5.nx (below_drewN (Below.refl _ _) 1), hC7.nx (below_drewN (Below.refl _ _) 1), hC8.nx (below_drewN (Below.refl _ _) 1)⟩ ?_ ?_
                  case refine_1 =>
                    intro K i o y wr b ho hG hs hdep hK
                    have hG' := hG
                    obtain ⟨hB, hC5, hC7, hC8⟩ := hG'
                    rcases i with _ | i
                    · obtain rfl : _ = o := Option.some.inj ho
                      unfold StepTo
                      simp only [↓reduceIte, Nat.zero_add, Nat.reduceAdd, Nat.reduceEqDiff, List.map_cons, List.map_nil, puts, updV, Act.put, List.setIfInBounds_toArray, List.set_cons_zero, List.set_cons_succ] at hK ⊢
                      generalize y 0 = y0 at *; generalize y 1 = y1 at *; generalize y 2 = y2 at *; generalize y 3 = y3 at *; generalize y 4 = y4 at *; generalize y 5 = y5 at *
                      clear hs
                      obtain ⟨s1', A1', n1', c1', k1, hN⟩ := hC7
                      refine ldBig rfl _ rfl k1 rfl ?_
                      exact ⟨rfl, hK _ _ hN hG (fun _ _ _ h => h)⟩
                    rcases i with _ | i
                    · obtain rfl : _ = o := Option.some.inj ho
                      unfold StepTo
                      simp only [↓reduceIte, Nat.zero_add, Nat.reduceAdd, Nat.reduceEqDiff, List.map_cons, List.map_nil, puts, updV, Act.put, List.setIfInBounds_toArray, List.set_cons_zero, List.set_cons_succ] at hK ⊢
                      generalize y 0 = y0 at *; generalize y 1 = y1 at *; generalize y 2 = y2 at *; generalize y 3 = y3 at *; generalize y 4 = y4 at *; generalize y 5 = y5 at *
                      clear hs
                      obtain ⟨s1', A1', n1', c1', k1, hN⟩ := hC8
                      refine ldBig rfl _ rfl k1 rfl ?_
                      exact ⟨rfl, hK _ _ hN hG (fun _ _ _ h => h)⟩
                    rcases i with _ | i
                    · obtain rfl : _ = o := Option.some.inj ho
                      unfold StepTo
                      simp only [↓reduceIte, Nat.zero_add, Nat.reduceAdd, Nat.reduceEqDiff, List.map_cons, List.map_nil, puts, updV, Act.put, List.setIfInBounds_toArray, List.set_cons_zero, List.set_cons_succ] at hK ⊢
                      generalize y 0 = y0 at *; generalize y 1 = y1 at *; generalize y 2 = y2 at *; generalize y 3 = y3 at *; generalize y 4 = y4 at *; generalize y 5 = y5 at *
                      clear hs
                      go_wp2_with (go_at_call 201; refine (hP _).mono ?_; rintro e w2 ⟨v, rfl, hN, hb⟩)
                      exact hK _ _ hN.any ⟨hB.trans (hb.mono hB.size), hC5.nx hb, hC7.nx hb, hC8.nx hb⟩ (fun _ _ _ h => Sat.nx hb h)
                    rcases i with _ | i
                    · obtain rfl : _ = o := Option.some.inj ho
                      have p1 : BigN 0 wr (y 1) d := hdep { on := 1, ground := .data } (by simp) rfl
                      have p2 : BigN 0 wr (y 2) 65536 := hdep { on := 2, ground := .data } (by simp) rfl
                      unfold StepTo
                      simp only [↓reduceIte, Nat.zero_add, Nat.reduceAdd, Nat.reduceEqDiff, List.map_cons, List.map_nil, puts, updV, Act.put, List.setIfInBounds_toArray, List.set_cons_zero, List.set_cons_succ] at hK ⊢
                      generalize y 0 = y0 at *; generalize y 1 = y1 at *; generalize y 2 = y2 at *; generalize y 3 = y3 at *; generalize y 4 = y4 at *; generalize y 5 = y5 at *
                      clear hs
                      go_wp2_with (go_at_call 196; refine (mul_any _ _ _ _ _ p1 p2 sd s16).mono ?_; rintro e w2 ⟨v, rfl, hN, hb⟩)
                      exact hK _ _ hN.any ⟨hB.trans (hb.mono hB.size), hC5.nx hb, hC7.nx hb, hC8.nx hb⟩ (fun _ _ _ h => Sat.nx hb h)
                    rcases i with _ | i
                    · obtain rfl : _ = o := Option.some.inj ho
                      have p0 : BigN 0 wr (y 0) (q * 10) := hdep { on := 0, ground := .data } (by simp) rfl
                      have p3 : BigN 0 wr (y 3) (d * 65536) := hdep { on := 3, ground := .data } (by simp) rfl
                      unfold StepTo
                      simp only [↓reduceIte, Nat.zero_add, Nat.reduceAdd, Nat.reduceEqDiff, List.map_cons, List.map_nil, puts, updV, Act.put, List.setIfInBounds_toArray, List.set_cons_zero, List.set_cons_succ] at hK ⊢
                      generalize y 0 = y0 at *; generalize y 1 = y1 at *; generalize y 2 = y2 at *; generalize y 3 = y3 at *; generalize y 4 = y4 at *; generalize y 5 = y5 at *
                      clear hs
                      go_wp2_with (go_at_call 209; refine (sub_any _ _ _ _ _ p0 p3 st sd6).mono ?_; rintro e w2 ⟨v, rfl, hN, hb⟩)
                      exact hK _ _ (by rw [hsb] at hN; exact hN.any) ⟨hB.trans (hb.mono hB.size), hC5.nx hb, hC7.nx hb, hC8.nx hb⟩ (fun _ _ _ h => Sat.nx hb h)
                    rcases i with _ | i
                    · obtain rfl : _ = o := Option.some.inj ho
                      have p4 : BigN 0 wr (y 4) r := hdep { on := 4, ground := .data } (by simp) rfl
                      unfold StepTo
                      simp only [↓reduceIte, Nat.zero_add, Nat.reduceAdd, Nat.reduceEqDiff, List.map_cons, List.map_nil, puts, updV, Act.put, List.setIfInBounds_toArray, List.set_cons_zero, List.set_cons_succ] at hK ⊢
                      generalize y 0 = y0 at *; generalize y 1 = y1 at *; generalize y 2 = y2 at *; generalize y 3 = y3 at *; generalize y 4 = y4 at *; generalize y 5 = y5 at *
                      obtain ⟨rfl, -⟩ := hs (.inr rfl)
                      obtain ⟨s1', A1', n1', c1', k1, hN⟩ := hC5
                      obtain ⟨s9, A9, n9, c9, rfl⟩ := p4.shape
                      refine stBig rfl _ _ rfl k1 rfl rfl rfl ?_
                      intro w2 hk hg hs2
                      exact ⟨rfl, hK undef _ trivial ⟨below_of_gb hB hg (by omega) hB.size, ⟨_, _, _, _, hk, p4.gbig k1 hg⟩, hC7.gb k1 hg (by omega), hC8.gb k1 hg (by omega)⟩ (fun _ _ _ h => Sat.gb k1 hg h)⟩
                    · exact absurd ho (by simp)
                  case refine_2 =>
                    intro y wr b hG hF hbs
                    obtain rfl := hbs (by decide)
                    clear hbs
                    obtain ⟨hB, hC5, hC7, hC8⟩ := hG
                    simp only [Nat.zero_add, Nat.reduceAdd, List.map_cons, List.map_nil, puts, Act.put, List.setIfInBounds_toArray, List.set_cons_zero, List.set_cons_succ]
                    generalize y 0 = y0 at *; generalize y 1 = y1 at *; generalize y 2 = y2 at *; generalize y 3 = y3 at *; generalize y 4 = y4 at *; generalize y 5 = y5 at *
                    clear hF
                    go_wp2_with fail
                    exact ⟨⟨pre ++ [B], m', r, by rw [HNB.out], HUP.out, hC5, hB⟩, HM.out⟩
            · obtain rfl : q = 0 := by omega
              have h5 : n5 = 0 := hn5.2 rfl
              subst h5
              have hdn := hf.out.done
              subst hdn
              have HR : Hid (showL x = headL x P ++ fracF 16 P) := HS.out
              generalize hT : (⟨(headL x P ++ fracF 16 P).toArray⟩ : ByteArray) = T at *
              have HT := Lib.hid hT
              clear hT hf
              go_wp2_with fail
              go_returns
              exact ⟨by rw [HR.out]; show Ending.returned (.string T) = .returned (.string ⟨(headL x P ++ fracF 16 P).toArray⟩); rw [HT.out], hbr⟩
end Go.Proofs.YtgohbkkeppknoaaGreatDoor
end
