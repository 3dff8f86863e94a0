/- What is wrong with a canvas, a slant and what is asked for. -/
import Derived.Test.YtpcjoalbhicccaaTh18
set_option linter.unusedVariables false
namespace Go.Proofs.Ytpcjoalbhicccaa
open Go.RowKit
abbrev canV (W H : Int) (C : Int) (A : Option Addr) (n cp : Nat) (a b c d : Int) : Value := .agg #[.int .i64 W, .int .i64 H, .int .i64 C, .slice A n cp, .int .i64 a, .int .i64 b, .int .i64 c, .int .i64 d]
def atB (W H a b c d : Int) : Bool := decide (rightR a b c d ∧ c - a = W ∧ d - b = H)
def canC (W H C : Int) (n : Nat) (a b c d p r s x0 y0 x1 y1 : Int) : Int :=
  if checkC W H C n ≠ 0 then checkC W H C n else if atB W H a b c d = false then 10 else if okS p r s = false ∨ emptyR x0 y0 x1 y1 then 11 else if largeB x0 y0 x1 y1 = true then 30 else 0
set_option maxRecDepth 100000 in
set_option maxHeartbeats 2000000 in
theorem ccheck_any (W H C : Int) (A : Option Addr) (n cp : Nat) (a b c d p r s x0 y0 x1 y1 : Int) (w : World) :
    Calls Try.prog 23 #[canV W H C A n cp a b c d, sl3 p r s, rect4 x0 y0 x1 y1] w fun e w' => e = .returned (.int .i64 (canC W H C n a b c d p r s x0 y0 x1 y1)) ∧ Below w.heap.size w w' := by
  have hbz : Below w.heap.size w (((w.alloc (.cells #[.int .i64 W, .int .i64 H, .int .i64 C, .slice A n cp, .int .i64 a, .int .i64 b, .int .i64 c, .int .i64 d] 57)).alloc (.cells #[.int .i64 p, .int .i64 r, .int .i64 s] 59)).alloc (.cells (rectA x0 y0 x1 y1) 26)) := by go_grown
  have hK0 := ((Bk.new w 57 #[.int .i64 W, .int .i64 H, .int .i64 C, .slice A n cp, .int .i64 a, .int .i64 b, .int .i64 c, .int .i64 d]).alloc (.cells #[.int .i64 p, .int .i64 r, .int .i64 s] 59)).alloc (.cells (rectA x0 y0 x1 y1) 26)
  have hK1 := (Bk.new (w.alloc (.cells #[.int .i64 W, .int .i64 H, .int .i64 C, .slice A n cp, .int .i64 a, .int .i64 b, .int .i64 c, .int .i64 d] 57)) 59 #[.int .i64 p, .int .i64 r, .int .i64 s]).alloc (.cells (rectA x0 y0 x1 y1) 26)
  have hK2 := Bk.new ((w.alloc (.cells #[.int .i64 W, .int .i64 H, .int .i64 C, .slice A n cp, .int .i64 a, .int .i64 b, .int .i64 c, .int .i64 d] 57)).alloc (.cells #[.int .i64 p, .int .i64 r, .int .i64 s] 59)) 26 (rectA x0 y0 x1 y1)
  simp only [World.size_alloc] at hK1 hK2
  go_enter Try.func23, Try.ntmps23
  go_wp2_with fail
  refine (icheck_any W H C A n cp _).mono ?_
  rintro e w1 ⟨rfl, hb1⟩
  replace hK0 := hK0.nx hb1
  replace hK1 := hK1.nx hb1
  replace hK2 := hK2.nx hb1
  have hbz1 := hbz.trans (hb1.mono (by simp <;> omega))
  clear hb1 hbz
  obtain ⟨e0, e1, e2, e3, e4, e5, e6, e7⟩ := can_cells hK0
  have hl0 := hK0.lt
  by_cases h0 : checkC W H C n = 0
  · have hb0 : (checkC W H C n != 0) = false := by simpa using h0
    have H0 := Lib.hid h0
    clear h0
    cases hat : atB W H a b c d
    · have HAT := Lib.hid hat
      have hat' : ¬ (rightR a b c d ∧ c - a = W ∧ d - b = H) := by unfold atB at hat; simpa using hat
      by_cases hr : rightR a b c d
      · have hd : decide (rightR a b c d) = true := decide_eq_true hr
        have v1 : wrap64 (c - a) = c - a := wsub hr.2.2.1 hr.1
        have v2 : wrap64 (d - b) = d - b := wsub hr.2.2.2 hr.2.1
        have hcd : ¬ (c - a = W) ∨ ((c - a = W) ∧ ¬ (d - b = H)) := by
          by_cases h1 : c - a = W
          · exact .inr ⟨h1, fun h2 => hat' ⟨hr, h1, h2⟩⟩
          · exact .inl h1
        clear hat hat' hr
        rcases hcd with g1 | ⟨g1, g2⟩
        · have hg : (c - a != W) = true := by simpa using g1
          go_wp2_with (go_at_call 46; (with_reducible refine (right_any _ _ _ _ _).mono ?_); rintro e w2 ⟨rfl, hb2⟩; have hbz2 := hbz1.trans (hb2.mono hbz1.size); have K0 := hK0.nx hb2; obtain ⟨d0, d1, d2, d3, d4, d5, d6, d7⟩ := can_cells K0)
          all_goals
            go_returns
            exact ⟨ret_int (by unfold canC; rw [if_neg (fun h => h H0.out), if_pos HAT.out]), hbz2⟩
        · have hg : (c - a != W) = false := by simpa using g1
          have hg2 : (d - b != H) = true := by simpa using g2
          go_wp2_with (go_at_call 46; (with_reducible refine (right_any _ _ _ _ _).mono ?_); rintro e w2 ⟨rfl, hb2⟩; have hbz2 := hbz1.trans (hb2.mono hbz1.size); have K0 := hK0.nx hb2; obtain ⟨d0, d1, d2, d3, d4, d5, d6, d7⟩ := can_cells K0)
          all_goals
            go_returns
            exact ⟨ret_int (by unfold canC; rw [if_neg (fun h => h H0.out), if_pos HAT.out]), hbz2⟩
      · have hd : decide (rightR a b c d) = false := decide_eq_false hr
        clear hat hat' hr
        go_wp2_with (go_at_call 46; (with_reducible refine (right_any _ _ _ _ _).mono ?_); rintro e w2 ⟨rfl, hb2⟩; have hbz2 := hbz1.trans (hb2.mono hbz1.size))
        all_goals
          go_returns
          exact ⟨ret_int (by unfold canC; rw [if_neg (fun h => h H0.out), if_pos HAT.out]), hbz2⟩
    · have HAT := Lib.hid hat
      have hat' : rightR a b c d ∧ c - a = W ∧ d - b = H := by unfold atB at hat; simpa using hat
      obtain ⟨hr, g1, g2⟩ := hat'
      have hd : decide (rightR a b c d) = true := decide_eq_true hr
      have v1 : wrap64 (c - a) = c - a := wsub hr.2.2.1 hr.1
      have v2 : wrap64 (d - b) = d - b := wsub hr.2.2.2 hr.2.1
      have hg : (c - a != W) = false := by simpa using g1
      have hg2 : (d - b != H) = false := by simpa using g2
      clear hat hr g1 g2
      cases hok : okS p r s
      · have HOK := Lib.hid hok
        go_wp2_with (first
          | (go_at_call 46; (with_reducible refine (right_any _ _ _ _ _).mono ?_); rintro e w2 ⟨rfl, hb2⟩; have hbz2 := hbz1.trans (hb2.mono hbz1.size); have K0 := hK0.nx hb2; obtain ⟨d0, d1, d2, d3, d4, d5, d6, d7⟩ := can_cells K0; obtain ⟨s0, s1, s2⟩ := (hK1.nx hb2).cell3)
          | (go_at_call 47; (with_reducible refine (ok_any _ _ _ _).mono ?_); rintro e w3 ⟨rfl, hb3⟩; have hbz3 := hbz2.trans (hb3.mono hbz2.size)))
        all_goals
          go_returns
          exact ⟨ret_int (by unfold canC; rw [if_neg (fun h => h H0.out), if_neg (by rw [HAT.out]; simp), if_pos (.inl HOK.out)]), hbz3⟩
      · have HOK := Lib.hid hok
        by_cases he : emptyR x0 y0 x1 y1
        · have hde : decide (emptyR x0 y0 x1 y1) = true := decide_eq_true he
          have HE := Lib.hid he
          clear he
          go_wp2_with (first
            | (go_at_call 46; (with_reducible refine (right_any _ _ _ _ _).mono ?_); rintro e w2 ⟨rfl, hb2⟩; have hbz2 := hbz1.trans (hb2.mono hbz1.size); have K0 := hK0.nx hb2; obtain ⟨d0, d1, d2, d3, d4, d5, d6, d7⟩ := can_cells K0; have K1 := hK1.nx hb2; have K2 := hK2.nx hb2; obtain ⟨s0, s1, s2⟩ := K1.cell3)
            | (go_at_call 47; (with_reducible refine (ok_any _ _ _ _).mono ?_); rintro e w3 ⟨rfl, hb3⟩; have hbz3 := hbz2.trans (hb3.mono hbz2.size); have K3 := K2.nx hb3; obtain ⟨r0, r1, r2, r3⟩ := K3.cell4)
            | (go_at_call 48; (with_reducible refine (empty_any _ _ _ _ _).mono ?_); rintro e w4 ⟨rfl, hb4⟩; have hbz4 := hbz3.trans (hb4.mono hbz3.size)))
          all_goals
            go_returns
            exact ⟨ret_int (by unfold canC; rw [if_neg (fun h => h H0.out), if_neg (by rw [HAT.out]; simp), if_pos (.inr HE.out)]), hbz4⟩
        · have hde : decide (emptyR x0 y0 x1 y1) = false := decide_eq_false he
          have HE := Lib.hid he
          clear he
          cases hlg : largeB x0 y0 x1 y1
          all_goals
            have HLG := Lib.hid hlg
            go_wp2_with (first
              | (go_at_call 46; (with_reducible refine (right_any _ _ _ _ _).mono ?_); rintro e w2 ⟨rfl, hb2⟩; have hbz2 := hbz1.trans (hb2.mono hbz1.size); have K0 := hK0.nx hb2; obtain ⟨d0, d1, d2, d3, d4, d5, d6, d7⟩ := can_cells K0; have K1 := hK1.nx hb2; have K2 := hK2.nx hb2; obtain ⟨s0, s1, s2⟩ := K1.cell3)
              | (go_at_call 47; (with_reducible refine (ok_any _ _ _ _).mono ?_); rintro e w3 ⟨rfl, hb3⟩; have hbz3 := hbz2.trans (hb3.mono hbz2.size); have K3 := K2.nx hb3; obtain ⟨r0, r1, r2, r3⟩ := K3.cell4)
              | (go_at_call 48; (with_reducible refine (empty_any _ _ _ _ _).mono ?_); rintro e w4 ⟨rfl, hb4⟩; have hbz4 := hbz3.trans (hb4.mono hbz3.size); have K4 := K3.nx hb4; clear r0 r1 r2 r3; obtain ⟨r0, r1, r2, r3⟩ := K4.cell4)
              | (go_at_call 43; (with_reducible refine (large_any _ _ _ _ _).mono ?_); rintro e w5 ⟨rfl, hb5⟩; have hbz5 := hbz4.trans (hb5.mono hbz4.size)))
            all_goals
              go_returns
              first
                | exact ⟨ret_int (by unfold canC; rw [if_neg (fun h => h H0.out), if_neg (by rw [HAT.out]; simp), if_neg (fun h => h.elim (by rw [HOK.out]; simp) HE.out), if_pos HLG.out]), hbz5⟩
                | exact ⟨ret_int (by unfold canC; rw [if_neg (fun h => h H0.out), if_neg (by rw [HAT.out]; simp), if_neg (fun h => h.elim (by rw [HOK.out]; simp) HE.out), if_neg (by rw [HLG.out]; simp)]), hbz5⟩
  · have hb0 : (checkC W H C n != 0) = true := by simpa using h0
    have H0 := Lib.hid h0
    clear h0
    go_wp2_with fail
    go_returns
    exact ⟨ret_int (by unfold canC; rw [if_pos H0.out]), hbz1⟩
end Go.Proofs.Ytpcjoalbhicccaa
