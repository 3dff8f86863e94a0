/- The walk of the law ThreePasses. -/
import Derived.Test.YtpcjoalbhicccaaTh30
import Derived.Test.YtpcjoalbhicccaaLie
import Derived.Test.YtpcjoalbhicccaaOpen
set_option linter.unusedVariables false
namespace Go.Proofs.Ytpcjoalbhicccaa
open Go.RowKit
abbrev passA (a b c d x0 y0 x1 y1 p r s : Int) : Array Value := #[.int .i64 a, .int .i64 b, .int .i64 c, .int .i64 d, .int .i64 x0, .int .i64 y0, .int .i64 x1, .int .i64 y1, .int .i64 p, .int .i64 r, .int .i64 s]
theorem pass_same (R : POut) (A A' : Option Addr) (c c' : Nat) (w : World) (n n' : Nat) (h : Rd w w.heap.size A (R.xs.map (Value.int .u8))) (h' : Rd w w.heap.size A' (R.xs.map (Value.int .u8))) (hn : R.xs.length = n) (hn' : R.xs.length = n') (hn2 : n ≤ 9223372036854775807) :
    Calls Try.prog 12 #[.agg #[.int .i64 R.W, .int .i64 R.H, .int .i64 R.C, .slice A n c], .agg #[.int .i64 R.W, .int .i64 R.H, .int .i64 R.C, .slice A' n' c']] w fun e w' => e = .returned (.bool true) ∧ Below w.heap.size w w' := by
  obtain rfl : n' = n := by omega
  exact same_yes _ _ _ _ _ _ _ _ _ w h h' (by simpa using hn) (by intro v hv; obtain ⟨z, _, rfl⟩ := List.mem_map.1 hv; exact ⟨_, rfl⟩) hn2
set_option maxRecDepth 100000 in
set_option maxHeartbeats 4000000 in
theorem walkThreePasses (W H C : Int) (A : Option Addr) (n cp : Nat) (P : List Int) (a b c d x0 y0 x1 y1 p r s : Int) (w : World) (hP : P.length = n) (hr : Rd w w.heap.size A (P.map (Value.int .u8))) (hcp : n ≤ cp) :
    Calls Try.prog 3 #[.agg #[.int .i64 W, .int .i64 H, .int .i64 C, .slice A n cp], .agg (passA a b c d x0 y0 x1 y1 p r s)] w fun e w' => e = .returned (.bool true) ∧ Below w.heap.size w w' := by
  have hL : Lie w [(w.heap.size + 1, 28, passA a b c d x0 y0 x1 y1 p r s), (w.heap.size, 24, #[.int .i64 W, .int .i64 H, .int .i64 C, .slice A n cp])] ((w.alloc (.cells #[.int .i64 W, .int .i64 H, .int .i64 C, .slice A n cp] 24)).alloc (.cells (passA a b c d x0 y0 x1 y1 p r s) 28)) := by
    simpa using ((Lie.start w).alloc #[.int .i64 W, .int .i64 H, .int .i64 C, .slice A n cp] 24).alloc (passA a b c d x0 y0 x1 y1 p r s) 28
  go_enter Try.func3, Try.ntmps3
  go_wp2_with fail
  refine (few_any W H C A n cp 3000 _).mono ?_
  rintro e w1 ⟨rfl, hb1⟩
  replace hL := hL.nx hb1
  clear hb1
  obtain ⟨p0, p1, p2, p3, p4, p5, p6, p7, p8, p9, p10⟩ := (hL.k 0 (by simp)).cell11
  obtain ⟨i0, i1, i2, i3⟩ := (hL.k 1 (by simp)).cell4
  simp only [List.getElem_cons_zero, List.getElem_cons_succ] at p0 p1 p2 p3 p4 p5 p6 p7 p8 p9 p10 i0 i1 i2 i3
  by_cases hfew : (n : Int) ≤ 3000
  · have hd : decide ((n : Int) ≤ 3000) = true := decide_eq_true hfew
    go_wp2_with fail
    refine (rarea_any x0 y0 x1 y1 _).mono ?_
    rintro e w2 ⟨rfl, hb2⟩
    replace hL := hL.nx hb2
    clear hb2 p0 p1 p2 p3 p4 p5 p6 p7 p8 p9 p10 i0 i1 i2 i3
    obtain ⟨p0, p1, p2, p3, p4, p5, p6, p7, p8, p9, p10⟩ := (hL.k 0 (by simp)).cell11
    obtain ⟨i0, i1, i2, i3⟩ := (hL.k 1 (by simp)).cell4
    simp only [List.getElem_cons_zero, List.getElem_cons_succ] at p0 p1 p2 p3 p4 p5 p6 p7 p8 p9 p10 i0 i1 i2 i3
    have hAc := fun (w' : World) (hb : Below w.heap.size w w') => acrossR W H C A n cp P a b c d p r s x0 y0 x1 y1 w' hP (hr.below hb) hb.size hcp
    have hAl := fun (w' : World) (hb : Below w.heap.size w w') => alongR W H C A n cp P a b c d p r s x0 y0 x1 y1 w' hP (hr.below hb) hb.size hcp
    have hPF := fun (w' : World) (hb : Below w.heap.size w w') => rpassF W H C A n cp P a b c d p r s x0 y0 x1 y1 w' hP (hr.below hb) hb.size hcp
    have hPT := fun (w' : World) (hb : Below w.heap.size w w') => rpassT W H C A n cp P a b c d p r s x0 y0 x1 y1 w' hP (hr.below hb) hb.size hcp
    generalize passR (fAcr p s) P W H C n a b c d p r s x0 y0 x1 y1 = R1 at *
    generalize passR (fAlo p r) P W H C n a b c d p r s x0 y0 x1 y1 = R2 at *
    clear hP hr
    by_cases har : areaR x0 y0 x1 y1 ≤ 3000
    all_goals
      cases hlg : largeB x0 y0 x1 y1
      all_goals
        go_wp2_with (go_at_call 8; (with_reducible refine (rlarge_any x0 y0 x1 y1 _).mono ?_); rintro e w3 ⟨rfl, hb3⟩; rw [hlg]; replace hL := hL.nx hb3; clear hb3 p0 p1 p2 p3 p4 p5 p6 p7 p8 p9 p10 i0 i1 i2 i3; obtain ⟨p0, p1, p2, p3, p4, p5, p6, p7, p8, p9, p10⟩ := (hL.k 0 (by simp)).cell11; obtain ⟨i0, i1, i2, i3⟩ := (hL.k 1 (by simp)).cell4; simp only [List.getElem_cons_zero, List.getElem_cons_succ] at p0 p1 p2 p3 p4 p5 p6 p7 p8 p9 p10 i0 i1 i2 i3)
        all_goals
          first
            | (go_returns; exact ⟨rfl, hL.bel⟩)
            | skip
        all_goals
          refine (hAc _ hL.bel).mono ?_
          rintro e wa1 ⟨A1, n1, c1, rfl, hn1, hm1, hr1', hb'⟩
          have hr1 := hr1'
          replace hL := (hL.nx hb').alloc #[.int .i64 R1.W, .int .i64 R1.H, .int .i64 R1.C, .slice A1 n1 c1] 24
          replace hr1 := (hr1.alloc (Nat.le_refl _) (.cells #[.int .i64 R1.W, .int .i64 R1.H, .int .i64 R1.C, .slice A1 n1 c1] 24)).more (show wa1.heap.size ≤ (wa1.alloc (.cells #[.int .i64 R1.W, .int .i64 R1.H, .int .i64 R1.C, .slice A1 n1 c1] 24)).heap.size by simp)
          clear hr1' hb' hAc p0 p1 p2 p3 p4 p5 p6 p7 p8 p9 p10 i0 i1 i2 i3
          obtain ⟨p0, p1, p2, p3, p4, p5, p6, p7, p8, p9, p10⟩ := (hL.k 1 (by simp)).cell11; obtain ⟨i0, i1, i2, i3⟩ := (hL.k 2 (by simp)).cell4; simp only [List.getElem_cons_zero, List.getElem_cons_succ] at p0 p1 p2 p3 p4 p5 p6 p7 p8 p9 p10 i0 i1 i2 i3
          go_wp2_with fail
          refine (hAl _ hL.bel).mono ?_
          rintro e wa2 ⟨A2, n2, c2, rfl, hn2, hm2, hr2', hb'⟩
          replace hr1 := (hr1.below hb').more hb'.size
          have hr2 := hr2'
          replace hL := (hL.nx hb').alloc #[.int .i64 R2.W, .int .i64 R2.H, .int .i64 R2.C, .slice A2 n2 c2] 24
          replace hr1 := (hr1.alloc (Nat.le_refl _) (.cells #[.int .i64 R2.W, .int .i64 R2.H, .int .i64 R2.C, .slice A2 n2 c2] 24)).more (show wa2.heap.size ≤ (wa2.alloc (.cells #[.int .i64 R2.W, .int .i64 R2.H, .int .i64 R2.C, .slice A2 n2 c2] 24)).heap.size by simp)
          replace hr2 := (hr2.alloc (Nat.le_refl _) (.cells #[.int .i64 R2.W, .int .i64 R2.H, .int .i64 R2.C, .slice A2 n2 c2] 24)).more (show wa2.heap.size ≤ (wa2.alloc (.cells #[.int .i64 R2.W, .int .i64 R2.H, .int .i64 R2.C, .slice A2 n2 c2] 24)).heap.size by simp)
          clear hr2' hb' hAl p0 p1 p2 p3 p4 p5 p6 p7 p8 p9 p10 i0 i1 i2 i3
          obtain ⟨p0, p1, p2, p3, p4, p5, p6, p7, p8, p9, p10⟩ := (hL.k 2 (by simp)).cell11; obtain ⟨i0, i1, i2, i3⟩ := (hL.k 3 (by simp)).cell4; simp only [List.getElem_cons_zero, List.getElem_cons_succ] at p0 p1 p2 p3 p4 p5 p6 p7 p8 p9 p10 i0 i1 i2 i3
          go_wp2_with fail
          refine (hPF _ hL.bel).mono ?_
          rintro e wa3 ⟨A3, n3, c3, rfl, hn3, hm3, hr3', hb'⟩
          replace hr1 := (hr1.below hb').more hb'.size
          replace hr2 := (hr2.below hb').more hb'.size
          have hr3 := hr3'
          replace hL := (hL.nx hb').alloc #[.int .i64 R1.W, .int .i64 R1.H, .int .i64 R1.C, .slice A3 n3 c3] 24
          replace hr1 := (hr1.alloc (Nat.le_refl _) (.cells #[.int .i64 R1.W, .int .i64 R1.H, .int .i64 R1.C, .slice A3 n3 c3] 24)).more (show wa3.heap.size ≤ (wa3.alloc (.cells #[.int .i64 R1.W, .int .i64 R1.H, .int .i64 R1.C, .slice A3 n3 c3] 24)).heap.size by simp)
          replace hr2 := (hr2.alloc (Nat.le_refl _) (.cells #[.int .i64 R1.W, .int .i64 R1.H, .int .i64 R1.C, .slice A3 n3 c3] 24)).more (show wa3.heap.size ≤ (wa3.alloc (.cells #[.int .i64 R1.W, .int .i64 R1.H, .int .i64 R1.C, .slice A3 n3 c3] 24)).heap.size by simp)
          replace hr3 := (hr3.alloc (Nat.le_refl _) (.cells #[.int .i64 R1.W, .int .i64 R1.H, .int .i64 R1.C, .slice A3 n3 c3] 24)).more (show wa3.heap.size ≤ (wa3.alloc (.cells #[.int .i64 R1.W, .int .i64 R1.H, .int .i64 R1.C, .slice A3 n3 c3] 24)).heap.size by simp)
          clear hr3' hb' hPF p0 p1 p2 p3 p4 p5 p6 p7 p8 p9 p10 i0 i1 i2 i3
          obtain ⟨p0, p1, p2, p3, p4, p5, p6, p7, p8, p9, p10⟩ := (hL.k 3 (by simp)).cell11; obtain ⟨i0, i1, i2, i3⟩ := (hL.k 4 (by simp)).cell4; simp only [List.getElem_cons_zero, List.getElem_cons_succ] at p0 p1 p2 p3 p4 p5 p6 p7 p8 p9 p10 i0 i1 i2 i3
          go_wp2_with fail
          refine (hPT _ hL.bel).mono ?_
          rintro e wa4 ⟨A4, n4, c4, rfl, hn4, hm4, hr4', hb'⟩
          replace hr1 := (hr1.below hb').more hb'.size
          replace hr2 := (hr2.below hb').more hb'.size
          replace hr3 := (hr3.below hb').more hb'.size
          have hr4 := hr4'
          replace hL := (hL.nx hb').alloc #[.int .i64 R2.W, .int .i64 R2.H, .int .i64 R2.C, .slice A4 n4 c4] 24
          replace hr1 := (hr1.alloc (Nat.le_refl _) (.cells #[.int .i64 R2.W, .int .i64 R2.H, .int .i64 R2.C, .slice A4 n4 c4] 24)).more (show wa4.heap.size ≤ (wa4.alloc (.cells #[.int .i64 R2.W, .int .i64 R2.H, .int .i64 R2.C, .slice A4 n4 c4] 24)).heap.size by simp)
          replace hr2 := (hr2.alloc (Nat.le_refl _) (.cells #[.int .i64 R2.W, .int .i64 R2.H, .int .i64 R2.C, .slice A4 n4 c4] 24)).more (show wa4.heap.size ≤ (wa4.alloc (.cells #[.int .i64 R2.W, .int .i64 R2.H, .int .i64 R2.C, .slice A4 n4 c4] 24)).heap.size by simp)
          replace hr3 := (hr3.alloc (Nat.le_refl _) (.cells #[.int .i64 R2.W, .int .i64 R2.H, .int .i64 R2.C, .slice A4 n4 c4] 24)).more (show wa4.heap.size ≤ (wa4.alloc (.cells #[.int .i64 R2.W, .int .i64 R2.H, .int .i64 R2.C, .slice A4 n4 c4] 24)).heap.size by simp)
          replace hr4 := (hr4.alloc (Nat.le_refl _) (.cells #[.int .i64 R2.W, .int .i64 R2.H, .int .i64 R2.C, .slice A4 n4 c4] 24)).more (show wa4.heap.size ≤ (wa4.alloc (.cells #[.int .i64 R2.W, .int .i64 R2.H, .int .i64 R2.C, .slice A4 n4 c4] 24)).heap.size by simp)
          clear hr4' hb' hPT p0 p1 p2 p3 p4 p5 p6 p7 p8 p9 p10 i0 i1 i2 i3
          obtain ⟨u0, u1, u2, u3⟩ := (hL.k 0 (by simp)).cell4
          obtain ⟨v0, v1, v2, v3⟩ := (hL.k 1 (by simp)).cell4
          obtain ⟨x0, x1, x2, x3⟩ := (hL.k 2 (by simp)).cell4
          obtain ⟨z0, z1, z2, z3⟩ := (hL.k 3 (by simp)).cell4
          simp only [List.getElem_cons_zero, List.getElem_cons_succ] at u0 u1 u2 u3 v0 v1 v2 v3 x0 x1 x2 x3 z0 z1 z2 z3
          go_wp2_with fail
          refine (pass_same R1 A1 A3 c1 c3 _ n1 n3 hr1 hr3 hn1 hn3 hm1).mono ?_
          rintro e w8 ⟨rfl, hb8⟩
          replace hL := hL.nx hb8
          replace hr2 := (hr2.below hb8).more hb8.size
          replace hr4 := (hr4.below hb8).more hb8.size
          clear hb8 u0 u1 u2 u3 v0 v1 v2 v3 x0 x1 x2 x3 z0 z1 z2 z3
          obtain ⟨u0, u1, u2, u3⟩ := (hL.k 0 (by simp)).cell4
          obtain ⟨v0, v1, v2, v3⟩ := (hL.k 1 (by simp)).cell4
          obtain ⟨x0, x1, x2, x3⟩ := (hL.k 2 (by simp)).cell4
          obtain ⟨z0, z1, z2, z3⟩ := (hL.k 3 (by simp)).cell4
          simp only [List.getElem_cons_zero, List.getElem_cons_succ] at u0 u1 u2 u3 v0 v1 v2 v3 x0 x1 x2 x3 z0 z1 z2 z3
          go_wp2_with fail
          refine (pass_same R2 A2 A4 c2 c4 _ n2 n4 hr2 hr4 hn2 hn4 hm2).mono ?_
          rintro e w9 ⟨rfl, hb9⟩
          replace hL := hL.nx hb9
          go_wp2_with fail
          refine (alive_any _).mono ?_
          rintro e w10 ⟨rfl, hb10⟩
          replace hL := hL.nx hb10
          go_wp2_with fail
          go_returns
          exact ⟨rfl, hL.bel⟩
  · have hd : decide ((n : Int) ≤ 3000) = false := decide_eq_false hfew
    go_wp2_with fail
    go_returns
    exact ⟨rfl, hL.bel⟩
end Go.Proofs.Ytpcjoalbhicccaa
