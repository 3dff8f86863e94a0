/- The law HddaSame. -/
import Derived.Test.YtebcienjeponmaaHa1
import Derived.Test.YtebcienjeponmaaHd5
set_option linter.unusedVariables false
namespace Go.Proofs.Ytebcienjeponmaa
open Go.RowKit
theorem hd_new : hdC idL 9 9 3 4 = 0 := by decide +kernel
set_option maxRecDepth 100000 in
set_option maxHeartbeats 4000000 in
theorem alive35 (w : World) : Calls Try.prog 30 #[] w fun e w' => e = .returned (.bool true) ∧ Below w.heap.size w w' := by
  have kL := Bk.new w 2 (idL.map (Value.int .i64)).toArray
  have hb1 := (Below.refl w.heap.size w).alloc (Nat.le_refl _) (.cells (idL.map (Value.int .i64)).toArray 2)
  have hN := hdnew_any idL _ 9 9 9 9 3 4 _ rfl kL.rdl (Nat.le_refl _) (by decide)
  rw [hd_new] at hN
  simp only [HdR, hd_new] at hN
  have hwk : WkOk (adK (cf idL) 9) 3 4 := ⟨adOk (newC_zero.1 id_new).ok, by decide, by decide, by decide, by decide⟩
  have hA := fun (g : Nat) (w' : World) (hk : Bk w' g 94 (wkT (adK (cf idL) 9) 3 4)) => next_any (adK (cf idL) 9) g 3 4 w' hk hwk (by decide)
  rw [id_x, id_y, id_e] at hA
  simp only [idL, List.map_cons, List.map_nil] at hN kL hb1
  clear hwk
  go_enter Try.func30, Try.ntmps30
  go_wp2_with fail
  refine hN.mono ?_
  rintro e w2 ⟨p, rfl, ⟨_, hR⟩, hb2⟩
  obtain ⟨g, rfl, hg, hK⟩ := hR (by trivial)
  clear hR
  have hgw : w.heap.size ≤ g := by simp at hg; omega
  replace hb2 := hb1.trans (hb2.mono hb1.size)
  go_wp2_with fail
  refine (hA _ _ hK).mono ?_
  rintro e w3 ⟨rfl, hK3, hg3⟩
  replace hb3 := below_of_gb hb2 hg3 hgw hb2.size
  go_wp2_with fail
  go_returns
  exact ⟨rfl, hb3⟩
/-- Where a walk stands after k columns. -/
def posW (X : Int) (k : Nat) : Int := if X + k ≤ 1048577 then X + k else 1048577
theorem posW_le {X : Int} {k : Nat} (h : X + k ≤ 1048576) : posW X k = X + k := by unfold posW; rw [if_pos (by omega)]
theorem posW_gt {X : Int} {k : Nat} (h : 1048576 < X + k) : posW X k = 1048577 := by unfold posW; split <;> omega
theorem posW_succ {X : Int} {k : Nat} (h : X + k ≤ 1048576) : posW X k + 1 = posW X (k + 1) := by
  rw [posW_le h]; unfold posW; rw [if_pos (by omega)]; omega
theorem posW_stay {X : Int} {k : Nat} (h : 1048576 < X + k) : posW X k = posW X (k + 1) := by
  rw [posW_gt h, posW_gt (by omega)]
theorem at_far {a : Nat → Int} {x y : Int} (h : 1048576 < x) : atX a x y 1 = 0 ∧ atY a x y 1 = 0 ∧ atE a x y 1 = 11 := by
  have hp : rightH x y 1 = false := by
    cases hr : rightH x y 1
    · rfl
    · have := rightH_iff.1 hr; omega
  unfold atX atY atE
  rw [hp]; simp
set_option maxRecDepth 100000 in
set_option maxHeartbeats 8000000 in
theorem walkHddaSame (l : List Int) (A : Option Addr) (n cp : Nat) (W H X Y N : Int) (w : World) (hl : l.length = n) (hcp : n ≤ cp) (hr : Rd w w.heap.size A (l.map (Value.int .i64)))
    (bN : -9223372036854775808 ≤ N ∧ N ≤ 9223372036854775807) :
    Calls Try.prog 8 #[.slice A n cp, .agg #[.int .i64 W, .int .i64 H, .int .i64 X, .int .i64 Y], .int .i64 N] w fun e w' => e = .returned (.bool true) ∧ Below w.heap.size w w' := by
  have hL : Lie w [(w.heap.size, 57, #[.int .i64 W, .int .i64 H, .int .i64 X, .int .i64 Y])] _ := (Lie.start w).alloc _ _
  have hN := hdnew_any l A n cp W H X Y _ hl (hL.rd hr (Nat.le_refl _)) hL.sz hcp
  have hM := fun (w' : World) (hb : Below w.heap.size w w') => new_any l A n cp W H w' hl (hr.below hb) hb.size hcp
  have hAl := fun w' => alive35 w'
  obtain ⟨p0, p1, p2, p3⟩ := (hL.k 0 (by simp)).cell4
  simp only [List.getElem_cons_zero] at p0 p1 p2 p3
  by_cases hz : hdC l W H X Y = 0
  · obtain ⟨h1, h2, h3⟩ := hdC_zero.1 hz
    obtain ⟨X0, X1⟩ := inH_iff.1 h2
    obtain ⟨Y0, Y1⟩ := inH_iff.1 h3
    have had := adOk (newC_zero.1 h1).ok
    rw [hz] at hN
    simp only [HdR, hz] at hN
    rw [h1] at hM
    simp only [NwR, h1] at hM
    clear hz h1 h2 h3 hl hr
    generalize adK (cf l) 9 = a at *
    go_enter Try.func8, Try.ntmps8
    go_wp2_with fail
    refine hN.mono ?_
    rintro e w2 ⟨p, rfl, ⟨_, hR⟩, hb2⟩
    obtain ⟨g, rfl, hg, hK⟩ := hR (by trivial)
    clear hR hN p0 p1 p2 p3
    replace hL := hL.nx hb2
    obtain ⟨p0, p1, p2, p3⟩ := (hL.k 0 (by simp)).cell4
    simp only [List.getElem_cons_zero] at p0 p1 p2 p3
    go_wp2_with fail
    refine (hM _ hL.bel).mono ?_
    rintro e w3 ⟨p, rfl, ⟨_, hR⟩, hb3⟩
    obtain ⟨g2, rfl, hg2, hK2⟩ := hR (by trivial)
    clear hR hM p0 p1 p2 p3
    replace hL := hL.nx hb3
    replace hK := hK.nx hb3
    have hgw : w.heap.size < g := by have := hg; simp at this; omega
    have hg2w : g2 ≠ g := hK2.ne_Bk hK (by decide)
    have hpl : w.heap.size ≠ g := by omega
    have hlg : g < w3.heap.size := hK.lt
    go_wp2_with fail
    go_loopw [11] (fun i wr => ∃ k : Nat, i = .int .i64 k ∧ (k : Int) ≤ 3000 ∧ Bk wr g 94 (wkT a (posW X k) Y) ∧ Bk wr g2 74 (mA a) ∧ Lie w [(w.heap.size, 57, #[.int .i64 W, .int .i64 H, .int .i64 X, .int .i64 Y])] wr) (fun i _ => 3000 - (intOf i).toNat)
    case atStart => exact ⟨0, rfl, by omega, by rw [posW_le (by omega)]; simpa using hK, hK2, hL⟩
    case round =>
      clear hK hK2 hL hlg
      obtain ⟨k, rfl, hk, hK, hK2, hL⟩ := hrel
      obtain ⟨p0, p1, p2, p3⟩ := (hL.k 0 (by simp)).cell4
      simp only [List.getElem_cons_zero] at p0 p1 p2 p3
      by_cases hN3 : 3000 < N
      · by_cases hlt : (k : Int) < 3000
        · by_cases hfar : 1048576 < X + k
          · skip
            have hNx := fun (w' : World) (hk : Bk w' g 94 (wkT a (posW X k) Y)) => next_far a g _ Y w' hk (by rw [posW_gt hfar]; omega)
            have hAt := fun (w' : World) (hk : Bk w' g2 74 (mA a)) => hat_any a g2 (X + k) Y 1 w' hk had
            obtain ⟨q1, q2, q3⟩ := at_far (a := a) (x := X + k) (y := Y) hfar
            rw [q1, q2, q3] at hAt
            have hps := Lib.hid (posW_stay hfar)
            clear q1 q2 q3
            generalize posW X k = ps at *
            go_wp2_with fail
            refine (hNx _ hK).mono ?_
            rintro e w4 ⟨rfl, rfl⟩
            go_wp2_with fail
            refine (hAt _ hK2).mono ?_
            rintro e w5 ⟨rfl, hb5⟩
            go_wp2_with fail
            exact ⟨⟨k + 1, by go_num, by omega, by rw [← hps.out]; exact hK.nx hb5, hK2.nx hb5, hL.nx hb5⟩, by simp [intOf]; omega⟩
          · have hnear : X + k ≤ 1048576 := by omega
            clear hfar
            have hNx := fun (w' : World) (hk : Bk w' g 94 (wkT a (posW X k) Y)) => next_any a g _ Y w' hk ⟨had, by rw [posW_le hnear]; omega, by rw [posW_le hnear]; omega, Y0, Y1⟩ (by rw [posW_le hnear]; omega)
            have hAt := fun (w' : World) (hk : Bk w' g2 74 (mA a)) => hat_any a g2 (X + k) Y 1 w' hk had
            have hps := Lib.hid (posW_succ hnear)
            rw [posW_le hnear] at hNx hK
            rw [posW_le hnear] at hps
            generalize atX a (X + k) Y 1 = v1 at *
            generalize atY a (X + k) Y 1 = v2 at *
            generalize atE a (X + k) Y 1 = v3 at *
            go_wp2_with fail
            refine (hNx _ hK).mono ?_
            rintro e w4 ⟨rfl, hK4, hg4⟩
            have hK24 := hK2.grown hg4 (by intro e; injection e with e; exact hg2w e)
            have hL4 : Lie w [(w.heap.size, 57, #[.int .i64 W, .int .i64 H, .int .i64 X, .int .i64 Y])] w4 := hL.grown hg4 (by omega) (by intro q hq; simp at hq; subst hq; exact hpl)
            clear p0 p1 p2 p3
            obtain ⟨p0, p1, p2, p3⟩ := (hL4.k 0 (by simp)).cell4
            simp only [List.getElem_cons_zero] at p0 p1 p2 p3
            go_wp2_with fail
            refine (hAt _ hK24).mono ?_
            rintro e w5 ⟨rfl, hb5⟩
            go_wp2_with fail
            exact ⟨⟨k + 1, by go_num, by omega, by rw [← hps.out]; exact hK4.nx hb5, hK24.nx hb5, hL4.nx hb5⟩, by simp [intOf]; omega⟩
        · go_wp2_with (first
            | (go_at_call 30; (with_reducible refine (hAl _).mono ?_); rintro e w4 ⟨rfl, hb4⟩))
          go_returns
          exact ⟨rfl, (hL.nx hb4).bel⟩
      · by_cases hlt : (k : Int) < N
        · by_cases hfar : 1048576 < X + k
          · skip
            have hNx := fun (w' : World) (hk : Bk w' g 94 (wkT a (posW X k) Y)) => next_far a g _ Y w' hk (by rw [posW_gt hfar]; omega)
            have hAt := fun (w' : World) (hk : Bk w' g2 74 (mA a)) => hat_any a g2 (X + k) Y 1 w' hk had
            obtain ⟨q1, q2, q3⟩ := at_far (a := a) (x := X + k) (y := Y) hfar
            rw [q1, q2, q3] at hAt
            have hps := Lib.hid (posW_stay hfar)
            clear q1 q2 q3
            generalize posW X k = ps at *
            go_wp2_with fail
            refine (hNx _ hK).mono ?_
            rintro e w4 ⟨rfl, rfl⟩
            go_wp2_with fail
            refine (hAt _ hK2).mono ?_
            rintro e w5 ⟨rfl, hb5⟩
            go_wp2_with fail
            exact ⟨⟨k + 1, by go_num, by omega, by rw [← hps.out]; exact hK.nx hb5, hK2.nx hb5, hL.nx hb5⟩, by simp [intOf]; omega⟩
          · have hnear : X + k ≤ 1048576 := by omega
            clear hfar
            have hNx := fun (w' : World) (hk : Bk w' g 94 (wkT a (posW X k) Y)) => next_any a g _ Y w' hk ⟨had, by rw [posW_le hnear]; omega, by rw [posW_le hnear]; omega, Y0, Y1⟩ (by rw [posW_le hnear]; omega)
            have hAt := fun (w' : World) (hk : Bk w' g2 74 (mA a)) => hat_any a g2 (X + k) Y 1 w' hk had
            have hps := Lib.hid (posW_succ hnear)
            rw [posW_le hnear] at hNx hK
            rw [posW_le hnear] at hps
            generalize atX a (X + k) Y 1 = v1 at *
            generalize atY a (X + k) Y 1 = v2 at *
            generalize atE a (X + k) Y 1 = v3 at *
            go_wp2_with fail
            refine (hNx _ hK).mono ?_
            rintro e w4 ⟨rfl, hK4, hg4⟩
            have hK24 := hK2.grown hg4 (by intro e; injection e with e; exact hg2w e)
            have hL4 : Lie w [(w.heap.size, 57, #[.int .i64 W, .int .i64 H, .int .i64 X, .int .i64 Y])] w4 := hL.grown hg4 (by omega) (by intro q hq; simp at hq; subst hq; exact hpl)
            clear p0 p1 p2 p3
            obtain ⟨p0, p1, p2, p3⟩ := (hL4.k 0 (by simp)).cell4
            simp only [List.getElem_cons_zero] at p0 p1 p2 p3
            go_wp2_with fail
            refine (hAt _ hK24).mono ?_
            rintro e w5 ⟨rfl, hb5⟩
            go_wp2_with fail
            exact ⟨⟨k + 1, by go_num, by omega, by rw [← hps.out]; exact hK4.nx hb5, hK24.nx hb5, hL4.nx hb5⟩, by simp [intOf]; omega⟩
        · go_wp2_with (first
            | (go_at_call 30; (with_reducible refine (hAl _).mono ?_); rintro e w4 ⟨rfl, hb4⟩))
          go_returns
          exact ⟨rfl, (hL.nx hb4).bel⟩
  · have hb : (hdC l W H X Y != 0) = true := by simp [hz]
    have hne := Lib.hid hz
    simp only [HdR] at hN
    simp only [NwR] at hM
    clear hz
    generalize hdC l W H X Y = nc at *
    generalize newC l W H = nc2 at *
    clear hl hr
    go_enter Try.func8, Try.ntmps8
    go_wp2_with fail
    refine hN.mono ?_
    rintro e w2 ⟨p, rfl, ⟨hRl, _⟩, hb2⟩
    obtain rfl := hRl hne.out
    clear hRl hN p0 p1 p2 p3
    replace hL := hL.nx hb2
    obtain ⟨p0, p1, p2, p3⟩ := (hL.k 0 (by simp)).cell4
    simp only [List.getElem_cons_zero] at p0 p1 p2 p3
    go_wp2_with fail
    refine (hM _ hL.bel).mono ?_
    rintro e w3 ⟨p, rfl, _, hb3⟩
    clear hM p0 p1 p2 p3
    replace hL := hL.nx hb3
    go_wp2_with (first
      | (go_at_call 30; (with_reducible refine (hAl _).mono ?_); rintro e w4 ⟨rfl, hb4⟩))
    go_returns
    exact ⟨rfl, (hL.nx hb4).bel⟩
theorem ca_p35 : Try.prog.cellsOf 57 = 4 := by kernel_rfl
set_option maxRecDepth 100000 in
theorem open_p35 {w : World} {cs : List Value} (h : Rv Try.prog w 57 cs) : ∃ a b c d : Int, cs = [.int .i64 a, .int .i64 b, .int .i64 c, .int .i64 d] ∧ (-9223372036854775808 ≤ a ∧ a ≤ 9223372036854775807) ∧ (-9223372036854775808 ≤ b ∧ b ≤ 9223372036854775807) ∧ (-9223372036854775808 ≤ c ∧ c ≤ 9223372036854775807) ∧ (-9223372036854775808 ≤ d ∧ d ≤ 9223372036854775807) := by
  obtain ⟨hl, hf⟩ := rv_struct Try.underlying57 h
  rw [ca_p35] at hl
  match cs, hl with
  | [v0, v1, v2, v3], _ =>
    have g0 : Rv Try.prog w 3 (([v0, v1, v2, v3].drop 0).take (Try.prog.cellsOf 3)) := hf 0 _ rfl
    have g1 : Rv Try.prog w 3 (([v0, v1, v2, v3].drop 1).take (Try.prog.cellsOf 3)) := hf 1 _ rfl
    have g2 : Rv Try.prog w 2 (([v0, v1, v2, v3].drop 2).take (Try.prog.cellsOf 2)) := hf 2 _ rfl
    have g3 : Rv Try.prog w 2 (([v0, v1, v2, v3].drop 3).take (Try.prog.cellsOf 2)) := hf 3 _ rfl
    rw [ca_int] at g0 g1
    rw [ca_i64] at g2 g3
    obtain ⟨a, e0, i0⟩ := rv_int Try.underlying3 g0
    obtain ⟨b, e1, i1⟩ := rv_int Try.underlying3 g1
    obtain ⟨c, e2, i2⟩ := rv_int Try.underlying2 g2
    obtain ⟨d, e3, i3⟩ := rv_int Try.underlying2 g3
    simp at e0 e1 e2 e3
    subst e0 e1 e2 e3
    exact ⟨a, b, c, d, rfl, wf_i64 i0, wf_i64 i1, wf_i64 i2, wf_i64 i3⟩
theorem lawHddaSame (A : Option Addr) (n cp : Nat) (cs1 : Array Value) (N : Int) (w : World) (h0 : Rv Try.prog w 22 [.slice A n cp]) (h1 : Rv Try.prog w 57 cs1.toList) (h2 : (Lit.int .i64 N).wf = true) :
    Calls Try.prog 8 #[.slice A n cp, .agg cs1, .int .i64 N] w fun e w' => e = .returned (.bool true) ∧ Below w.heap.size w w' := by
  obtain ⟨l, hl, hn, _, _, hr⟩ := open_nums h0
  obtain ⟨W, H, X, Y, e2, _, _, _, _⟩ := open_p35 h1
  obtain ⟨l2⟩ := cs1
  simp only at e2
  subst e2
  exact walkHddaSame l A n cp W H X Y N w hl hn hr (wf_i64 h2)
end Go.Proofs.Ytebcienjeponmaa
