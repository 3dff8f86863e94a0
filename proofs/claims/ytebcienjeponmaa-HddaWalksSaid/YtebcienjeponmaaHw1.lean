/- The law HddaWalks. -/
import Derived.Test.YtebcienjeponmaaHd6
import Derived.Test.YtebcienjeponmaaHq1
set_option linter.unusedVariables false
namespace Go.Proofs.Ytebcienjeponmaa
open Go.RowKit
set_option maxRecDepth 100000 in
set_option maxHeartbeats 16000000 in
theorem walkHddaWalks (l l2 : List Int) (A A2 : Option Addr) (n cp m cp2 : Nat) (W H X Y : Int) (w : World) (hl : l.length = n) (hcp : n ≤ cp) (hr : Rd w w.heap.size A (l.map (Value.int .i64))) (hok : ∀ z ∈ l, -9223372036854775808 ≤ z ∧ z ≤ 9223372036854775807) (hW : I64 W) (hH : I64 H)
    (hl2 : l2.length = m) (hcp2 : m ≤ cp2) (hr2 : Rd w w.heap.size A2 (l2.map (Value.int .i64))) (hok2 : ∀ z ∈ l2, -9223372036854775808 ≤ z ∧ z ≤ 9223372036854775807) :
    Calls Try.prog 7 #[.slice A n cp, .agg #[.int .i64 W, .int .i64 H, .int .i64 X, .int .i64 Y], .slice A2 m cp2] w fun e w' => e = .returned (.bool true) ∧ Below w.heap.size w w' := by
  have hL : Lie w [(w.heap.size, 57, #[.int .i64 W, .int .i64 H, .int .i64 X, .int .i64 Y])] _ := (Lie.start w).alloc _ _
  have hAl := fun w' => alive35 w'
  by_cases h60 : 60 < n
  · clear hl
    go_enter Try.func7, Try.ntmps7
    go_wp2_with fail
    go_returns
    exact ⟨rfl, hL.bel⟩
  by_cases h61 : 60 < m
  · clear hl
    go_enter Try.func7, Try.ntmps7
    go_wp2_with fail
    go_returns
    exact ⟨rfl, hL.bel⟩
  have hN := hdnew_any l A n cp W H X Y _ hl (hL.rd hr (Nat.le_refl _)) hL.sz hcp
  have hC := fun (w' : World) (hb : Below w.heap.size w w') => rcheck_any l A n cp W H w' hl (hr.below hb) hb.size hok hW hH
  have hIx := fun w' => rin_any X 1048576 w' (by decide) (by decide)
  have hIy := fun w' => rin_any Y 1048576 w' (by decide) (by decide)
  have HL2 := Lib.hid hl2
  have HOK2 := Lib.hid hok2
  clear hl2 hok2
  obtain ⟨p0, p1, p2, p3⟩ := (hL.k 0 (by simp)).cell4
  simp only [List.getElem_cons_zero] at p0 p1 p2 p3
  by_cases h1 : newC l W H = 0
  case neg =>
    have hb : (newC l W H != 0) = true := by simp [h1]
    have hbe : (newC l W H == 0) = false := by simp [h1]
    have hc : hdC l W H X Y = newC l W H := by unfold hdC; rw [if_pos h1]
    have hne := Lib.hid h1
    simp only [HdR, hc] at hN
    clear h1 hl hok hr hr2 hc
    generalize newC l W H = nc at *
    go_enter Try.func7, Try.ntmps7
    go_wp2_with fail
    refine hN.mono ?_
    rintro e w2 ⟨p, rfl, ⟨hRl, hRr⟩, hb2⟩
    clear hN p0 p1 p2 p3
    replace hL := hL.nx hb2
    obtain ⟨p0, p1, p2, p3⟩ := (hL.k 0 (by simp)).cell4
    simp only [List.getElem_cons_zero] at p0 p1 p2 p3
    obtain rfl := hRl hne.out
    clear hRl hRr
    go_wp2_with fail
    refine (hC _ hL.bel).mono ?_
    rintro e w3 ⟨rfl, hb3⟩
    replace hL := hL.nx hb3
    clear hC p0 p1 p2 p3
    obtain ⟨p0, p1, p2, p3⟩ := (hL.k 0 (by simp)).cell4
    simp only [List.getElem_cons_zero] at p0 p1 p2 p3
    go_wp2_with (first
      | (go_at_call 27; (with_reducible refine (next_nil _).mono ?_); rintro e w4 ⟨rfl, rfl⟩)
      | (go_at_call 28; (with_reducible refine (skip_nil _ _).mono ?_); rintro e w4 ⟨rfl, rfl⟩)
      | (go_at_call 29; (with_reducible refine (x_nil _).mono ?_); rintro e w4 ⟨rfl, rfl⟩)
      | (go_at_call 26; (with_reducible refine (hIx _).mono ?_); rintro e w5 ⟨rfl, rfl⟩)
      | (go_at_call 26; (with_reducible refine (hIy _).mono ?_); rintro e w5 ⟨rfl, rfl⟩)
      | (go_at_call 30; (with_reducible refine (hAl _).mono ?_); rintro e w4 ⟨rfl, hb4⟩))
    go_returns
    exact ⟨rfl, (hL.nx hb4).bel⟩
  have hcf := (newC_zero.1 h1).ok
  rw [h1] at hC
  by_cases h2 : inH X 1048576 = true ∧ inH Y 1048576 = true
  case neg =>
    have hc : hdC l W H X Y = 11 := by unfold hdC; rw [if_neg (by simp [h1]), if_neg h2]
    simp only [HdR, hc] at hN
    clear h1 hl hok hr hr2 hc hcf
    cases hx : inH X 1048576
    · rw [hx] at hIx
      clear h2 hx hIy
      have hIy := hIx
      go_enter Try.func7, Try.ntmps7
      go_wp2_with fail
      refine hN.mono ?_
      rintro e w2 ⟨p, rfl, ⟨hRl, hRr⟩, hb2⟩
      clear hN p0 p1 p2 p3
      replace hL := hL.nx hb2
      obtain ⟨p0, p1, p2, p3⟩ := (hL.k 0 (by simp)).cell4
      simp only [List.getElem_cons_zero] at p0 p1 p2 p3
      obtain rfl := hRl (by decide)
      clear hRl hRr
      go_wp2_with fail
      refine (hC _ hL.bel).mono ?_
      rintro e w3 ⟨rfl, hb3⟩
      replace hL := hL.nx hb3
      clear hC p0 p1 p2 p3
      obtain ⟨p0, p1, p2, p3⟩ := (hL.k 0 (by simp)).cell4
      simp only [List.getElem_cons_zero] at p0 p1 p2 p3
      go_wp2_with (first
        | (go_at_call 27; (with_reducible refine (next_nil _).mono ?_); rintro e w4 ⟨rfl, rfl⟩)
        | (go_at_call 28; (with_reducible refine (skip_nil _ _).mono ?_); rintro e w4 ⟨rfl, rfl⟩)
        | (go_at_call 29; (with_reducible refine (x_nil _).mono ?_); rintro e w4 ⟨rfl, rfl⟩)
        | (go_at_call 26; (with_reducible refine (hIx _).mono ?_); rintro e w5 ⟨rfl, rfl⟩)
        | (go_at_call 26; (with_reducible refine (hIy _).mono ?_); rintro e w5 ⟨rfl, rfl⟩)
        | (go_at_call 30; (with_reducible refine (hAl _).mono ?_); rintro e w4 ⟨rfl, hb4⟩))
      go_returns
      exact ⟨rfl, (hL.nx hb4).bel⟩
    · have hy : inH Y 1048576 = false := by
        cases hy : inH Y 1048576
        · rfl
        · exact absurd ⟨hx, hy⟩ h2
      rw [hx] at hIx
      rw [hy] at hIy
      clear h2 hx hy
      go_enter Try.func7, Try.ntmps7
      go_wp2_with fail
      refine hN.mono ?_
      rintro e w2 ⟨p, rfl, ⟨hRl, hRr⟩, hb2⟩
      clear hN p0 p1 p2 p3
      replace hL := hL.nx hb2
      obtain ⟨p0, p1, p2, p3⟩ := (hL.k 0 (by simp)).cell4
      simp only [List.getElem_cons_zero] at p0 p1 p2 p3
      obtain rfl := hRl (by decide)
      clear hRl hRr
      go_wp2_with fail
      refine (hC _ hL.bel).mono ?_
      rintro e w3 ⟨rfl, hb3⟩
      replace hL := hL.nx hb3
      clear hC p0 p1 p2 p3
      obtain ⟨p0, p1, p2, p3⟩ := (hL.k 0 (by simp)).cell4
      simp only [List.getElem_cons_zero] at p0 p1 p2 p3
      go_wp2_with (first
        | (go_at_call 27; (with_reducible refine (next_nil _).mono ?_); rintro e w4 ⟨rfl, rfl⟩)
        | (go_at_call 28; (with_reducible refine (skip_nil _ _).mono ?_); rintro e w4 ⟨rfl, rfl⟩)
        | (go_at_call 29; (with_reducible refine (x_nil _).mono ?_); rintro e w4 ⟨rfl, rfl⟩)
        | (go_at_call 26; (with_reducible refine (hIx _).mono ?_); rintro e w5 ⟨rfl, rfl⟩)
        | (go_at_call 26; (with_reducible refine (hIy _).mono ?_); rintro e w5 ⟨rfl, rfl⟩)
        | (go_at_call 30; (with_reducible refine (hAl _).mono ?_); rintro e w4 ⟨rfl, hb4⟩))
      go_returns
      exact ⟨rfl, (hL.nx hb4).bel⟩
  have hc : hdC l W H X Y = 0 := hdC_zero.2 ⟨h1, h2⟩
  simp only [HdR, hc] at hN
  rw [h2.1] at hIx
  rw [h2.2] at hIy
  obtain ⟨X0, X1⟩ := inH_iff.1 h2.1
  obtain ⟨Y0, Y1⟩ := inH_iff.1 h2.2
  have hW0 : WkOk (adK (cf l) 9) X Y := ⟨adOk hcf, X0, by omega, Y0, Y1⟩
  obtain rfl : n = 9 := by rw [← hl]; exact hcf.len
  have hAn := fun (x : Int) (w' : World) (hb : Below w.heap.size w w') (hp : rightH x Y 1 = true) (h0 : undR (adK (cf l) 9) x Y 1 = 0) => rat19_none l A cp x Y 1 w' hcf (hr.below hb) hb.size hp h0
  have hAs := fun (x : Int) (w' : World) (hb : Below w.heap.size w w') (hp : rightH x Y 1 = true) (h0 : undR (adK (cf l) 9) x Y 1 ≠ 0) => rat19_some l A cp x Y 1 w' hcf (hr.below hb) hb.size hp h0
  clear h1 h2 hl hok hr hc hcf h60
  generalize adK (cf l) 9 = a at *
  go_enter Try.func7, Try.ntmps7
  go_wp2_with fail
  refine hN.mono ?_
  rintro e w2 ⟨p, rfl, ⟨hRl, hRr⟩, hb2⟩
  clear hN p0 p1 p2 p3
  replace hL := hL.nx hb2
  obtain ⟨p0, p1, p2, p3⟩ := (hL.k 0 (by simp)).cell4
  simp only [List.getElem_cons_zero] at p0 p1 p2 p3
  obtain ⟨g, rfl, hg, hK⟩ := hRr (by trivial)
  clear hRl hRr
  go_wp2_with fail
  refine (hC _ hL.bel).mono ?_
  rintro e w3 ⟨rfl, hb3⟩
  replace hL := hL.nx hb3
  clear hC p0 p1 p2 p3
  obtain ⟨p0, p1, p2, p3⟩ := (hL.k 0 (by simp)).cell4
  simp only [List.getElem_cons_zero] at p0 p1 p2 p3
  replace hK := hK.nx hb3
  have hgw : w.heap.size ≤ g := by simp at hg; omega
  have hgw2 : w.heap.size ≠ g := by simp at hg; omega
  have hbl := hL.bel
  have hPk : Bk w3 w.heap.size 57 #[.int .i64 W, .int .i64 H, .int .i64 X, .int .i64 Y] := hL.k 0 (by simp)
  go_wp2_with (first
    | (go_at_call 26; (with_reducible refine (hIx _).mono ?_); rintro e w5 ⟨rfl, rfl⟩)
    | (go_at_call 26; (with_reducible refine (hIy _).mono ?_); rintro e w5 ⟨rfl, rfl⟩))
  clear p0 p1 p2 p3
  go_loopw [13, 109] (fun xv i wr => ∃ (k : Nat) (x : Int), i = .int .i64 k ∧ k ≤ m ∧ xv = .int .i64 x ∧ WkOk a x Y ∧ Bk wr g 94 (wkT a x Y) ∧ Below w.heap.size w wr ∧ Bk wr w.heap.size 57 #[.int .i64 W, .int .i64 H, .int .i64 X, .int .i64 Y]) (fun _ i _ => m - (intOf i).toNat)
  case atStart => exact ⟨0, X, rfl, by omega, rfl, hW0, hK, hbl, hPk⟩
  case round =>
    clear hK hbl hL hW0 hPk
    obtain ⟨k, x, rfl, hk, rfl, hW5, hK, hb, hP⟩ := hrel
    by_cases hlt : k < m
    · obtain ⟨b, o, rfl, hb2', hc⟩ := hr2.get k (by rw [List.length_map, HL2.out]; exact hlt)
      have hz : -9223372036854775808 ≤ l2[k]'(by rw [HL2.out]; exact hlt) ∧ l2[k]'(by rw [HL2.out]; exact hlt) ≤ 9223372036854775807 := HOK2.out _ (List.getElem_mem _)
      rw [List.getElem_map] at hc
      generalize l2[k]'(by rw [HL2.out]; exact hlt) = N at *
      have hc' := (hb.cell (p := ⟨b, o + k, none⟩) hb2').trans hc
      have hbw : b < wr.heap.size := Nat.lt_of_lt_of_le hb2' hb.size
      obtain ⟨z0, z1⟩ := hz
      have x0 := hW5.x0
      have x1 := hW5.x1
      have hq : N < 0 ∨ (0 ≤ N ∧ 4194304 < N) ∨ (0 ≤ N ∧ N ≤ 4194304 ∧ 1048577 < x + N) ∨ (0 ≤ N ∧ N ≤ 4194304 ∧ x + N ≤ 1048577) := by omega
      rcases hq with q1 | ⟨q1, q2⟩ | ⟨q1, q2, q3⟩ | ⟨q1, q2, q3⟩
      · have hSk := skip_no a g x Y N wr hK hW5 (by omega)
        go_wp2_with (first
          | (go_at_call 28; (with_reducible refine hSk.mono ?_); rintro e w5 ⟨rfl, rfl⟩))
        have hK5 := hK
        have hb5 := hb
        have hP5 := hP
        by_cases hfar : 1048576 < x
        · refine (next_far a g x Y _ hK5 hfar).mono ?_
          rintro e w6 ⟨rfl, rfl⟩
          go_wp2_with (first
            | (go_at_call 29; (with_reducible refine (x_any a g _ Y _ (by exact hK5)).mono ?_); rintro e w7 ⟨rfl, rfl⟩))
          exact ⟨⟨k + 1, x, by go_num, by omega, rfl, hW5, hK5, hb5, hP5⟩, by simp [intOf]; omega⟩
        · have hW6 : WkOk a (x + 1) Y := ⟨hW5.ad, by have := hW5.x0; omega, by omega, Y0, Y1⟩
          have hNx := next_any a g x Y _ hK5 hW5 (by omega)
          have hp : rightH x Y 1 = true := rightH_iff.2 ⟨⟨hW5.x0, by omega⟩, ⟨Y0, Y1⟩, by omega, by omega⟩
          have e1 : IntKind.i64.wrap (x + 1) = x + 1 := IntWalk.i64_in _ ⟨by have := hW5.x0; omega, by omega⟩
          by_cases h0 : undR a x Y 1 = 0
          · have E1 : atX a x Y 1 = 0 := by simp [atX, h0]
            have E2 : atY a x Y 1 = 0 := by simp [atY, h0]
            have E3 : atE a x Y 1 = 41 := by simp [atE, hp, h0]
            rw [E1, E2, E3] at hNx
            have hA2 := fun (w' : World) (hb : Below w.heap.size w w') => hAn x w' hb hp h0
            clear E1 E2 E3 hp h0 hAn hAs
            refine hNx.mono ?_
            rintro e w6 ⟨rfl, hK6, hg6⟩
            have hb6 := below_of_gb hb5 hg6 hgw hb5.size
            have hP6 := hP5.grown hg6 (by intro e; injection e with e; exact hgw2 e)
            obtain ⟨_, _, _, p3⟩ := hP6.cell4
            go_wp2_with (first
              | (go_at_call 21; (with_reducible refine (hA2 _ (by exact hb6)).mono ?_); rintro e w7 ⟨rfl, hb7⟩; have hK7 := hK6.nx hb7; have hP7 := hP6.nx hb7; have hb8 := hb6.trans (hb7.mono hb6.size))
              | (go_at_call 29; (with_reducible refine (x_any a g _ Y _ (by exact hK7)).mono ?_); rintro e w8 ⟨rfl, rfl⟩))
            exact ⟨⟨k + 1, x + 1, by go_num, by omega, rfl, hW6, hK7, hb8, hP7⟩, by simp [intOf]; omega⟩
          · have E3 : atE a x Y 1 = 0 := by simp [atE, hp, h0]
            rw [E3] at hNx
            have hA2 := fun (w' : World) (hb : Below w.heap.size w w') => hAs x w' hb hp h0
            clear E3 hp h0 hAn hAs
            generalize atX a x Y 1 = v1 at *
            generalize atY a x Y 1 = v2 at *
            refine hNx.mono ?_
            rintro e w6 ⟨rfl, hK6, hg6⟩
            have hb6 := below_of_gb hb5 hg6 hgw hb5.size
            have hP6 := hP5.grown hg6 (by intro e; injection e with e; exact hgw2 e)
            obtain ⟨_, _, _, p3⟩ := hP6.cell4
            go_wp2_with (first
              | (go_at_call 21; (with_reducible refine (hA2 _ (by exact hb6)).mono ?_); rintro e w7 ⟨rfl, hb7⟩; have hK7 := hK6.nx hb7; have hP7 := hP6.nx hb7; have hb8 := hb6.trans (hb7.mono hb6.size))
              | (go_at_call 29; (with_reducible refine (x_any a g _ Y _ (by exact hK7)).mono ?_); rintro e w8 ⟨rfl, rfl⟩))
            exact ⟨⟨k + 1, x + 1, by go_num, by omega, rfl, hW6, hK7, hb8, hP7⟩, by simp [intOf]; omega⟩
      · have hSk := skip_no a g x Y N wr hK hW5 (by omega)
        go_wp2_with (first
          | (go_at_call 28; (with_reducible refine hSk.mono ?_); rintro e w5 ⟨rfl, rfl⟩))
        have hK5 := hK
        have hb5 := hb
        have hP5 := hP
        by_cases hfar : 1048576 < x
        · refine (next_far a g x Y _ hK5 hfar).mono ?_
          rintro e w6 ⟨rfl, rfl⟩
          go_wp2_with (first
            | (go_at_call 29; (with_reducible refine (x_any a g _ Y _ (by exact hK5)).mono ?_); rintro e w7 ⟨rfl, rfl⟩))
          exact ⟨⟨k + 1, x, by go_num, by omega, rfl, hW5, hK5, hb5, hP5⟩, by simp [intOf]; omega⟩
        · have hW6 : WkOk a (x + 1) Y := ⟨hW5.ad, by have := hW5.x0; omega, by omega, Y0, Y1⟩
          have hNx := next_any a g x Y _ hK5 hW5 (by omega)
          have hp : rightH x Y 1 = true := rightH_iff.2 ⟨⟨hW5.x0, by omega⟩, ⟨Y0, Y1⟩, by omega, by omega⟩
          have e1 : IntKind.i64.wrap (x + 1) = x + 1 := IntWalk.i64_in _ ⟨by have := hW5.x0; omega, by omega⟩
          by_cases h0 : undR a x Y 1 = 0
          · have E1 : atX a x Y 1 = 0 := by simp [atX, h0]
            have E2 : atY a x Y 1 = 0 := by simp [atY, h0]
            have E3 : atE a x Y 1 = 41 := by simp [atE, hp, h0]
            rw [E1, E2, E3] at hNx
            have hA2 := fun (w' : World) (hb : Below w.heap.size w w') => hAn x w' hb hp h0
            clear E1 E2 E3 hp h0 hAn hAs
            refine hNx.mono ?_
            rintro e w6 ⟨rfl, hK6, hg6⟩
            have hb6 := below_of_gb hb5 hg6 hgw hb5.size
            have hP6 := hP5.grown hg6 (by intro e; injection e with e; exact hgw2 e)
            obtain ⟨_, _, _, p3⟩ := hP6.cell4
            go_wp2_with (first
              | (go_at_call 21; (with_reducible refine (hA2 _ (by exact hb6)).mono ?_); rintro e w7 ⟨rfl, hb7⟩; have hK7 := hK6.nx hb7; have hP7 := hP6.nx hb7; have hb8 := hb6.trans (hb7.mono hb6.size))
              | (go_at_call 29; (with_reducible refine (x_any a g _ Y _ (by exact hK7)).mono ?_); rintro e w8 ⟨rfl, rfl⟩))
            exact ⟨⟨k + 1, x + 1, by go_num, by omega, rfl, hW6, hK7, hb8, hP7⟩, by simp [intOf]; omega⟩
          · have E3 : atE a x Y 1 = 0 := by simp [atE, hp, h0]
            rw [E3] at hNx
            have hA2 := fun (w' : World) (hb : Below w.heap.size w w') => hAs x w' hb hp h0
            clear E3 hp h0 hAn hAs
            generalize atX a x Y 1 = v1 at *
            generalize atY a x Y 1 = v2 at *
            refine hNx.mono ?_
            rintro e w6 ⟨rfl, hK6, hg6⟩
            have hb6 := below_of_gb hb5 hg6 hgw hb5.size
            have hP6 := hP5.grown hg6 (by intro e; injection e with e; exact hgw2 e)
            obtain ⟨_, _, _, p3⟩ := hP6.cell4
            go_wp2_with (first
              | (go_at_call 21; (with_reducible refine (hA2 _ (by exact hb6)).mono ?_); rintro e w7 ⟨rfl, hb7⟩; have hK7 := hK6.nx hb7; have hP7 := hP6.nx hb7; have hb8 := hb6.trans (hb7.mono hb6.size))
              | (go_at_call 29; (with_reducible refine (x_any a g _ Y _ (by exact hK7)).mono ?_); rintro e w8 ⟨rfl, rfl⟩))
            exact ⟨⟨k + 1, x + 1, by go_num, by omega, rfl, hW6, hK7, hb8, hP7⟩, by simp [intOf]; omega⟩
      · have hSk := skip_no a g x Y N wr hK hW5 (by omega)
        have ew : IntKind.i64.wrap (x + N) = x + N := IntWalk.i64_in _ ⟨by omega, by omega⟩
        go_wp2_with (first
          | (go_at_call 28; (with_reducible refine hSk.mono ?_); rintro e w5 ⟨rfl, rfl⟩))
        have hK5 := hK
        have hb5 := hb
        have hP5 := hP
        by_cases hfar : 1048576 < x
        · refine (next_far a g x Y _ hK5 hfar).mono ?_
          rintro e w6 ⟨rfl, rfl⟩
          go_wp2_with (first
            | (go_at_call 29; (with_reducible refine (x_any a g _ Y _ (by exact hK5)).mono ?_); rintro e w7 ⟨rfl, rfl⟩))
          exact ⟨⟨k + 1, x, by go_num, by omega, rfl, hW5, hK5, hb5, hP5⟩, by simp [intOf]; omega⟩
        · have hW6 : WkOk a (x + 1) Y := ⟨hW5.ad, by have := hW5.x0; omega, by omega, Y0, Y1⟩
          have hNx := next_any a g x Y _ hK5 hW5 (by omega)
          have hp : rightH x Y 1 = true := rightH_iff.2 ⟨⟨hW5.x0, by omega⟩, ⟨Y0, Y1⟩, by omega, by omega⟩
          have e1 : IntKind.i64.wrap (x + 1) = x + 1 := IntWalk.i64_in _ ⟨by have := hW5.x0; omega, by omega⟩
          by_cases h0 : undR a x Y 1 = 0
          · have E1 : atX a x Y 1 = 0 := by simp [atX, h0]
            have E2 : atY a x Y 1 = 0 := by simp [atY, h0]
            have E3 : atE a x Y 1 = 41 := by simp [atE, hp, h0]
            rw [E1, E2, E3] at hNx
            have hA2 := fun (w' : World) (hb : Below w.heap.size w w') => hAn x w' hb hp h0
            clear E1 E2 E3 hp h0 hAn hAs
            refine hNx.mono ?_
            rintro e w6 ⟨rfl, hK6, hg6⟩
            have hb6 := below_of_gb hb5 hg6 hgw hb5.size
            have hP6 := hP5.grown hg6 (by intro e; injection e with e; exact hgw2 e)
            obtain ⟨_, _, _, p3⟩ := hP6.cell4
            go_wp2_with (first
              | (go_at_call 21; (with_reducible refine (hA2 _ (by exact hb6)).mono ?_); rintro e w7 ⟨rfl, hb7⟩; have hK7 := hK6.nx hb7; have hP7 := hP6.nx hb7; have hb8 := hb6.trans (hb7.mono hb6.size))
              | (go_at_call 29; (with_reducible refine (x_any a g _ Y _ (by exact hK7)).mono ?_); rintro e w8 ⟨rfl, rfl⟩))
            exact ⟨⟨k + 1, x + 1, by go_num, by omega, rfl, hW6, hK7, hb8, hP7⟩, by simp [intOf]; omega⟩
          · have E3 : atE a x Y 1 = 0 := by simp [atE, hp, h0]
            rw [E3] at hNx
            have hA2 := fun (w' : World) (hb : Below w.heap.size w w') => hAs x w' hb hp h0
            clear E3 hp h0 hAn hAs
            generalize atX a x Y 1 = v1 at *
            generalize atY a x Y 1 = v2 at *
            refine hNx.mono ?_
            rintro e w6 ⟨rfl, hK6, hg6⟩
            have hb6 := below_of_gb hb5 hg6 hgw hb5.size
            have hP6 := hP5.grown hg6 (by intro e; injection e with e; exact hgw2 e)
            obtain ⟨_, _, _, p3⟩ := hP6.cell4
            go_wp2_with (first
              | (go_at_call 21; (with_reducible refine (hA2 _ (by exact hb6)).mono ?_); rintro e w7 ⟨rfl, hb7⟩; have hK7 := hK6.nx hb7; have hP7 := hP6.nx hb7; have hb8 := hb6.trans (hb7.mono hb6.size))
              | (go_at_call 29; (with_reducible refine (x_any a g _ Y _ (by exact hK7)).mono ?_); rintro e w8 ⟨rfl, rfl⟩))
            exact ⟨⟨k + 1, x + 1, by go_num, by omega, rfl, hW6, hK7, hb8, hP7⟩, by simp [intOf]; omega⟩
      · have hSk := skip_yes a g x Y N wr hK hW5 q1 q3
        have ew : IntKind.i64.wrap (x + N) = x + N := IntWalk.i64_in _ ⟨by omega, by omega⟩
        have hW5' : WkOk a (x + N) Y := ⟨hW5.ad, by omega, q3, Y0, Y1⟩
        have y0 : -1048576 ≤ x + N := by omega
        go_wp2_with (first
          | (go_at_call 28; (with_reducible refine hSk.mono ?_); rintro e w5 ⟨rfl, hK5, hg5⟩))
        have hb5 := below_of_gb hb hg5 hgw hb.size
        have hP5 := hP.grown hg5 (by intro e; injection e with e; exact hgw2 e)
        clear hW5
        have hW5 := hW5'
        by_cases hfar : 1048576 < (x + N)
        · refine (next_far a g (x + N) Y _ hK5 hfar).mono ?_
          rintro e w6 ⟨rfl, rfl⟩
          go_wp2_with (first
            | (go_at_call 29; (with_reducible refine (x_any a g _ Y _ (by exact hK5)).mono ?_); rintro e w7 ⟨rfl, rfl⟩))
          exact ⟨⟨k + 1, (x + N), by go_num, by omega, rfl, hW5, hK5, hb5, hP5⟩, by simp [intOf]; omega⟩
        · have hW6 : WkOk a ((x + N) + 1) Y := ⟨hW5.ad, by have := hW5.x0; omega, by omega, Y0, Y1⟩
          have hNx := next_any a g (x + N) Y _ hK5 hW5 (by omega)
          have hp : rightH (x + N) Y 1 = true := rightH_iff.2 ⟨⟨hW5.x0, by omega⟩, ⟨Y0, Y1⟩, by omega, by omega⟩
          have e1 : IntKind.i64.wrap ((x + N) + 1) = (x + N) + 1 := IntWalk.i64_in _ ⟨by have := hW5.x0; omega, by omega⟩
          by_cases h0 : undR a (x + N) Y 1 = 0
          · have E1 : atX a (x + N) Y 1 = 0 := by simp [atX, h0]
            have E2 : atY a (x + N) Y 1 = 0 := by simp [atY, h0]
            have E3 : atE a (x + N) Y 1 = 41 := by simp [atE, hp, h0]
            rw [E1, E2, E3] at hNx
            have hA2 := fun (w' : World) (hb : Below w.heap.size w w') => hAn (x + N) w' hb hp h0
            clear E1 E2 E3 hp h0 hAn hAs
            refine hNx.mono ?_
            rintro e w6 ⟨rfl, hK6, hg6⟩
            have hb6 := below_of_gb hb5 hg6 hgw hb5.size
            have hP6 := hP5.grown hg6 (by intro e; injection e with e; exact hgw2 e)
            obtain ⟨_, _, _, p3⟩ := hP6.cell4
            go_wp2_with (first
              | (go_at_call 21; (with_reducible refine (hA2 _ (by exact hb6)).mono ?_); rintro e w7 ⟨rfl, hb7⟩; have hK7 := hK6.nx hb7; have hP7 := hP6.nx hb7; have hb8 := hb6.trans (hb7.mono hb6.size))
              | (go_at_call 29; (with_reducible refine (x_any a g _ Y _ (by exact hK7)).mono ?_); rintro e w8 ⟨rfl, rfl⟩))
            exact ⟨⟨k + 1, (x + N) + 1, by go_num, by omega, rfl, hW6, hK7, hb8, hP7⟩, by simp [intOf]; omega⟩
          · have E3 : atE a (x + N) Y 1 = 0 := by simp [atE, hp, h0]
            rw [E3] at hNx
            have hA2 := fun (w' : World) (hb : Below w.heap.size w w') => hAs (x + N) w' hb hp h0
            clear E3 hp h0 hAn hAs
            generalize atX a (x + N) Y 1 = v1 at *
            generalize atY a (x + N) Y 1 = v2 at *
            refine hNx.mono ?_
            rintro e w6 ⟨rfl, hK6, hg6⟩
            have hb6 := below_of_gb hb5 hg6 hgw hb5.size
            have hP6 := hP5.grown hg6 (by intro e; injection e with e; exact hgw2 e)
            obtain ⟨_, _, _, p3⟩ := hP6.cell4
            go_wp2_with (first
              | (go_at_call 21; (with_reducible refine (hA2 _ (by exact hb6)).mono ?_); rintro e w7 ⟨rfl, hb7⟩; have hK7 := hK6.nx hb7; have hP7 := hP6.nx hb7; have hb8 := hb6.trans (hb7.mono hb6.size))
              | (go_at_call 29; (with_reducible refine (x_any a g _ Y _ (by exact hK7)).mono ?_); rintro e w8 ⟨rfl, rfl⟩))
            exact ⟨⟨k + 1, (x + N) + 1, by go_num, by omega, rfl, hW6, hK7, hb8, hP7⟩, by simp [intOf]; omega⟩
    · go_wp2_with (first
        | (go_at_call 30; (with_reducible refine (hAl _).mono ?_); rintro e w4 ⟨rfl, hb4⟩))
      go_returns
      exact ⟨rfl, hb.trans (hb4.mono hb.size)⟩
theorem lawHddaWalks (A : Option Addr) (n cp : Nat) (cs1 : Array Value) (A2 : Option Addr) (m cp2 : Nat) (w : World) (h0 : Rv Try.prog w 22 [.slice A n cp]) (h1 : Rv Try.prog w 57 cs1.toList) (h2 : Rv Try.prog w 22 [.slice A2 m cp2]) :
    Calls Try.prog 7 #[.slice A n cp, .agg cs1, .slice A2 m cp2] w fun e w' => e = .returned (.bool true) ∧ Below w.heap.size w w' := by
  obtain ⟨l, hl, hn, _, hok, hr⟩ := open_nums h0
  obtain ⟨W, H, X, Y, e2, hW, hH, _, _⟩ := open_p35 h1
  obtain ⟨l2, hl2, hn2, _, hok2, hr2⟩ := open_nums h2
  obtain ⟨lc⟩ := cs1
  simp only at e2
  subst e2
  exact walkHddaWalks l l2 A A2 n cp m cp2 W H X Y w hl hn hr hok hW hH hl2 hn2 hr2 hok2
end Go.Proofs.Ytebcienjeponmaa
