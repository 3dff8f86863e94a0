/- The law HomogChecks. -/
import Derived.Test.YtebcienjeponmaaHq1
import Derived.Test.YtebcienjeponmaaHd1
import Derived.DeepKeys
set_option linter.unusedVariables false
namespace Go.Proofs.Ytebcienjeponmaa
open Go.RowKit
set_option maxRecDepth 100000 in
set_option maxHeartbeats 4000000 in
theorem lines_nil (w : World) : Calls Try.prog 12 #[.pointer none] w fun e w' => e = .returned (.tuple #[.agg (a3 0 0 0), .agg (a3 0 0 0), .agg (a3 0 0 0)]) ∧ Below w.heap.size w w' := by
  have hL := (((Lie.start w).alloc (a3 0 0 0) 31).alloc (a3 0 0 0) 31).alloc (a3 0 0 0) 31
  simp only [World.size_alloc] at hL
  have k0 := hL.k 2 (by simp)
  have k1 := hL.k 1 (by simp)
  have k2 := hL.k 0 (by simp)
  have hb := hL.bel
  simp only [List.getElem_cons_zero, List.getElem_cons_succ] at k0 k1 k2
  clear hL
  go_enter Try.func12, Try.ntmps12
  go_wp2_with fail
  refine bodyPost_ret (res_cell3 rfl k0 k1 k2 rfl rfl rfl Try.underlying31 rfl a3_info) rfl ?_
  exact ⟨rfl, hb⟩
theorem eq3_run (w : World) : (binOp .eql 31 (.agg #[.int .i64 0, .int .i64 0, .int .i64 0]) (.agg #[.int .i64 0, .int .i64 0, .int .i64 0])).run Try.prog w = .ok (.bool true) w := by
  have hs : (keyOf Try.prog 31 (.agg #[.int .i64 0, .int .i64 0, .int .i64 0])).isSome = true := by kernel_rfl
  obtain ⟨lx, hx⟩ := Option.isSome_iff_exists.1 hs
  obtain ⟨r, hr, hiff⟩ := run_equal_deep w (m := 3) (by decide) (k := 31) (by kernel_rfl) (by rw [Try.underlying31]) hx hx
  have hr2 : r = true := hiff.2 rfl
  subst hr2
  simp only [binOp]
  simp [hr]
theorem CfOk.en {l : List Int} (h : CfOk l) (k : Nat) : En (l.getD k 0) := by
  have h9 := Bp_mono (show 5 ≤ 9 by omega)
  have h5 := Bp5
  refine getD_all (P := En) (fun z hz => ?_) en_zero k
  have := h.b62 z hz
  show (z.natAbs : Int) < Bp 9
  omega
theorem az_all (l : List Int) (k : Nat) (hk : k < 9) : (adjZ l).getD k 0 = adK (cf l) 9 k := by
  have : k = 0 ∨ k = 1 ∨ k = 2 ∨ k = 3 ∨ k = 4 ∨ k = 5 ∨ k = 6 ∨ k = 7 ∨ k = 8 := by omega
  rcases this with rfl | rfl | rfl | rfl | rfl | rfl | rfl | rfl | rfl
  · exact az_0 l
  · exact az_1 l
  · exact az_2 l
  · exact az_3 l
  · exact az_4 l
  · exact az_5 l
  · exact az_6 l
  · exact az_7 l
  · exact az_8 l
theorem AdOk.i64 {a : Nat → Int} (h : AdOk a) (k : Nat) (hk : k < 9) : -9223372036854775808 ≤ a k ∧ a k ≤ 9223372036854775807 := by
  have : k = 0 ∨ k = 1 ∨ k = 2 ∨ k = 3 ∨ k = 4 ∨ k = 5 ∨ k = 6 ∨ k = 7 ∨ k = 8 := by omega
  obtain ⟨⟨a0, a1, a2, a3, a4, a5⟩, ⟨b0, b1, b2, b3, b4, b5⟩, ⟨c0, c1, c2, c3, c4, c5⟩, _, _, _⟩ := h
  rcases this with rfl | rfl | rfl | rfl | rfl | rfl | rfl | rfl | rfl <;> omega
set_option maxRecDepth 100000 in
set_option maxHeartbeats 16000000 in
theorem walkHomogChecks (l : List Int) (A : Option Addr) (n cp : Nat) (W H X Y D : Int) (w : World) (hl : l.length = n) (hcp : n ≤ cp) (hr : Rd w w.heap.size A (l.map (Value.int .i64))) (hok : ∀ z ∈ l, -9223372036854775808 ≤ z ∧ z ≤ 9223372036854775807) (hW : I64 W) (hH : I64 H) (bx : I64 X) (by' : I64 Y) (bd : I64 D) :
    Calls Try.prog 3 #[.slice A n cp, .agg #[.int .i64 W, .int .i64 H], .agg #[.int .i64 X, .int .i64 Y, .int .i64 D]] w fun e w' => e = .returned (.bool true) ∧ Below w.heap.size w w' := by
  have hL0 : Lie w [(w.heap.size, 23, #[.int .i64 W, .int .i64 H])] _ := (Lie.start w).alloc _ _
  have hL := hL0.alloc #[.int .i64 X, .int .i64 Y, .int .i64 D] 25
  simp only [World.size_alloc] at hL
  clear hL0
  have hAl := fun w' => alive19 w'
  by_cases h60 : 60 < n
  · clear hl
    go_enter Try.func3, Try.ntmps3
    go_wp2_with fail
    go_returns
    exact ⟨rfl, hL.bel⟩
  have hN := new_any l A n cp W H _ hl (hL.rd hr (Nat.le_refl _)) hL.sz hcp
  have hC := fun (w' : World) (hb : Below w.heap.size w w') => rcheck_any l A n cp W H w' hl (hr.below hb) hb.size hok hW hH
  have hC2 := fun (w' : World) (hb : Below w.heap.size w w') => hcheck_any l A n cp W H w' hl (hr.below hb) hb.size hcp
  obtain ⟨p0, p1, p2⟩ := (hL.k 0 (by simp)).cell3
  obtain ⟨s0, s1⟩ := (hL.k 1 (by simp)).cell2
  simp only [List.getElem_cons_zero, List.getElem_cons_succ] at p0 p1 p2 s0 s1
  by_cases hz : newC l W H = 0
  · have hcf := (newC_zero.1 hz).ok
    obtain rfl : n = 9 := by rw [← hl]; exact hcf.len
    have hAd := adOk hcf
    have hHEN := Lib.hid hcf.en
    have hLn := fun (g : Nat) (w' : World) (hk : Bk w' g 74 (mA (adK (cf l) 9))) => lines_any (adK (cf l) 9) g w' hk
    have hUn := fun (g : Nat) (w' : World) (hk : Bk w' g 74 (mA (adK (cf l) 9))) => under_any (adK (cf l) 9) g X Y D w' hk hAd
    have hRt := fun w' => rright_h X Y D w'
    rw [hz] at hN hC hC2
    simp only [NwR, hz] at hN
    have HLL := Lib.hid hl
    have HOK := Lib.hid hok
    have HUR := Lib.hid (fun h : rightH X Y D = true => und_R l h)
    have HAZ := Lib.hid (fun (k : Nat) (hk : k < 9) => az_all l k hk)
    have HEA := Lib.hid (adj_ea hcf.en)
    clear hz hl h60 hok hcf
    generalize adK (cf l) 9 = a at *
    go_enter Try.func3, Try.ntmps3
    go_wp2_with fail
    refine hN.mono ?_
    rintro e w2 ⟨p, rfl, ⟨_, hR⟩, hb2⟩
    obtain ⟨g, rfl, hg, hK⟩ := hR (by trivial)
    clear hR hN s0 s1 p0 p1 p2
    replace hL := hL.nx hb2
    obtain ⟨s0, s1⟩ := (hL.k 1 (by simp)).cell2
    simp only [List.getElem_cons_zero, List.getElem_cons_succ] at s0 s1
    go_wp2_with fail
    refine (hC _ hL.bel).mono ?_
    rintro e w3 ⟨rfl, hb3⟩
    replace hL := hL.nx hb3
    replace hK := hK.nx hb3
    clear hC s0 s1
    obtain ⟨s0, s1⟩ := (hL.k 1 (by simp)).cell2
    simp only [List.getElem_cons_zero, List.getElem_cons_succ] at s0 s1
    have hbl := hL.bel
    go_wp2_with (first
      | (go_at_call 11; (with_reducible refine (hC2 _ (by exact hbl)).mono ?_); rintro e w4 ⟨rfl, hb4⟩; have hL4 := hL.nx hb4; have hK4 := hK.nx hb4))
    refine (hLn _ _ hK4).mono ?_
    rintro e w5 ⟨rfl, hb5⟩
    clear hL hK hC2 s0 s1 hbl
    have hL := (((hL4.nx hb5).alloc (a3 (a 0) (a 1) (a 2)) 31).alloc (a3 (a 3) (a 4) (a 5)) 31).alloc (a3 (a 6) (a 7) (a 8)) 31
    have hK := (((hK4.nx hb5).alloc (.cells (a3 (a 0) (a 1) (a 2)) 31)).alloc (.cells (a3 (a 3) (a 4) (a 5)) 31)).alloc (.cells (a3 (a 6) (a 7) (a 8)) 31)
    simp only [World.size_alloc] at hL
    clear hL4 hK4
    obtain ⟨p0, p1, p2⟩ := (hL.k 3 (by simp)).cell3
    simp only [List.getElem_cons_zero, List.getElem_cons_succ] at p0 p1 p2
    go_wp2_with fail
    refine (hUn _ _ hK).mono ?_
    rintro e w6 ⟨rfl, hb6⟩
    clear p0 p1 p2 hK hUn hLn
    replace hL := hL.nx hb6
    go_wp2_with fail
    refine (bigs_of A 9 cp l _ HLL.out (by omega) (hL.rd hr (Nat.le_refl _)) hL.sz HOK.out).mono ?_
    rintro e w7 ⟨v1, rfl, hB1, hb7⟩
    replace hL := hL.nx hb7
    go_wp2_with fail
    refine (adj_any v1 l _ hB1 HLL.out hHEN.out).mono ?_
    rintro e w8 ⟨v8, rfl, hBg, hb8⟩
    replace hL := hL.nx hb8
    have HALn := Lib.hid (show (adjZ l).length = 9 from adjP_len l 9)
    obtain ⟨A2, c2, rfl, hc2, _⟩ := hBg.form
    rw [HALn.out]
    rw [HALn.out] at hBg hc2
    clear hB1 hb7 hb8
    go_wp2_with fail
    go_loopw [15] (fun i wr => ∃ k : Nat, k ≤ 3 ∧ i = .int .i64 k ∧ Lie w [(w5.heap.size + 1 + 1, 31, a3 (a 6) (a 7) (a 8)), (w5.heap.size + 1, 31, a3 (a 3) (a 4) (a 5)), (w5.heap.size, 31, a3 (a 0) (a 1) (a 2)), (w.heap.size + 1, 25, #[.int .i64 X, .int .i64 Y, .int .i64 D]), (w.heap.size, 23, #[.int .i64 W, .int .i64 H])] wr ∧ Bigs w7.heap.size wr (.slice A2 9 c2) (adjZ l)) (fun i _ => 3 - (intOf i).toNat)
    case atStart => exact ⟨0, by omega, rfl, hL, hBg⟩
    case round =>
      clear hL hBg
      obtain ⟨k, hk, rfl, hL, hBg⟩ := hrel
      have h3 : k = 0 ∨ k = 1 ∨ k = 2 ∨ k = 3 := by omega
      rcases h3 with rfl | rfl | rfl | rfl
      · obtain ⟨b, o, t1, A1, n1, c1, rfl, hb1, hb2', d0, d1, hN1⟩ := hBg.get 0 (by rw [HALn.out]; decide)
        obtain ⟨b', o', t3, A3, n3, c3, e, _, _, d2, d3, hN3⟩ := hBg.get 3 (by rw [HALn.out]; decide)
        injection e with e
        injection e with e1 e2
        subst e1 e2
        obtain ⟨b', o', t6, A6, n6, c6, e, _, _, d4, d5, hN6⟩ := hBg.get 6 (by rw [HALn.out]; decide)
        injection e with e
        injection e with e1 e2
        subst e1 e2
        rw [HAZ.out 0 (by decide)] at hN1
        rw [HAZ.out 3 (by decide)] at hN3
        rw [HAZ.out 6 (by decide)] at hN6
        simp only [Nat.zero_mul, Nat.add_zero, Nat.reduceMul] at d0 d1 d2 d3 d4 d5
        have i1 := hAd.i64 0 (by decide)
        have i3 := hAd.i64 3 (by decide)
        have i6 := hAd.i64 6 (by decide)
        have hS1 := fun (d : Nat) (os : Array Obj) => small_any _ (a 0) (Go.Sort.grow (redrawn wr d) os) (hN1.nx (below_regrown wr d os)) i1.1 i1.2
        have hS3 := fun (d : Nat) (os : Array Obj) => small_any _ (a 3) (Go.Sort.grow (redrawn wr d) os) (hN3.nx (below_regrown wr d os)) i3.1 i3.2
        have hS6 := fun (d : Nat) (os : Array Obj) => small_any _ (a 6) (Go.Sort.grow (redrawn wr d) os) (hN6.nx (below_regrown wr d os)) i6.1 i6.2
        have r0 := fun (d : Nat) (os : Array Obj) => cell_regrown d0 d os
        have r1 := fun (d : Nat) (os : Array Obj) => cell_regrown d1 d os
        have r2 := fun (d : Nat) (os : Array Obj) => cell_regrown d2 d os
        have r3 := fun (d : Nat) (os : Array Obj) => cell_regrown d3 d os
        have r4 := fun (d : Nat) (os : Array Obj) => cell_regrown d4 d os
        have r5 := fun (d : Nat) (os : Array Obj) => cell_regrown d5 d os
        obtain ⟨x0, x1, x2⟩ := (hL.k 2 (by simp)).cell3
        obtain ⟨y0, y1, y2⟩ := (hL.k 1 (by simp)).cell3
        obtain ⟨z0, z1, z2⟩ := (hL.k 0 (by simp)).cell3
        have rx := fun (d : Nat) (os : Array Obj) => cell_regrown x0 d os
        have ry := fun (d : Nat) (os : Array Obj) => cell_regrown y0 d os
        have rz := fun (d : Nat) (os : Array Obj) => cell_regrown z0 d os
        simp only [List.getElem_cons_zero, List.getElem_cons_succ] at rx ry rz
        clear i1 i3 i6 hN1 hN3 hN6 d0 d1 d2 d3 d4 d5 x0 x1 x2 y0 y1 y2 z0 z1 z2
        generalize a 0 = v1 at *
        generalize a 3 = v3 at *
        generalize a 6 = v6 at *
        go_upto_region 15 with fail
        refine wp_region_quiet_below (by kernel_rfl) (by kernel_rfl) ?_
        repeat (first | go_big_quiet_step ((first | with_reducible exact quiet_below (hS1 _ _) | with_reducible exact quiet_below (hS3 _ _) | with_reducible exact quiet_below (hS6 _ _))) | quiet_step ((first | with_reducible exact quiet_below (hS1 _ _) | with_reducible exact quiet_below (hS3 _ _) | with_reducible exact quiet_below (hS6 _ _))))
        refine wpQuiet_nil ?_
        intro _ hw'
        obtain ⟨⟨d9, os⟩, hw''⟩ := hw'
        subst hw''
        have hbx := below_regrown wr d9 os
        clear hS1 hS3 hS6 r0 r1 r2 r3 r4 r5 rx ry rz
        generalize Go.Sort.grow (redrawn wr d9) os = wx at *
        go_wp2_with fail
        exact ⟨⟨1, by omega, rfl, hL.nx hbx, hBg.nx hbx⟩, by simp [intOf]⟩
      · obtain ⟨b, o, t1, A1, n1, c1, rfl, hb1, hb2', d0, d1, hN1⟩ := hBg.get 1 (by rw [HALn.out]; decide)
        obtain ⟨b', o', t3, A3, n3, c3, e, _, _, d2, d3, hN3⟩ := hBg.get 4 (by rw [HALn.out]; decide)
        injection e with e
        injection e with e1 e2
        subst e1 e2
        obtain ⟨b', o', t6, A6, n6, c6, e, _, _, d4, d5, hN6⟩ := hBg.get 7 (by rw [HALn.out]; decide)
        injection e with e
        injection e with e1 e2
        subst e1 e2
        rw [HAZ.out 1 (by decide)] at hN1
        rw [HAZ.out 4 (by decide)] at hN3
        rw [HAZ.out 7 (by decide)] at hN6
        simp only [Nat.reduceMul] at d0 d1 d2 d3 d4 d5
        have i1 := hAd.i64 1 (by decide)
        have i3 := hAd.i64 4 (by decide)
        have i6 := hAd.i64 7 (by decide)
        have hS1 := fun (d : Nat) (os : Array Obj) => small_any _ (a 1) (Go.Sort.grow (redrawn wr d) os) (hN1.nx (below_regrown wr d os)) i1.1 i1.2
        have hS3 := fun (d : Nat) (os : Array Obj) => small_any _ (a 4) (Go.Sort.grow (redrawn wr d) os) (hN3.nx (below_regrown wr d os)) i3.1 i3.2
        have hS6 := fun (d : Nat) (os : Array Obj) => small_any _ (a 7) (Go.Sort.grow (redrawn wr d) os) (hN6.nx (below_regrown wr d os)) i6.1 i6.2
        have r0 := fun (d : Nat) (os : Array Obj) => cell_regrown d0 d os
        have r1 := fun (d : Nat) (os : Array Obj) => cell_regrown d1 d os
        have r2 := fun (d : Nat) (os : Array Obj) => cell_regrown d2 d os
        have r3 := fun (d : Nat) (os : Array Obj) => cell_regrown d3 d os
        have r4 := fun (d : Nat) (os : Array Obj) => cell_regrown d4 d os
        have r5 := fun (d : Nat) (os : Array Obj) => cell_regrown d5 d os
        obtain ⟨x0, x1, x2⟩ := (hL.k 2 (by simp)).cell3
        obtain ⟨y0, y1, y2⟩ := (hL.k 1 (by simp)).cell3
        obtain ⟨z0, z1, z2⟩ := (hL.k 0 (by simp)).cell3
        have rx := fun (d : Nat) (os : Array Obj) => cell_regrown x1 d os
        have ry := fun (d : Nat) (os : Array Obj) => cell_regrown y1 d os
        have rz := fun (d : Nat) (os : Array Obj) => cell_regrown z1 d os
        simp only [List.getElem_cons_zero, List.getElem_cons_succ] at rx ry rz
        clear i1 i3 i6 hN1 hN3 hN6 d0 d1 d2 d3 d4 d5 x0 x1 x2 y0 y1 y2 z0 z1 z2
        generalize a 1 = v1 at *
        generalize a 4 = v3 at *
        generalize a 7 = v6 at *
        go_upto_region 15 with fail
        refine wp_region_quiet_below (by kernel_rfl) (by kernel_rfl) ?_
        repeat (first | go_big_quiet_step ((first | with_reducible exact quiet_below (hS1 _ _) | with_reducible exact quiet_below (hS3 _ _) | with_reducible exact quiet_below (hS6 _ _))) | quiet_step ((first | with_reducible exact quiet_below (hS1 _ _) | with_reducible exact quiet_below (hS3 _ _) | with_reducible exact quiet_below (hS6 _ _))))
        refine wpQuiet_nil ?_
        intro _ hw'
        obtain ⟨⟨d9, os⟩, hw''⟩ := hw'
        subst hw''
        have hbx := below_regrown wr d9 os
        clear hS1 hS3 hS6 r0 r1 r2 r3 r4 r5 rx ry rz
        generalize Go.Sort.grow (redrawn wr d9) os = wx at *
        go_wp2_with fail
        exact ⟨⟨2, by omega, rfl, hL.nx hbx, hBg.nx hbx⟩, by simp [intOf]⟩
      · obtain ⟨b, o, t1, A1, n1, c1, rfl, hb1, hb2', d0, d1, hN1⟩ := hBg.get 2 (by rw [HALn.out]; decide)
        obtain ⟨b', o', t3, A3, n3, c3, e, _, _, d2, d3, hN3⟩ := hBg.get 5 (by rw [HALn.out]; decide)
        injection e with e
        injection e with e1 e2
        subst e1 e2
        obtain ⟨b', o', t6, A6, n6, c6, e, _, _, d4, d5, hN6⟩ := hBg.get 8 (by rw [HALn.out]; decide)
        injection e with e
        injection e with e1 e2
        subst e1 e2
        rw [HAZ.out 2 (by decide)] at hN1
        rw [HAZ.out 5 (by decide)] at hN3
        rw [HAZ.out 8 (by decide)] at hN6
        simp only [Nat.reduceMul] at d0 d1 d2 d3 d4 d5
        have i1 := hAd.i64 2 (by decide)
        have i3 := hAd.i64 5 (by decide)
        have i6 := hAd.i64 8 (by decide)
        have hS1 := fun (d : Nat) (os : Array Obj) => small_any _ (a 2) (Go.Sort.grow (redrawn wr d) os) (hN1.nx (below_regrown wr d os)) i1.1 i1.2
        have hS3 := fun (d : Nat) (os : Array Obj) => small_any _ (a 5) (Go.Sort.grow (redrawn wr d) os) (hN3.nx (below_regrown wr d os)) i3.1 i3.2
        have hS6 := fun (d : Nat) (os : Array Obj) => small_any _ (a 8) (Go.Sort.grow (redrawn wr d) os) (hN6.nx (below_regrown wr d os)) i6.1 i6.2
        have r0 := fun (d : Nat) (os : Array Obj) => cell_regrown d0 d os
        have r1 := fun (d : Nat) (os : Array Obj) => cell_regrown d1 d os
        have r2 := fun (d : Nat) (os : Array Obj) => cell_regrown d2 d os
        have r3 := fun (d : Nat) (os : Array Obj) => cell_regrown d3 d os
        have r4 := fun (d : Nat) (os : Array Obj) => cell_regrown d4 d os
        have r5 := fun (d : Nat) (os : Array Obj) => cell_regrown d5 d os
        obtain ⟨x0, x1, x2⟩ := (hL.k 2 (by simp)).cell3
        obtain ⟨y0, y1, y2⟩ := (hL.k 1 (by simp)).cell3
        obtain ⟨z0, z1, z2⟩ := (hL.k 0 (by simp)).cell3
        have rx := fun (d : Nat) (os : Array Obj) => cell_regrown x2 d os
        have ry := fun (d : Nat) (os : Array Obj) => cell_regrown y2 d os
        have rz := fun (d : Nat) (os : Array Obj) => cell_regrown z2 d os
        simp only [List.getElem_cons_zero, List.getElem_cons_succ] at rx ry rz
        clear i1 i3 i6 hN1 hN3 hN6 d0 d1 d2 d3 d4 d5 x0 x1 x2 y0 y1 y2 z0 z1 z2
        generalize a 2 = v1 at *
        generalize a 5 = v3 at *
        generalize a 8 = v6 at *
        go_upto_region 15 with fail
        refine wp_region_quiet_below (by kernel_rfl) (by kernel_rfl) ?_
        repeat (first | go_big_quiet_step ((first | with_reducible exact quiet_below (hS1 _ _) | with_reducible exact quiet_below (hS3 _ _) | with_reducible exact quiet_below (hS6 _ _))) | quiet_step ((first | with_reducible exact quiet_below (hS1 _ _) | with_reducible exact quiet_below (hS3 _ _) | with_reducible exact quiet_below (hS6 _ _))))
        refine wpQuiet_nil ?_
        intro _ hw'
        obtain ⟨⟨d9, os⟩, hw''⟩ := hw'
        subst hw''
        have hbx := below_regrown wr d9 os
        clear hS1 hS3 hS6 r0 r1 r2 r3 r4 r5 rx ry rz
        generalize Go.Sort.grow (redrawn wr d9) os = wx at *
        go_wp2_with fail
        exact ⟨⟨3, by omega, rfl, hL.nx hbx, hBg.nx hbx⟩, by simp [intOf]⟩
      · obtain ⟨p0, p1, p2⟩ := (hL.k 3 (by simp)).cell3
        simp only [List.getElem_cons_zero, List.getElem_cons_succ] at p0 p1 p2
        by_cases hp : rightH X Y D = true
        · have hU := under2_any _ (adjZ l) X Y D wr hBg HALn.out HEA.out bx by' bd
          rw [HUR.out hp] at hU
          have hj := und_j64 (px := X) (py := Y) (d := D) hAd
          rw [hp] at hRt
          clear hp
          generalize undR a X Y D = u at *
          have hj' : -9223372036854775808 ≤ u ∧ u ≤ 9223372036854775807 := by unfold J64 at hj; omega
          obtain ⟨j0, j1⟩ := hj'
          clear hj
          go_wp2_with (first
            | (go_at_call 18; (with_reducible refine (hRt _).mono ?_); rintro e w9 ⟨rfl, rfl⟩))
          refine hU.mono ?_
          rintro e w10 ⟨u1, rfl, hNu, hb10⟩
          go_wp2_with (first
            | (go_at_call 17; (with_reducible refine (small_any _ u _ hNu j0 j1).mono ?_); rintro e w11 ⟨rfl, hb11⟩)
            | (go_at_call 14; (with_reducible refine (hAl _).mono ?_); rintro e w12 ⟨rfl, hb12⟩))
          go_returns
          exact ⟨rfl, (((hL.nx hb10).nx hb11).nx hb12).bel⟩
        · have hp' : rightH X Y D = false := by simpa using hp
          have hu0 : undR a X Y D = 0 := by unfold undR; rw [if_neg hp]
          rw [hp'] at hRt
          rw [hu0]
          clear hp hp' hu0
          go_wp2_with (first
            | (go_at_call 18; (with_reducible refine (hRt _).mono ?_); rintro e w9 ⟨rfl, rfl⟩)
            | (go_at_call 14; (with_reducible refine (hAl _).mono ?_); rintro e w12 ⟨rfl, hb12⟩))
          go_returns
          exact ⟨rfl, (hL.nx hb12).bel⟩
  · have hb : (newC l W H != 0) = true := by simp [hz]
    have hbe : (newC l W H == 0) = false := by simp [hz]
    have hne := Lib.hid hz
    have hUn := fun w' => under_nil X Y D w'
    have hLn := fun w' => lines_nil w'
    have hq3 := eq3_run
    simp only [NwR] at hN
    clear hz hl hok hr
    generalize newC l W H = nc at *
    go_enter Try.func3, Try.ntmps3
    go_wp2_with fail
    refine hN.mono ?_
    rintro e w2 ⟨p, rfl, ⟨hRl, _⟩, hb2⟩
    obtain rfl := hRl hne.out
    clear hRl hN s0 s1 p0 p1 p2
    replace hL := hL.nx hb2
    obtain ⟨s0, s1⟩ := (hL.k 1 (by simp)).cell2
    simp only [List.getElem_cons_zero, List.getElem_cons_succ] at s0 s1
    go_wp2_with fail
    refine (hC _ hL.bel).mono ?_
    rintro e w3 ⟨rfl, hb3⟩
    replace hL := hL.nx hb3
    clear hC s0 s1
    obtain ⟨s0, s1⟩ := (hL.k 1 (by simp)).cell2
    simp only [List.getElem_cons_zero, List.getElem_cons_succ] at s0 s1
    have hbl := hL.bel
    go_wp2_with (first
      | (go_at_call 11; (with_reducible refine (hC2 _ (by exact hbl)).mono ?_); rintro e w4 ⟨rfl, hb4⟩; have hL4 := hL.nx hb4))
    refine (hLn _).mono ?_
    rintro e w5 ⟨rfl, hb5⟩
    clear hL hC2 s0 s1 hbl
    have hL := (((hL4.nx hb5).alloc (a3 0 0 0) 31).alloc (a3 0 0 0) 31).alloc (a3 0 0 0) 31
    simp only [World.size_alloc] at hL
    clear hL4
    obtain ⟨p0, p1, p2⟩ := (hL.k 3 (by simp)).cell3
    simp only [List.getElem_cons_zero, List.getElem_cons_succ] at p0 p1 p2
    obtain ⟨x0, x1, x2⟩ := (hL.k 2 (by simp)).cell3
    obtain ⟨y0, y1, y2⟩ := (hL.k 1 (by simp)).cell3
    obtain ⟨z0, z1, z2⟩ := (hL.k 0 (by simp)).cell3
    simp only [List.getElem_cons_zero, List.getElem_cons_succ] at x0 x1 x2 y0 y1 y2 z0 z1 z2
    go_wp2_with (first
      | (go_at_call 13; (with_reducible refine (hUn _).mono ?_); rintro e w6 ⟨rfl, rfl⟩)
      | (go_at_call 14; (with_reducible refine (hAl _).mono ?_); rintro e w12 ⟨rfl, hb12⟩))
    go_returns
    exact ⟨rfl, (hL.nx hb12).bel⟩
theorem lawHomogChecks (A : Option Addr) (n cp : Nat) (cs1 cs2 : Array Value) (w : World) (h0 : Rv Try.prog w 22 [.slice A n cp]) (h1 : Rv Try.prog w 23 cs1.toList) (h2 : Rv Try.prog w 25 cs2.toList) :
    Calls Try.prog 3 #[.slice A n cp, .agg cs1, .agg cs2] w fun e w' => e = .returned (.bool true) ∧ Below w.heap.size w w' := by
  obtain ⟨l, hl, hn, _, hok, hr⟩ := open_nums h0
  obtain ⟨W, H, rfl, hW, hH⟩ := open_size h1
  obtain ⟨x, y, d, e2, bx, by', bd⟩ := open_place h2
  obtain ⟨l2⟩ := cs2
  simp only at e2
  subst e2
  exact walkHomogChecks l A n cp W H x y d w hl hn hr hok hW hH bx by' bd
end Go.Proofs.Ytebcienjeponmaa
