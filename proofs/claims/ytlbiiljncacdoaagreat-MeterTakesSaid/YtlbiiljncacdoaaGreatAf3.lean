/- affine: Check, New, At. -/
import Derived.Test.YtlbiiljncacdoaaGreatAf2
import Derived.Test.YtlbiiljncacdoaaGreatHp0
import Derived.StillTailTactics
set_option linter.unusedVariables false
namespace Go.Proofs.YtlbiiljncacdoaaGreat
open Go.RowKit
set_option maxHeartbeats 2000000 in
theorem acheck_any (l : List Int) (A : Option Addr) (n cp : Nat) (w : World) {B : Nat} (hl : l.length = n) (hr : Rd w B A (l.map (Value.int .i64))) :
    Calls Tryz.prog 216 #[.slice A n cp] w fun e w' => e = .returned (.int .i64 (afC l)) ∧ Below w.heap.size w w' := by
  have hb0 := Below.refl w.heap.size w
  by_cases hn : n = 6
  · subst hn
    have HL := Lib.hid hl
    have hD := fun (h : AfOk l) => adet_any l A cp w h hr
    clear hl
    go_enter Tryz.func216, Tryz.ntmps216
    go_wp2_with fail
    go_loop [3, 4, 9] (fun _ _ kv => ∃ k : Nat, k ≤ 6 ∧ kv = .int .i64 k ∧ Hid (∀ i, i < k → inH (l.getD i 0) (most i) = true)) (fun _ _ kv => 6 - (intOf kv).toNat)
    case atStart => exact ⟨0, by omega, rfl, by intro i hi; omega⟩
    case round =>
      obtain ⟨k, hk, rfl, hall⟩ := hrel
      by_cases hlt : k < 6
      · obtain ⟨b, o, rfl, hb, hc⟩ := hr.get k (by rw [List.length_map, HL.out]; exact hlt)
        have hx : (l.map (Value.int .i64))[k]'(by rw [List.length_map, HL.out]; exact hlt) = .int .i64 (l.getD k 0) := by
          rw [List.getElem_map, List.getD_eq_getElem?_getD, List.getElem?_eq_getElem (by rw [HL.out]; exact hlt)]; rfl
        rw [hx] at hc
        clear hx hD
        have hix := most6_ix k hlt
        obtain ⟨m0, m1⟩ := most_bd k
        cases hi : inH (l.getD k 0) (most k)
        · have HR : Hid (afC l = 11) := by
            show _ = _
            unfold afC
            rw [if_neg (by rw [HL.out]; simp), if_neg]
            intro h
            have := rg6_iff.1 h k hlt
            rw [hi] at this; cases this
          generalize l.getD k 0 = x at *
          generalize most k = mk at *
          go_wp2_with (go_at_call 218; (with_reducible refine (ain_any _ _ _ m0 (by omega)).mono ?_); rintro e w' ⟨rfl, rfl⟩; rw [hi])
          go_ret
          exact ⟨ret_int HR.out.symm, hb0⟩
        · have HN : Hid (∀ i, i < k + 1 → inH (l.getD i 0) (most i) = true) := by
            intro i hi2
            by_cases e : i = k
            · rw [e]; exact hi
            · exact hall.out i (by omega)
          generalize l.getD k 0 = x at *
          generalize most k = mk at *
          go_wp2_with (go_at_call 218; (with_reducible refine (ain_any _ _ _ m0 (by omega)).mono ?_); rintro e w' ⟨rfl, rfl⟩; rw [hi])
          exact ⟨⟨k + 1, by omega, by go_num, HN⟩, by simp [intOf]; omega⟩
      · obtain rfl : k = 6 := by omega
        have hok : AfOk l := ⟨HL.out, rg6_iff.2 hall.out⟩
        have hd := hD hok
        have HR : Hid (afC l = if dtA l = 0 then 40 else 0) := by
          show _ = _
          unfold afC
          rw [if_neg (by rw [HL.out]; simp), if_pos hok.rg]
        clear hD hok hall
        by_cases hz : dtA l = 0
        · rw [hz] at hd
          have HR' : Hid (afC l = 40) := by show _ = _; rw [HR.out, if_pos hz]
          clear hz HR
          go_wp2_with (go_at_call 217; (with_reducible refine hd.mono ?_); rintro e w' ⟨rfl, hb1⟩)
          go_ret
          exact ⟨ret_int HR'.out.symm, hb1⟩
        · have HR' : Hid (afC l = 0) := by show _ = _; rw [HR.out, if_neg hz]
          have hzb : (dtA l == 0) = false := by simpa using hz
          clear hz HR
          generalize dtA l = D at *
          go_wp2_with (go_at_call 217; (with_reducible refine hd.mono ?_); rintro e w' ⟨rfl, hb1⟩)
          go_ret
          exact ⟨ret_int HR'.out.symm, hb1⟩
  · have HR : Hid (afC l = 12) := by show _ = _; unfold afC; rw [if_pos (by omega)]
    have hnb : ((n : Int) != 6) = true := by rw [bne_iff_ne]; omega
    clear hl hn
    go_enter Tryz.func216, Tryz.ntmps216
    go_wp2_with fail
    all_goals first
      | (go_ret; exact ⟨ret_int HR.out.symm, hb0⟩)
      | (exfalso; omega)
theorem st_three {P : Program} {ops : Array Oper} {rest : List Oper} {o : Oper} {a : Act} {w : World} {Q : Exit → Act → World → Prop} (hgd : o.guard = none) (ty : TypeId) (x y : Operand) (ho : o.op = .store ty x y)
    {g : Nat} {t : TypeId} {old : Array Value} (hK : Bk w g t old) (i : Nat) (hi2 : i + 3 ≤ old.size) (u v z : Value) (hx : a.eval x = .pointer (some ⟨g, i, none⟩)) (hy : a.eval y = .agg #[u, v, z])
    (hi : (P.info? ty).map (·.size) = some 3) (h1 : u.oneCell' = true) (h2 : v.oneCell' = true) (h3 : z.oneCell' = true)
    (h : ∀ w', Bk w' g t (((old.setIfInBounds i u).setIfInBounds (i + 1) v).setIfInBounds (i + 1 + 1) z) → w.grownBy w' (some g) → w'.heap.size = w.heap.size → wpList P ops Q rest (a.put o.dst undef) w') : wpList P ops Q (o :: rest) a w := by
  refine wpList_store_mid hgd ty x y ho g i #[u, v, z] hx hy (fun j hj => ⟨?_, hK.frozen _⟩) hi (by simp [h1, h2, h3]) ?_
  · rw [hK.cell]
    have hj2 : j < 3 := hj
    rw [Array.getElem?_eq_getElem (show i + j < old.size by omega)]
    simp
  · exact h _ (((hK.set i u).set (i + 1) v).set (i + 1 + 1) z) (gb_setCell (g := g) (p := ⟨g, i + 1 + 1, none⟩) (gb_setCell (g := g) (p := ⟨g, i + 1, none⟩) (gb_setCell (g := g) (p := ⟨g, i, none⟩) (World.grownBy.refl w _) (.inl rfl) u) (.inl rfl) v) (.inl rfl) z) (by simp [World.setCells, World.setCell])
/-- A map's numbers, asked backwards. -/
def afA (l : List Int) : Array Value := #[.int .i64 (afU l 0), .int .i64 (afU l 1), .int .i64 (afU l 2), .int .i64 (afU l 3), .int .i64 (afU l 4), .int .i64 (afU l 5), .int .i64 (dtA l)]
def AfR (l : List Int) (w w' : World) (p : Option Addr) : Prop :=
  (afC l ≠ 0 → p = none) ∧ (afC l = 0 → ∃ g, p = some ⟨g, 0, none⟩ ∧ w.heap.size ≤ g ∧ Bk w' g 257 (afA l))
set_option maxRecDepth 100000 in
set_option maxHeartbeats 8000000 in
theorem anew_any (l : List Int) (A : Option Addr) (n cp : Nat) (w : World) {B : Nat} (hl : l.length = n) (hr : Rd w B A (l.map (Value.int .i64))) (hB : B ≤ w.heap.size) :
    Calls Tryz.prog 179 #[.slice A n cp] w fun e w' => ∃ p, e = .returned (.tuple #[.pointer p, .int .i64 (afC l)]) ∧ AfR l w w' p ∧ Below w.heap.size w w' := by
  have hC := acheck_any l A n cp w hl hr
  by_cases h1 : afC l = 0
  · obtain ⟨hok, hd⟩ := afC_zero.1 h1
    obtain rfl : n = 6 := by rw [← hl]; exact hok.len
    rw [h1] at hC
    simp only [AfR, h1]
    have hD := fun (w' : World) (hb : Below w.heap.size w w') => adet_any l A cp w' hok (hr.below' hb hB)
    obtain ⟨b, o, rfl, hb, hcl⟩ := aget hok.len hr
    have b0 := hok.bd 0 (by decide)
    have b1 := hok.bd 1 (by decide)
    have b3 := hok.bd 3 (by decide)
    have b4 := hok.bd 4 (by decide)
    have m0 : most 0 = 16777216 := rfl
    have m1 : most 1 = 16777216 := rfl
    have m3 : most 3 = 16777216 := rfl
    have m4 : most 4 = 16777216 := rfl
    rw [m0] at b0
    rw [m1] at b1
    rw [m3] at b3
    rw [m4] at b4
    obtain ⟨p1, p1'⟩ := hok.prod 1 5 (by decide) (by decide) 36028797018963968 (by decide)
    obtain ⟨p2, p2'⟩ := hok.prod 4 2 (by decide) (by decide) 36028797018963968 (by decide)
    obtain ⟨p3, p3'⟩ := hok.prod 3 2 (by decide) (by decide) 36028797018963968 (by decide)
    obtain ⟨p4, p4'⟩ := hok.prod 0 5 (by decide) (by decide) 36028797018963968 (by decide)
    have E : Hid (afA l = #[.int .i64 (65536 * cf l 4), .int .i64 (-65536 * cf l 1), .int .i64 (cf l 1 * cf l 5 - cf l 4 * cf l 2), .int .i64 (-65536 * cf l 3), .int .i64 (65536 * cf l 0), .int .i64 (cf l 3 * cf l 2 - cf l 0 * cf l 5), .int .i64 (dtA l)]) := rfl
    have c0 : w.cell? ⟨b, o, none⟩ = some (.int .i64 (cf l 0)) := hcl 0 (by decide)
    have c1 := hcl 1 (by decide)
    have c2 := hcl 2 (by decide)
    have c3 := hcl 3 (by decide)
    have c4 := hcl 4 (by decide)
    have c5 := hcl 5 (by decide)
    clear h1 hok hd hcl m0 m1 m3 m4 hl hr
    generalize afA l = AA at *
    generalize dtA l = D at *
    generalize cf l 0 = x0 at *
    generalize cf l 1 = x1 at *
    generalize cf l 2 = x2 at *
    generalize cf l 3 = x3 at *
    generalize cf l 4 = x4 at *
    generalize cf l 5 = x5 at *
    have w1 : IntKind.i64.wrap (x1 * x5) = x1 * x5 := IntWalk.i64_in _ ⟨by omega, by omega⟩
    have w2 : IntKind.i64.wrap (x4 * x2) = x4 * x2 := IntWalk.i64_in _ ⟨by omega, by omega⟩
    have w3 : IntKind.i64.wrap (x3 * x2) = x3 * x2 := IntWalk.i64_in _ ⟨by omega, by omega⟩
    have w4 : IntKind.i64.wrap (x0 * x5) = x0 * x5 := IntWalk.i64_in _ ⟨by omega, by omega⟩
    have w5 : IntKind.i64.wrap (x1 * x5 - x4 * x2) = x1 * x5 - x4 * x2 := IntWalk.i64_in _ ⟨by omega, by omega⟩
    have w6 : IntKind.i64.wrap (x3 * x2 - x0 * x5) = x3 * x2 - x0 * x5 := IntWalk.i64_in _ ⟨by omega, by omega⟩
    have w7 : IntKind.i64.wrap (65536 * x4) = 65536 * x4 := IntWalk.i64_in _ ⟨by omega, by omega⟩
    have w8 : IntKind.i64.wrap (-65536 * x1) = -65536 * x1 := IntWalk.i64_in _ ⟨by omega, by omega⟩
    have w9 : IntKind.i64.wrap (-65536 * x3) = -65536 * x3 := IntWalk.i64_in _ ⟨by omega, by omega⟩
    have w10 : IntKind.i64.wrap (65536 * x0) = 65536 * x0 := IntWalk.i64_in _ ⟨by omega, by omega⟩
    clear b0 b1 b3 b4 p1 p1' p2 p2' p3 p3' p4 p4'
    go_enter Tryz.func179, Tryz.ntmps179
    go_wp2_with (first
      | (go_at_call 216; (with_reducible refine hC.mono ?_); rintro e wa ⟨rfl, hb1⟩)
      | (go_at_call 217; (with_reducible refine (hD _ (by exact hb1)).mono ?_); rintro e wb ⟨rfl, hb2⟩; have hb3 := hb1.trans (hb2.mono hb1.size)))
    have hK := Bk.new wb 257 #[.int .i64 0, .int .i64 0, .int .i64 0, .int .i64 0, .int .i64 0, .int .i64 0, .int .i64 D]
    have hb4 := hb3.alloc hb3.size (.cells #[.int .i64 0, .int .i64 0, .int .i64 0, .int .i64 0, .int .i64 0, .int .i64 0, .int .i64 D] 257)
    have hcc := fun (i : Nat) => hb4.cell (p := ⟨b, i, none⟩) (Nat.lt_of_lt_of_le hb hB)
    have hg0 := hb3.size
    generalize wb.alloc (.cells #[.int .i64 0, .int .i64 0, .int .i64 0, .int .i64 0, .int .i64 0, .int .i64 0, .int .i64 D] 257) = wc at *
    replace c0 := (hcc _).trans c0
    replace c1 := (hcc _).trans c1
    replace c2 := (hcc _).trans c2
    replace c3 := (hcc _).trans c3
    replace c4 := (hcc _).trans c4
    replace c5 := (hcc _).trans c5
    clear hcc
    go_still_tail 25, (by kernel_rfl)
    change wpList _ _ _ _ _ wc.drew
    have hKd : Bk wc.drew wb.heap.size 257 _ := hK.drew
    have hb5 : Below w.heap.size w wc.drew := below_drewN hb4 1
    have hcc := fun (i : Nat) => (show wc.drew.cell? ⟨b, i, none⟩ = wc.cell? ⟨b, i, none⟩ from rfl)
    have hsz : w.heap.size ≤ wc.drew.heap.size := hb5.size
    generalize wc.drew = wd at *
    replace c0 := (hcc _).trans c0
    replace c1 := (hcc _).trans c1
    replace c2 := (hcc _).trans c2
    replace c3 := (hcc _).trans c3
    replace c4 := (hcc _).trans c4
    replace c5 := (hcc _).trans c5
    clear hcc hb4 hK hb3 hb2 hb1 hC hD
    have hwb := hg0
    go_upto_region 6 with (refine st_three rfl _ _ _ rfl hKd 0 (by simp) (.int .i64 (65536 * x4)) (.int .i64 (-65536 * x1)) (.int .i64 (x1 * x5 - x4 * x2)) rfl rfl a3_info rfl rfl rfl ?_; intro we hKe hge hse)
    have hb6 := below_of_gb hb5 hge hg0 hsz
    have hcc := fun (i : Nat) => World.cell?_of_block (a := ⟨b, i, none⟩) (hge.block b (by have := hKd.lt; omega) (by intro e; injection e with e; omega))
    simp only [List.setIfInBounds_toArray, List.set_cons_zero, List.set_cons_succ, Nat.zero_add] at hKe
    replace c0 := (hcc _).trans c0
    replace c1 := (hcc _).trans c1
    replace c2 := (hcc _).trans c2
    replace c3 := (hcc _).trans c3
    replace c4 := (hcc _).trans c4
    replace c5 := (hcc _).trans c5
    clear hcc hKd hge hse hb5 hsz
    go_still_tail 25, (by kernel_rfl)
    change wpList _ _ _ _ _ we.drew
    replace hKe : Bk we.drew wb.heap.size 257 _ := hKe.drew
    have hb7 : Below w.heap.size w we.drew := below_drewN hb6 1
    have hsz : w.heap.size ≤ we.drew.heap.size := hb7.size
    clear c0 c1 c2 c3 c4 c5 hb6
    generalize we.drew = wf at *
    go_wp2_with (refine st_three rfl _ _ _ rfl hKe 3 (by simp) (.int .i64 (-65536 * x3)) (.int .i64 (65536 * x0)) (.int .i64 (x3 * x2 - x0 * x5)) rfl rfl a3_info rfl rfl rfl ?_; intro wg hKg hgg hsg)
    go_returns
    simp only [List.setIfInBounds_toArray, List.set_cons_zero, List.set_cons_succ] at hKg
    exact ⟨_, rfl, ⟨fun h => absurd rfl h, fun _ => ⟨_, rfl, hg0, by rw [E.out]; exact hKg⟩⟩, below_of_gb hb7 hgg hg0 hsz⟩
  · have hne := Lib.hid h1
    have hnb : (afC l != 0) = true := by simpa using h1
    simp only [AfR]
    clear h1
    generalize afC l = cc at *
    go_enter Tryz.func179, Tryz.ntmps179
    go_wp2_with (first
      | (go_at_call 216; (with_reducible refine hC.mono ?_); rintro e wa ⟨rfl, hb1⟩))
    go_returns
    exact ⟨none, rfl, ⟨fun _ => rfl, fun h => absurd h hne.out⟩, hb1⟩
set_option maxRecDepth 100000 in
set_option maxHeartbeats 8000000 in
theorem aat_any (l : List Int) (g : Nat) (x y d : Int) (w : World) (hK : Bk w g 257 (afA l)) (h : AfOk l) (hdt : dtA l ≠ 0) :
    Calls Tryz.prog 180 #[.pointer (some ⟨g, 0, none⟩), .int .i64 x, .int .i64 y, .int .i64 d] w fun e w' =>
      e = .returned (.tuple #[.int .i64 (afX l x y d), .int .i64 (afY l x y d), .int .i64 (afE x y d)]) ∧ Below w.heap.size w w' := by
  have hb0 := Below.refl w.heap.size w
  have hI := fun (a b : Int) (w' : World) (h0 : 0 ≤ b) (h1 : b ≤ 9223372036854775807) => ain_any a b w' h0 h1
  have e0 : rightH x y d = (inH x 1048576 && (inH y 1048576 && (decide (1 ≤ d) && decide (d ≤ 16)))) := by
    unfold rightH inH
    rw [Bool.eq_iff_iff]; simp only [decide_eq_true_iff, Bool.and_eq_true]
  have hIx := fun w' => ain_any x 1048576 w' (by decide) (by decide)
  have hIy := fun w' => ain_any y 1048576 w' (by decide) (by decide)
  cases hp : rightH x y d
  · have E1 : afX l x y d = 0 := by simp [afX, hp]
    have E2 : afY l x y d = 0 := by simp [afY, hp]
    have E3 : afE x y d = 11 := by simp [afE, hp]
    rw [E1, E2, E3]
    rw [hp] at e0
    have E0 := Lib.hid e0
    clear E1 E2 E3 hp e0 hI
    cases h1 : inH x 1048576
    · rw [h1] at hIx
      clear h1 E0
      go_enter Tryz.func180, Tryz.ntmps180
      go_wp2_with (first | (go_at_call 218; (with_reducible refine (hIx _).mono ?_); rintro e w1 ⟨rfl, rfl⟩))
      go_returns
      exact ⟨rfl, hb0⟩
    · rw [h1] at hIx
      cases h2 : inH y 1048576
      · rw [h2] at hIy
        clear h1 h2 E0
        go_enter Tryz.func180, Tryz.ntmps180
        go_wp2_with (first | (go_at_call 218; (with_reducible refine (hIx _).mono ?_); rintro e w1 ⟨rfl, rfl⟩) | (go_at_call 218; (with_reducible refine (hIy _).mono ?_); rintro e w1 ⟨rfl, rfl⟩))
        go_returns
        exact ⟨rfl, hb0⟩
      · rw [h2] at hIy
        have h3 : ¬ (1 ≤ d ∧ d ≤ 16) := by
          intro h3
          have := E0.out
          rw [h1, h2] at this
          simp [h3] at this
        clear h1 h2 E0
        by_cases h4 : 1 ≤ d
        all_goals
          go_enter Tryz.func180, Tryz.ntmps180
          go_wp2_with (first | (go_at_call 218; (with_reducible refine (hIx _).mono ?_); rintro e w1 ⟨rfl, rfl⟩) | (go_at_call 218; (with_reducible refine (hIy _).mono ?_); rintro e w1 ⟨rfl, rfl⟩))
          go_returns
          exact ⟨rfl, hb0⟩
  · have hpr := rightH_iff.1 hp
    have E1 : afX l x y d = plc (smR (afU l 0) (afU l 1) (afU l 2) x y d) (dtA l * d) := by simp [afX, hp]
    have E2 : afY l x y d = plc (smR (afU l 3) (afU l 4) (afU l 5) x y d) (dtA l * d) := by simp [afY, hp]
    have E3 : afE x y d = 0 := by simp [afE, hp]
    rw [E1, E2, E3]
    obtain ⟨hu, hv, t0, t1⟩ := afU_ok h
    have hS1 := fun w' => asum_any (afU l 0) (afU l 1) (afU l 2) x y d w' hu hp
    have hS2 := fun w' => asum_any (afU l 3) (afU l 4) (afU l 5) x y d w' hv hp
    have q1 := sm_wq hu hp
    have q2 := sm_wq hv hp
    obtain ⟨u0, u1⟩ := mulbd (a := dtA l) (b := d) (A := 562949953421312) (B := 16) t0 t1 (by omega) (by omega)
    have hdd : dtA l * d ≠ 0 := by
      rw [Ne, Int.mul_eq_zero]; omega
    have hP1 := fun w' => qplace_any (smR (afU l 0) (afU l 1) (afU l 2) x y d) (dtA l * d) w' q1 hdd ⟨by omega, by omega⟩
    have hP2 := fun w' => qplace_any (smR (afU l 3) (afU l 4) (afU l 5) x y d) (dtA l * d) w' q2 hdd ⟨by omega, by omega⟩
    have hix : inH x 1048576 = true := inH_iff.2 hpr.1
    have hiy : inH y 1048576 = true := inH_iff.2 hpr.2.1
    obtain ⟨_, _, d0, d1⟩ := hpr
    have hw : IntKind.i64.wrap (dtA l * d) = dtA l * d := IntWalk.i64_in _ ⟨by omega, by omega⟩
    rw [hix] at hIx
    rw [hiy] at hIy
    clear E1 E2 E3 hp e0 hI hu hv t0 t1 u0 u1 hdd q1 q2 hix hiy hdt h
    obtain ⟨c0, c1, c2, c3, c4, c5, c6⟩ : w.cell? ⟨g, 0, none⟩ = some (.int .i64 (afU l 0)) ∧ w.cell? ⟨g, 1, none⟩ = some (.int .i64 (afU l 1)) ∧ w.cell? ⟨g, 2, none⟩ = some (.int .i64 (afU l 2)) ∧ w.cell? ⟨g, 3, none⟩ = some (.int .i64 (afU l 3)) ∧ w.cell? ⟨g, 4, none⟩ = some (.int .i64 (afU l 4)) ∧ w.cell? ⟨g, 5, none⟩ = some (.int .i64 (afU l 5)) ∧ w.cell? ⟨g, 6, none⟩ = some (.int .i64 (dtA l)) :=
      ⟨by rw [hK.cell]; rfl, by rw [hK.cell]; rfl, by rw [hK.cell]; rfl, by rw [hK.cell]; rfl, by rw [hK.cell]; rfl, by rw [hK.cell]; rfl, by rw [hK.cell]; rfl⟩
    generalize plc (smR (afU l 0) (afU l 1) (afU l 2) x y d) (dtA l * d) = p1 at *
    generalize plc (smR (afU l 3) (afU l 4) (afU l 5) x y d) (dtA l * d) = p2 at *
    generalize smR (afU l 0) (afU l 1) (afU l 2) x y d = s1 at *
    generalize smR (afU l 3) (afU l 4) (afU l 5) x y d = s2 at *
    obtain ⟨dd, hdd⟩ : ∃ dd, dd = dtA l * d := ⟨_, rfl⟩
    rw [← hdd] at hP1 hP2
    rw [← hdd] at hw
    rw [hdd] at hw
    have hw2 : IntKind.i64.wrap (dtA l * d) = dd := by rw [hw, hdd]
    clear hw hdd
    generalize dtA l = D at *
    go_enter Tryz.func180, Tryz.ntmps180
    go_wp2_with (first | (go_at_call 218; (with_reducible refine (hIx _).mono ?_); rintro e w1 ⟨rfl, rfl⟩) | (go_at_call 218; (with_reducible refine (hIy _).mono ?_); rintro e w1 ⟨rfl, rfl⟩))
    have k0 := fun (n : Nat) (os : Array Obj) => cell_regrown c0 n os
    have k1 := fun (n : Nat) (os : Array Obj) => cell_regrown c1 n os
    have k2 := fun (n : Nat) (os : Array Obj) => cell_regrown c2 n os
    have k6 := fun (n : Nat) (os : Array Obj) => cell_regrown c6 n os
    refine wp_region_quiet_below (by kernel_rfl) (by kernel_rfl) ?_
    repeat (first | go_big_quiet_step ((first | with_reducible exact quiet_below (hS1 _) | with_reducible exact quiet_below (hP1 _))) | quiet_step ((first | with_reducible exact quiet_below (hS1 _) | with_reducible exact quiet_below (hP1 _))))
    refine wpQuiet_nil ?_
    intro _ hw'
    obtain ⟨⟨d9, os⟩, hw''⟩ := hw'
    subst hw''
    have hbx := below_regrown w d9 os
    generalize Go.Sort.grow (redrawn w d9) os = wx at *
    clear k0 k1 k2 k6
    have c3' := (hbx.cell (p := ⟨g, 3, none⟩) hK.lt).trans c3
    have c4' := (hbx.cell (p := ⟨g, 4, none⟩) hK.lt).trans c4
    have c5' := (hbx.cell (p := ⟨g, 5, none⟩) hK.lt).trans c5
    have c6' := (hbx.cell (p := ⟨g, 6, none⟩) hK.lt).trans c6
    clear c0 c1 c2 c3 c4 c5 c6
    have k3 := fun (n : Nat) (os : Array Obj) => cell_regrown c3' n os
    have k4 := fun (n : Nat) (os : Array Obj) => cell_regrown c4' n os
    have k5 := fun (n : Nat) (os : Array Obj) => cell_regrown c5' n os
    have k6 := fun (n : Nat) (os : Array Obj) => cell_regrown c6' n os
    go_upto_region 6 with fail
    refine wp_region_quiet_below (by kernel_rfl) (by kernel_rfl) ?_
    repeat (first | go_big_quiet_step ((first | with_reducible exact quiet_below (hS2 _) | with_reducible exact quiet_below (hP2 _))) | quiet_step ((first | with_reducible exact quiet_below (hS2 _) | with_reducible exact quiet_below (hP2 _))))
    refine wpQuiet_nil ?_
    intro _ hw'
    obtain ⟨⟨d8, os8⟩, hw''⟩ := hw'
    subst hw''
    have hby := hbx.trans ((below_regrown wx d8 os8).mono hbx.size)
    generalize Go.Sort.grow (redrawn wx d8) os8 = wy at *
    clear k3 k4 k5 k6 c3' c4' c5' c6'
    go_wp2_with fail
    go_returns
    exact ⟨rfl, hby⟩
end Go.Proofs.YtlbiiljncacdoaaGreat
