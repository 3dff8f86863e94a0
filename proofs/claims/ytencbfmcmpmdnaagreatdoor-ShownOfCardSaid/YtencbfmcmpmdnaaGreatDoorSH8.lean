/- The law ShownOf: the walk. -/
import Derived.Test.YtencbfmcmpmdnaaGreatDoorSH7
set_option linter.unusedVariables false
namespace Go.Proofs.YtencbfmcmpmdnaaGreatDoor
open Go.RowKit
set_option maxRecDepth 100000 in
set_option maxHeartbeats 32000000 in
theorem walkShownOf (k : Int) (A : Option Addr) (sn cp : Nat) (l : List Int) (W H kn n mo c0 c1 c2 c3 mi C : Int) (w : World) (hl : l.length = sn) (hr : Rd w w.heap.size A (l.map (Value.int .i64)))
    (hM : sn ≤ 300 → ∀ w', Below w.heap.size w w' → Calls Tryz.prog 9 #[.agg (wrA k A sn cp W H kn n mo c0 c1 c2 c3 mi)] w' fun e w'' => e = .returned (.int .i64 C) ∧ Below w'.heap.size w' w'')
    (hR : sn ≤ 300 → ∀ w', Below w.heap.size w w' → Calls Tryz.prog 5 #[.agg (wrA k A sn cp W H kn n mo c0 c1 c2 c3 mi)] w' fun e w'' => e = .returned (.int .i64 C) ∧ Below w'.heap.size w' w'') :
    Calls Tryz.prog 3 #[.agg (wrA k A sn cp W H kn n mo c0 c1 c2 c3 mi)] w fun e w' => e = .returned (.bool true) ∧ Below w.heap.size w w' := by
  have hL := (Lie.start w).alloc (wrA k A sn cp W H kn n mo c0 c1 c2 c3 mi) 29
  have k0 : Bk _ w.heap.size 29 (wrA k A sn cp W H kn n mo c0 c1 c2 c3 mi) := hL.k 0 (by simp)
  have x1 := (k0.cell 1).trans (show _ = some (.slice A sn cp) from rfl)
  have hAl := fun w' => alive51 w'
  by_cases h9 : 300 < sn
  · clear hM hR hAl
    go_enter Tryz.func3, Tryz.ntmps3
    go_wp2_with fail
    go_returns
    exact ⟨rfl, hL.bel⟩
  replace hM := hM (by omega)
  replace hR := hR (by omega)
  by_cases hC : C = 0
  · subst hC
    have hS := sof_ok k A sn cp l W H kn n mo c0 c1 c2 c3 mi _ hl ((hr.below hL.bel).more hL.sz) (by omega) (fun w' hb => hM w' (hL.bel.trans (hb.mono hL.sz)))
    have hR1 := fun w' (hb : Below w.heap.size w w') => hR w' hb
    clear hM hR
    go_enter Tryz.func3, Tryz.ntmps3
    go_upto_region 6 with (first
      | (refine ldB rfl _ _ rfl k0 rfl Tryz.underlying29 rfl wr_size ?_)
      | (go_at_call 4; (with_reducible refine hS.mono ?_); rintro e w1 ⟨g, A1, A2, c2', A3, A4, A5, c5, rfl, kl, r1, r2, r3, r4, r5, hb1⟩; have hL1 := hL.nx hb1; have k1 := k0.nx hb1)
      | (refine ldB rfl _ _ rfl k1 rfl Tryz.underlying29 rfl wr_size ?_)
      | (go_at_call 5; (with_reducible refine (hR1 _ hL1.bel).mono ?_); rintro e w2 ⟨rfl, hb2⟩))
    have hL2 := hL1.nx hb2
    replace kl := kl.nx hb2
    replace r1 := (r1.below hb2).more hb2.size
    replace r2 := (r2.below hb2).more hb2.size
    replace r3 := (r3.below hb2).more hb2.size
    replace r4 := (r4.below hb2).more hb2.size
    replace r5 := (r5.below hb2).more hb2.size
    have r0 := (hr.below hL2.bel).more hL2.sz
    clear hS hR1 hL1 k1 hb2 hb1 k0 x1 hL hr
    obtain ⟨x4, x5, x6, x7, x8, x9, x10⟩ := (show Bk w2 w.heap.size 29 (wrA k A sn cp W H kn n mo c0 c1 c2 c3 mi) from hL2.k 0 (by simp)).cell12'
    have hz2 := (show Bk w2 w.heap.size 29 (wrA k A sn cp W H kn n mo c0 c1 c2 c3 mi) from hL2.k 0 (by simp)).lt
    have kN := Bk.new w2 37 cm0
    go_upto_region 7 with (refine stB (ty := 37) (cells := cmA 3 kn none 0 0) rfl _ _ rfl kN rfl rfl cr50_size rfl (by simp [Value.oneCell']) ?_; intro w3 hK3 hg3 hs3)
    have hb3 := below_of_gb ((Below.refl w2.heap.size w2).alloc (Nat.le_refl _) (.cells cm0 37)) hg3 (Nat.le_refl _) (by simp)
    obtain ⟨g5, hg5⟩ : ∃ g5, w2.heap.size = g5 := ⟨_, rfl⟩
    simp only [hg5] at hK3 ⊢
    have hz3 := hK3.lt
    replace x4 := (hb3.cell (p := ⟨w.heap.size, 4, none⟩) hz2).trans x4
    replace x5 := (hb3.cell (p := ⟨w.heap.size, 5, none⟩) hz2).trans x5
    clear kN hg3 hs3
    go_upto_if 38 with fail
    go_cut [5] (fun p wx => ∃ A', p = .pointer (some ⟨g5, 0, none⟩) ∧ Bk wx g5 37 (cmA 3 kn A' (kL kn n).length (kL kn n).length) ∧ Rd wx wx.heap.size A' ((kL kn n).map (Value.int .i64)) ∧ Below w2.heap.size w2 wx)
    case first =>
      clear hL2 kl r1 r2 r3 r4 r5 r0 x6 x7 x8 x9 x10 hAl
      by_cases h3 : kn = 3
      · subst h3
        go_upto_region 8 with fail
        have hq := Bk.new w3 2 #[.int .i64 n]
        have hK3a := hK3.alloc (.cells #[.int .i64 n] 2)
        obtain ⟨d0, d1, d2⟩ := hK3a.cell3
        have f2 := hK3a.frozen 2
        go_wp2_with fail
        go_meet
        have kS := (hK3.set 2 (.slice (some ⟨w3.heap.size, 0, none⟩) 1 1)).alloc (.cells #[.int .i64 n] 2)
        simp only [List.setIfInBounds_toArray, List.set_cons_zero, List.set_cons_succ] at kS
        have hq2 : Bk ((w3.setCell ⟨g5, 2, none⟩ (.slice (some ⟨w3.heap.size, 0, none⟩) 1 1)).alloc (.cells #[.int .i64 n] 2)) w3.heap.size 2 #[.int .i64 n] := by simpa using Bk.new (w3.setCell ⟨g5, 2, none⟩ (.slice (some ⟨w3.heap.size, 0, none⟩) 1 1)) 2 #[.int .i64 n]
        have hbs := (hb3.setCell (p := ⟨g5, 2, none⟩) (by show _ ≤ g5; omega) (.slice (some ⟨w3.heap.size, 0, none⟩) 1 1))
        exact ⟨some ⟨w3.heap.size, 0, none⟩, rfl, kS, Bk.rdl (l := [Value.int .i64 n]) hq2, hbs.alloc hbs.size _⟩
      · have hb : (kn == 3) = false := by simp [h3]
        have HK : Hid (kL kn n = []) := by show _ = _; unfold kL; rw [if_neg h3]
        clear h3
        go_wp2_with fail
        go_meet
        exact ⟨none, rfl, by rw [HK.out]; exact hK3, by rw [HK.out]; exact fun i hi => absurd hi (by simp), hb3⟩
    case rest =>
      obtain ⟨B1, rfl, hK5, q1, hb5⟩ := hcut
      obtain ⟨wd, rfl⟩ : ∃ wd : World, wd = wc := ⟨_, rfl⟩
      go_upto_region 9 with fail
      have hb5z := hb5.size
      have y6 := (hb5.cell (p := ⟨w.heap.size, 6, none⟩) hz2).trans x6
      have kN := Bk.new wd 37 cm0
      go_upto_region 10 with (refine stB (ty := 37) (cells := cmA 4 mo none 0 0) rfl _ _ rfl kN rfl rfl cr50_size rfl (by simp [Value.oneCell']) ?_; intro w6 hK6 hg6' hs6)
      have hb6 := below_of_gb ((Below.refl wd.heap.size wd).alloc (Nat.le_refl _) (.cells cm0 37)) hg6' (Nat.le_refl _) (by simp)
      obtain ⟨g6, hg6⟩ : ∃ g6, wd.heap.size = g6 := ⟨_, rfl⟩
      simp only [hg6] at hK6 ⊢
      have hz6 := hK6.lt
      have hw6 : w.heap.size < wd.heap.size := by omega
      have z6 := (hb6.cell (p := ⟨w.heap.size, 6, none⟩) hw6).trans y6
      have z7 := (hb6.cell (p := ⟨w.heap.size, 7, none⟩) hw6).trans ((hb5.cell (p := ⟨w.heap.size, 7, none⟩) hz2).trans x7)
      have z8 := (hb6.cell (p := ⟨w.heap.size, 8, none⟩) hw6).trans ((hb5.cell (p := ⟨w.heap.size, 8, none⟩) hz2).trans x8)
      have z9 := (hb6.cell (p := ⟨w.heap.size, 9, none⟩) hw6).trans ((hb5.cell (p := ⟨w.heap.size, 9, none⟩) hz2).trans x9)
      have z10 := (hb6.cell (p := ⟨w.heap.size, 10, none⟩) hw6).trans ((hb5.cell (p := ⟨w.heap.size, 10, none⟩) hz2).trans x10)
      clear kN hg6' hs6
      go_upto_if 50 with fail
      have hgl : g6 ≤ wd.heap.size := by omega
      have hgl' : wd.heap.size ≤ g6 := by omega
      clear hg6
      go_cut [6] (fun p wx => ∃ A' c', p = .pointer (some ⟨g6, 0, none⟩) ∧ Bk wx g6 37 (cmA 4 mo A' (bL mo c0 c1 c2 c3).length c') ∧ Rd wx wx.heap.size A' ((bL mo c0 c1 c2 c3).map (Value.int .i64)) ∧ Below wd.heap.size wd wx)
      case first =>
        have X7 := x7
        have X8 := x8
        have X9 := x9
        have X10 := x10
        clear hL2 kl r1 r2 r3 r4 r5 r0 x6 x7 x8 x9 x10 hAl x4 x5 hK3 hK5 q1 y6
        by_cases h3 : mo = 0
        · subst h3
          have y7 := (hb5.cell (p := ⟨w.heap.size, 7, none⟩) hz2).trans X7
          have y8 := (hb5.cell (p := ⟨w.heap.size, 8, none⟩) hz2).trans X8
          have y9 := (hb5.cell (p := ⟨w.heap.size, 9, none⟩) hz2).trans X9
          have y10 := (hb5.cell (p := ⟨w.heap.size, 10, none⟩) hz2).trans X10
          clear z6 z7 z8 z9 z10 X7 X8 X9 X10 hb5
          go_wp2_with fail
          have hown0 := World.ownsRow_nil w6 (g6 + 1) 2 1
          go_loopw [7] (fun i wr => ∃ (j : Nat) (A' : Option Addr) (c' : Nat), j ≤ 4 ∧ i = .int .i64 j ∧ wr.ownsRow (g6 + 1) 2 1 (.slice A' j c') j ((([wrap64 c0, wrap64 c1, wrap64 c2, wrap64 c3].take j)).map (Value.int .i64)) ∧ Bk wr g6 37 (cmA 4 0 A' j c') ∧ Below wd.heap.size wd wr) (fun i _ => 4 - (intOf i).toNat)
          case atStart => exact ⟨0, none, 0, by omega, rfl, hown0, hK6, hb6⟩
          case round =>
            clear hown0 hK6 hb6 hz6
            obtain ⟨j, A', c', hj, rfl, hown, kr, hbr⟩ := hrel
            have hrz := kr.lt
            rcases (show j = 0 ∨ j = 1 ∨ j = 2 ∨ j = 3 ∨ j = 4 by omega) with rfl | rfl | rfl | rfl | rfl
            · have zz := (hbr.cell (p := ⟨w.heap.size, 7, none⟩) hw6).trans y7
              obtain ⟨v9, w9, hap, hown9, hg9⟩ := i64_app wr.drew (g6 + 1) 0 _ _ (IntKind.i64.wrap c0) hown (by show g6 + 1 ≤ wr.heap.size; omega) (by omega)
              obtain ⟨A9, c9, rfl, _⟩ := own_form hown9
              have hbA : Below wd.heap.size wd (wr.drew.alloc (.cells #[.int .i64 (IntKind.i64.wrap c0)] 2)) := (hbr.drew).alloc (by show wd.heap.size ≤ wr.heap.size; omega) _
              have hb9 : Below wd.heap.size wd w9 := hbA.grown hg9 (by have := hbA.size; omega) (fun b hb => by have := own_ge hown b hb; omega)
              have kA : Bk (wr.drew.alloc (.cells #[.int .i64 (IntKind.i64.wrap c0)] 2)) g6 37 _ := (kr.drew).alloc _
              have k9 : Bk w9 g6 37 _ := gb_far kA hg9 (fun b hb e => by have := own_ge hown b hb; omega)
              have er2 := kr.cell3.2.2
              have ewc : IntKind.i64.wrap c0 = wrap64 c0 := IntWalk.i64_left c0
              have e92 := k9.cell3.2.2
              have f92 := k9.frozen 2
              have eA2 := kA.cell3.2.2
              have hAS := (hbA.cell (p := ⟨w.heap.size, 7, none⟩) hw6).trans y7
              have h9S := (hb9.cell (p := ⟨w.heap.size, 7, none⟩) hw6).trans y7
              have hzS : (fun w'' : World => w''.cell? ⟨w.heap.size, 7, none⟩ = some (.int .u8 c0)) (w9.setCell ⟨g6, 2, none⟩ (.slice A9 (0 + 1) c9)) := (World.cell?_setCell_other w9 ⟨g6, 2, none⟩ ⟨w.heap.size, 7, none⟩ _ (fun e => by injection e with e; omega)).trans h9S
              have kS := k9.set 2 (.slice A9 (0 + 1) c9)
              have ho9 := own_far hown9 ⟨g6, 2, none⟩ (.slice A9 (0 + 1) c9) (fun b hb e => by have := own_ge hown9 b hb; simp at e; omega)
              have hbS := hb9.setCell (p := ⟨g6, 2, none⟩) (by show wd.heap.size ≤ g6; omega) (.slice A9 (0 + 1) c9)
              simp only [List.setIfInBounds_toArray, List.set_cons_zero, List.set_cons_succ] at kS
              rw [ewc] at ho9
              clear ewc
              clear hbr hown kr kA k9 hown9 hg9 hb9
              go_upto_region 14 with fail
              refine wp_region_held_drew (S := (fun w'' : World => w''.cell? ⟨w.heap.size, 7, none⟩ = some (.int .u8 c0))) (by kernel_rfl) zz (fun hHeld => ?_)
              refine wpAnyH_take (i := 0) (v := ?_) rfl (by kernel_rfl) (by kernel_rfl) (by kernel_rfl) (fun _ _ _ h => h) (Or.inl ⟨by rfl, ?_⟩) (by assumption) ?_
              rotate_left
              · (intro w hSw; (try dsimp only at hSw); go_simp; try with_reducible rfl)
              refine wpAnyH_take (i := 2) (v := ?_) rfl (by kernel_rfl) (by kernel_rfl) (by kernel_rfl) (fun _ _ _ h => h) (Or.inl ⟨by rfl, ?_⟩) (by assumption) ?_
              rotate_left
              · (intro w hSw; (try dsimp only at hSw); go_simp; try with_reducible rfl)
              refine wpAnyH_take (i := 3) (v := ?_) rfl (by kernel_rfl) (by kernel_rfl) (by kernel_rfl) (fun _ _ _ h => h) (Or.inl ⟨by rfl, ?_⟩) (by assumption) ?_
              rotate_left
              · (intro w hSw; (try dsimp only at hSw); go_simp; try with_reducible rfl)
              refine wpAnyH_take (i := 4) (v := ?_) rfl (by kernel_rfl) (by kernel_rfl) (by kernel_rfl) (fun _ _ _ h => h) (Or.inl ⟨by rfl, ?_⟩) (by assumption) ?_
              rotate_left
              · (intro w hSw; (try dsimp only at hSw); go_simp; try with_reducible rfl)
              refine wpAnyH_take (i := 5) (v := ?_) rfl (by kernel_rfl) (by kernel_rfl) (by kernel_rfl) (fun _ _ _ h => h) (Or.inl ⟨by rfl, ?_⟩) (by assumption) ?_
              rotate_left
              · (intro w hSw; (try dsimp only at hSw); go_simp; try with_reducible rfl)
              refine wpAnyH_take (i := 6) (v := ?_) rfl (by kernel_rfl) (by kernel_rfl) (by kernel_rfl) (fun _ _ _ h => h) (Or.inl ⟨by rfl, ?_⟩) (by assumption) ?_
              rotate_left
              · (intro w hSw; (try dsimp only at hSw); go_simp; try with_reducible rfl)
              refine wpAnyH_take (i := 7) (v := ?_) rfl (by kernel_rfl) (by kernel_rfl) (by kernel_rfl) (fun _ _ _ h => h) (Or.inl ⟨by rfl, ?_⟩) (by assumption) ?_
              rotate_left
              · (intro w hSw; (try dsimp only at hSw); go_simp; try with_reducible rfl)
              refine wpAnyH_ready (rs := [1, 8]) (by kernel_rfl) (by simp) ?_
              refine AllReadyH.cons rfl (fun K hK => ?_) (AllReadyH.cons rfl (fun K hK => ?_) AllReadyH.nil)
              · go_simp
                refine hK.out _ _ hHeld (fun hHeld => ?_)
                clear hK K
                refine wpAnyH_ready (rs := [8]) (by kernel_rfl) (by simp) ?_
                refine AllReadyH.cons rfl (fun K hK => ?_) AllReadyH.nil
                go_simp
                refine hK.out _ _ hAS (fun hHeld => ?_)
                clear hK K
                refine wpAnyH_ready (rs := [9]) (by kernel_rfl) (by simp) ?_
                refine AllReadyH.cons rfl (fun K hK => ?_) AllReadyH.nil
                rw [if_pos (by kernel_rfl)]
                refine wp_append_run51 (v := .slice A' 0 c') _ _ _ rfl rfl rfl hap ?_
                go_simp
                refine hK.out _ _ h9S (fun hHeld => ?_)
                clear hK K
                refine wpAnyH_take (i := 10) (v := ?_) rfl (by kernel_rfl) (by kernel_rfl) (by kernel_rfl) (fun _ _ _ h => h) (Or.inl ⟨by rfl, ?_⟩) (by assumption) ?_
                rotate_left
                · (intro w hSw; (try dsimp only at hSw); go_simp; try with_reducible rfl)
                refine wpAnyH_ready (rs := [11]) (by kernel_rfl) (by simp) ?_
                refine AllReadyH.cons rfl (fun K hK => ?_) AllReadyH.nil
                go_simp
                refine hK.out _ _ hzS (fun hHeld => ?_)
                clear hK K
                refine wpAnyH_done (by kernel_rfl) ?_ _
                go_wp2_with fail
                exact ⟨⟨0 + 1, by omega, by go_num, A9, c9, ho9, kS⟩, by simp [intOf]⟩
              · go_simp
                refine hK.out _ _ hAS (fun hHeld => ?_)
                clear hK K
                refine wpAnyH_ready (rs := [1]) (by kernel_rfl) (by simp) ?_
                refine AllReadyH.cons rfl (fun K hK => ?_) AllReadyH.nil
                go_simp
                refine hK.out _ _ hAS (fun hHeld => ?_)
                clear hK K
                refine wpAnyH_ready (rs := [9]) (by kernel_rfl) (by simp) ?_
                refine AllReadyH.cons rfl (fun K hK => ?_) AllReadyH.nil
                rw [if_pos (by kernel_rfl)]
                refine wp_append_run51 (v := .slice A' 0 c') _ _ _ rfl rfl rfl hap ?_
                go_simp
                refine hK.out _ _ h9S (fun hHeld => ?_)
                clear hK K
                refine wpAnyH_take (i := 10) (v := ?_) rfl (by kernel_rfl) (by kernel_rfl) (by kernel_rfl) (fun _ _ _ h => h) (Or.inl ⟨by rfl, ?_⟩) (by assumption) ?_
                rotate_left
                · (intro w hSw; (try dsimp only at hSw); go_simp; try with_reducible rfl)
                refine wpAnyH_ready (rs := [11]) (by kernel_rfl) (by simp) ?_
                refine AllReadyH.cons rfl (fun K hK => ?_) AllReadyH.nil
                go_simp
                refine hK.out _ _ hzS (fun hHeld => ?_)
                clear hK K
                refine wpAnyH_done (by kernel_rfl) ?_ _
                go_wp2_with fail
                exact ⟨⟨0 + 1, by omega, by go_num, A9, c9, ho9, kS⟩, by simp [intOf]⟩
            · have zz := (hbr.cell (p := ⟨w.heap.size, 8, none⟩) hw6).trans y8
              obtain ⟨v9, w9, hap, hown9, hg9⟩ := i64_app wr.drew (g6 + 1) 1 _ _ (IntKind.i64.wrap c1) hown (by show g6 + 1 ≤ wr.heap.size; omega) (by omega)
              obtain ⟨A9, c9, rfl, _⟩ := own_form hown9
              have hbA : Below wd.heap.size wd (wr.drew.alloc (.cells #[.int .i64 (IntKind.i64.wrap c1)] 2)) := (hbr.drew).alloc (by show wd.heap.size ≤ wr.heap.size; omega) _
              have hb9 : Below wd.heap.size wd w9 := hbA.grown hg9 (by have := hbA.size; omega) (fun b hb => by have := own_ge hown b hb; omega)
              have kA : Bk (wr.drew.alloc (.cells #[.int .i64 (IntKind.i64.wrap c1)] 2)) g6 37 _ := (kr.drew).alloc _
              have k9 : Bk w9 g6 37 _ := gb_far kA hg9 (fun b hb e => by have := own_ge hown b hb; omega)
              have er2 := kr.cell3.2.2
              have ewc : IntKind.i64.wrap c1 = wrap64 c1 := IntWalk.i64_left c1
              have e92 := k9.cell3.2.2
              have f92 := k9.frozen 2
              have eA2 := kA.cell3.2.2
              have hAS := (hbA.cell (p := ⟨w.heap.size, 8, none⟩) hw6).trans y8
              have h9S := (hb9.cell (p := ⟨w.heap.size, 8, none⟩) hw6).trans y8
              have hzS : (fun w'' : World => w''.cell? ⟨w.heap.size, 8, none⟩ = some (.int .u8 c1)) (w9.setCell ⟨g6, 2, none⟩ (.slice A9 (1 + 1) c9)) := (World.cell?_setCell_other w9 ⟨g6, 2, none⟩ ⟨w.heap.size, 8, none⟩ _ (fun e => by injection e with e; omega)).trans h9S
              have kS := k9.set 2 (.slice A9 (1 + 1) c9)
              have ho9 := own_far hown9 ⟨g6, 2, none⟩ (.slice A9 (1 + 1) c9) (fun b hb e => by have := own_ge hown9 b hb; simp at e; omega)
              have hbS := hb9.setCell (p := ⟨g6, 2, none⟩) (by show wd.heap.size ≤ g6; omega) (.slice A9 (1 + 1) c9)
              simp only [List.setIfInBounds_toArray, List.set_cons_zero, List.set_cons_succ] at kS
              rw [ewc] at ho9
              clear ewc
              clear hbr hown kr kA k9 hown9 hg9 hb9
              go_upto_region 14 with fail
              refine wp_region_held_drew (S := (fun w'' : World => w''.cell? ⟨w.heap.size, 8, none⟩ = some (.int .u8 c1))) (by kernel_rfl) zz (fun hHeld => ?_)
              refine wpAnyH_take (i := 0) (v := ?_) rfl (by kernel_rfl) (by kernel_rfl) (by kernel_rfl) (fun _ _ _ h => h) (Or.inl ⟨by rfl, ?_⟩) (by assumption) ?_
              rotate_left
              · (intro w hSw; (try dsimp only at hSw); go_simp; try with_reducible rfl)
              refine wpAnyH_take (i := 2) (v := ?_) rfl (by kernel_rfl) (by kernel_rfl) (by kernel_rfl) (fun _ _ _ h => h) (Or.inl ⟨by rfl, ?_⟩) (by assumption) ?_
              rotate_left
              · (intro w hSw; (try dsimp only at hSw); go_simp; try with_reducible rfl)
              refine wpAnyH_take (i := 3) (v := ?_) rfl (by kernel_rfl) (by kernel_rfl) (by kernel_rfl) (fun _ _ _ h => h) (Or.inl ⟨by rfl, ?_⟩) (by assumption) ?_
              rotate_left
              · (intro w hSw; (try dsimp only at hSw); go_simp; try with_reducible rfl)
              refine wpAnyH_take (i := 4) (v := ?_) rfl (by kernel_rfl) (by kernel_rfl) (by kernel_rfl) (fun _ _ _ h => h) (Or.inl ⟨by rfl, ?_⟩) (by assumption) ?_
              rotate_left
              · (intro w hSw; (try dsimp only at hSw); go_simp; try with_reducible rfl)
              refine wpAnyH_take (i := 5) (v := ?_) rfl (by kernel_rfl) (by kernel_rfl) (by kernel_rfl) (fun _ _ _ h => h) (Or.inl ⟨by rfl, ?_⟩) (by assumption) ?_
              rotate_left
              · (intro w hSw; (try dsimp only at hSw); go_simp; try with_reducible rfl)
              refine wpAnyH_take (i := 6) (v := ?_) rfl (by kernel_rfl) (by kernel_rfl) (by kernel_rfl) (fun _ _ _ h => h) (Or.inl ⟨by rfl, ?_⟩) (by assumption) ?_
              rotate_left
              · (intro w hSw; (try dsimp only at hSw); go_simp; try with_reducible rfl)
              refine wpAnyH_take (i := 7) (v := ?_) rfl (by kernel_rfl) (by kernel_rfl) (by kernel_rfl) (fun _ _ _ h => h) (Or.inl ⟨by rfl, ?_⟩) (by assumption) ?_
              rotate_left
              · (intro w hSw; (try dsimp only at hSw); go_simp; try with_reducible rfl)
              refine wpAnyH_ready (rs := [1, 8]) (by kernel_rfl) (by simp) ?_
              refine AllReadyH.cons rfl (fun K hK => ?_) (AllReadyH.cons rfl (fun K hK => ?_) AllReadyH.nil)
              · go_simp
                refine hK.out _ _ hHeld (fun hHeld => ?_)
                clear hK K
                refine wpAnyH_ready (rs := [8]) (by kernel_rfl) (by simp) ?_
                refine AllReadyH.cons rfl (fun K hK => ?_) AllReadyH.nil
                go_simp
                refine hK.out _ _ hAS (fun hHeld => ?_)
                clear hK K
                refine wpAnyH_ready (rs := [9]) (by kernel_rfl) (by simp) ?_
                refine AllReadyH.cons rfl (fun K hK => ?_) AllReadyH.nil
                rw [if_pos (by kernel_rfl)]
                refine wp_append_run51 (v := .slice A' 1 c') _ _ _ rfl rfl rfl hap ?_
                go_simp
                refine hK.out _ _ h9S (fun hHeld => ?_)
                clear hK K
                refine wpAnyH_take (i := 10) (v := ?_) rfl (by kernel_rfl) (by kernel_rfl) (by kernel_rfl) (fun _ _ _ h => h) (Or.inl ⟨by rfl, ?_⟩) (by assumption) ?_
                rotate_left
                · (intro w hSw; (try dsimp only at hSw); go_simp; try with_reducible rfl)
                refine wpAnyH_ready (rs := [11]) (by kernel_rfl) (by simp) ?_
                refine AllReadyH.cons rfl (fun K hK => ?_) AllReadyH.nil
                go_simp
                refine hK.out _ _ hzS (fun hHeld => ?_)
                clear hK K
                refine wpAnyH_done (by kernel_rfl) ?_ _
                go_wp2_with fail
                exact ⟨⟨1 + 1, by omega, by go_num, A9, c9, ho9, kS⟩, by simp [intOf]⟩
              · go_simp
                refine hK.out _ _ hAS (fun hHeld => ?_)
                clear hK K
                refine wpAnyH_ready (rs := [1]) (by kernel_rfl) (by simp) ?_
                refine AllReadyH.cons rfl (fun K hK => ?_) AllReadyH.nil
                go_simp
                refine hK.out _ _ hAS (fun hHeld => ?_)
                clear hK K
                refine wpAnyH_ready (rs := [9]) (by kernel_rfl) (by simp) ?_
                refine AllReadyH.cons rfl (fun K hK => ?_) AllReadyH.nil
                rw [if_pos (by kernel_rfl)]
                refine wp_append_run51 (v := .slice A' 1 c') _ _ _ rfl rfl rfl hap ?_
                go_simp
                refine hK.out _ _ h9S (fun hHeld => ?_)
                clear hK K
                refine wpAnyH_take (i := 10) (v := ?_) rfl (by kernel_rfl) (by kernel_rfl) (by kernel_rfl) (fun _ _ _ h => h) (Or.inl ⟨by rfl, ?_⟩) (by assumption) ?_
                rotate_left
                · (intro w hSw; (try dsimp only at hSw); go_simp; try with_reducible rfl)
                refine wpAnyH_ready (rs := [11]) (by kernel_rfl) (by simp) ?_
                refine AllReadyH.cons rfl (fun K hK => ?_) AllReadyH.nil
                go_simp
                refine hK.out _ _ hzS (fun hHeld => ?_)
                clear hK K
                refine wpAnyH_done (by kernel_rfl) ?_ _
                go_wp2_with fail
                exact ⟨⟨1 + 1, by omega, by go_num, A9, c9, ho9, kS⟩, by simp [intOf]⟩
            · have zz := (hbr.cell (p := ⟨w.heap.size, 9, none⟩) hw6).trans y9
              obtain ⟨v9, w9, hap, hown9, hg9⟩ := i64_app wr.drew (g6 + 1) 2 _ _ (IntKind.i64.wrap c2) hown (by show g6 + 1 ≤ wr.heap.size; omega) (by omega)
              obtain ⟨A9, c9, rfl, _⟩ := own_form hown9
              have hbA : Below wd.heap.size wd (wr.drew.alloc (.cells #[.int .i64 (IntKind.i64.wrap c2)] 2)) := (hbr.drew).alloc (by show wd.heap.size ≤ wr.heap.size; omega) _
              have hb9 : Below wd.heap.size wd w9 := hbA.grown hg9 (by have := hbA.size; omega) (fun b hb => by have := own_ge hown b hb; omega)
              have kA : Bk (wr.drew.alloc (.cells #[.int .i64 (IntKind.i64.wrap c2)] 2)) g6 37 _ := (kr.drew).alloc _
              have k9 : Bk w9 g6 37 _ := gb_far kA hg9 (fun b hb e => by have := own_ge hown b hb; omega)
              have er2 := kr.cell3.2.2
              have ewc : IntKind.i64.wrap c2 = wrap64 c2 := IntWalk.i64_left c2
              have e92 := k9.cell3.2.2
              have f92 := k9.frozen 2
              have eA2 := kA.cell3.2.2
              have hAS := (hbA.cell (p := ⟨w.heap.size, 9, none⟩) hw6).trans y9
              have h9S := (hb9.cell (p := ⟨w.heap.size, 9, none⟩) hw6).trans y9
              have hzS : (fun w'' : World => w''.cell? ⟨w.heap.size, 9, none⟩ = some (.int .u8 c2)) (w9.setCell ⟨g6, 2, none⟩ (.slice A9 (2 + 1) c9)) := (World.cell?_setCell_other w9 ⟨g6, 2, none⟩ ⟨w.heap.size, 9, none⟩ _ (fun e => by injection e with e; omega)).trans h9S
              have kS := k9.set 2 (.slice A9 (2 + 1) c9)
              have ho9 := own_far hown9 ⟨g6, 2, none⟩ (.slice A9 (2 + 1) c9) (fun b hb e => by have := own_ge hown9 b hb; simp at e; omega)
              have hbS := hb9.setCell (p := ⟨g6, 2, none⟩) (by show wd.heap.size ≤ g6; omega) (.slice A9 (2 + 1) c9)
              simp only [List.setIfInBounds_toArray, List.set_cons_zero, List.set_cons_succ] at kS
              rw [ewc] at ho9
              clear ewc
              clear hbr hown kr kA k9 hown9 hg9 hb9
              go_upto_region 14 with fail
              refine wp_region_held_drew (S := (fun w'' : World => w''.cell? ⟨w.heap.size, 9, none⟩ = some (.int .u8 c2))) (by kernel_rfl) zz (fun hHeld => ?_)
              refine wpAnyH_take (i := 0) (v := ?_) rfl (by kernel_rfl) (by kernel_rfl) (by kernel_rfl) (fun _ _ _ h => h) (Or.inl ⟨by rfl, ?_⟩) (by assumption) ?_
              rotate_left
              · (intro w hSw; (try dsimp only at hSw); go_simp; try with_reducible rfl)
              refine wpAnyH_take (i := 2) (v := ?_) rfl (by kernel_rfl) (by kernel_rfl) (by kernel_rfl) (fun _ _ _ h => h) (Or.inl ⟨by rfl, ?_⟩) (by assumption) ?_
              rotate_left
              · (intro w hSw; (try dsimp only at hSw); go_simp; try with_reducible rfl)
              refine wpAnyH_take (i := 3) (v := ?_) rfl (by kernel_rfl) (by kernel_rfl) (by kernel_rfl) (fun _ _ _ h => h) (Or.inl ⟨by rfl, ?_⟩) (by assumption) ?_
              rotate_left
              · (intro w hSw; (try dsimp only at hSw); go_simp; try with_reducible rfl)
              refine wpAnyH_take (i := 4) (v := ?_) rfl (by kernel_rfl) (by kernel_rfl) (by kernel_rfl) (fun _ _ _ h => h) (Or.inl ⟨by rfl, ?_⟩) (by assumption) ?_
              rotate_left
              · (intro w hSw; (try dsimp only at hSw); go_simp; try with_reducible rfl)
              refine wpAnyH_take (i := 5) (v := ?_) rfl (by kernel_rfl) (by kernel_rfl) (by kernel_rfl) (fun _ _ _ h => h) (Or.inl ⟨by rfl, ?_⟩) (by assumption) ?_
              rotate_left
              · (intro w hSw; (try dsimp only at hSw); go_simp; try with_reducible rfl)
              refine wpAnyH_take (i := 6) (v := ?_) rfl (by kernel_rfl) (by kernel_rfl) (by kernel_rfl) (fun _ _ _ h => h) (Or.inl ⟨by rfl, ?_⟩) (by assumption) ?_
              rotate_left
              · (intro w hSw; (try dsimp only at hSw); go_simp; try with_reducible rfl)
              refine wpAnyH_take (i := 7) (v := ?_) rfl (by kernel_rfl) (by kernel_rfl) (by kernel_rfl) (fun _ _ _ h => h) (Or.inl ⟨by rfl, ?_⟩) (by assumption) ?_
              rotate_left
              · (intro w hSw; (try dsimp only at hSw); go_simp; try with_reducible rfl)
              refine wpAnyH_ready (rs := [1, 8]) (by kernel_rfl) (by simp) ?_
              refine AllReadyH.cons rfl (fun K hK => ?_) (AllReadyH.cons rfl (fun K hK => ?_) AllReadyH.nil)
              · go_simp
                refine hK.out _ _ hHeld (fun hHeld => ?_)
                clear hK K
                refine wpAnyH_ready (rs := [8]) (by kernel_rfl) (by simp) ?_
                refine AllReadyH.cons rfl (fun K hK => ?_) AllReadyH.nil
                go_simp
                refine hK.out _ _ hAS (fun hHeld => ?_)
                clear hK K
                refine wpAnyH_ready (rs := [9]) (by kernel_rfl) (by simp) ?_
                refine AllReadyH.cons rfl (fun K hK => ?_) AllReadyH.nil
                rw [if_pos (by kernel_rfl)]
                refine wp_append_run51 (v := .slice A' 2 c') _ _ _ rfl rfl rfl hap ?_
                go_simp
                refine hK.out _ _ h9S (fun hHeld => ?_)
                clear hK K
                refine wpAnyH_take (i := 10) (v := ?_) rfl (by kernel_rfl) (by kernel_rfl) (by kernel_rfl) (fun _ _ _ h => h) (Or.inl ⟨by rfl, ?_⟩) (by assumption) ?_
                rotate_left
                · (intro w hSw; (try dsimp only at hSw); go_simp; try with_reducible rfl)
                refine wpAnyH_ready (rs := [11]) (by kernel_rfl) (by simp) ?_
                refine AllReadyH.cons rfl (fun K hK => ?_) AllReadyH.nil
                go_simp
                refine hK.out _ _ hzS (fun hHeld => ?_)
                clear hK K
                refine wpAnyH_done (by kernel_rfl) ?_ _
                go_wp2_with fail
                exact ⟨⟨2 + 1, by omega, by go_num, A9, c9, ho9, kS⟩, by simp [intOf]⟩
              · go_simp
                refine hK.out _ _ hAS (fun hHeld => ?_)
                clear hK K
                refine wpAnyH_ready (rs := [1]) (by kernel_rfl) (by simp) ?_
                refine AllReadyH.cons rfl (fun K hK => ?_) AllReadyH.nil
                go_simp
                refine hK.out _ _ hAS (fun hHeld => ?_)
                clear hK K
                refine wpAnyH_ready (rs := [9]) (by kernel_rfl) (by simp) ?_
                refine AllReadyH.cons rfl (fun K hK => ?_) AllReadyH.nil
                rw [if_pos (by kernel_rfl)]
                refine wp_append_run51 (v := .slice A' 2 c') _ _ _ rfl rfl rfl hap ?_
                go_simp
                refine hK.out _ _ h9S (fun hHeld => ?_)
                clear hK K
                refine wpAnyH_take (i := 10) (v := ?_) rfl (by kernel_rfl) (by kernel_rfl) (by kernel_rfl) (fun _ _ _ h => h) (Or.inl ⟨by rfl, ?_⟩) (by assumption) ?_
                rotate_left
                · (intro w hSw; (try dsimp only at hSw); go_simp; try with_reducible rfl)
                refine wpAnyH_ready (rs := [11]) (by kernel_rfl) (by simp) ?_
                refine AllReadyH.cons rfl (fun K hK => ?_) AllReadyH.nil
                go_simp
                refine hK.out _ _ hzS (fun hHeld => ?_)
                clear hK K
                refine wpAnyH_done (by kernel_rfl) ?_ _
                go_wp2_with fail
                exact ⟨⟨2 + 1, by omega, by go_num, A9, c9, ho9, kS⟩, by simp [intOf]⟩
            · have zz := (hbr.cell (p := ⟨w.heap.size, 10, none⟩) hw6).trans y10
              obtain ⟨v9, w9, hap, hown9, hg9⟩ := i64_app wr.drew (g6 + 1) 3 _ _ (IntKind.i64.wrap c3) hown (by show g6 + 1 ≤ wr.heap.size; omega) (by omega)
              obtain ⟨A9, c9, rfl, _⟩ := own_form hown9
              have hbA : Below wd.heap.size wd (wr.drew.alloc (.cells #[.int .i64 (IntKind.i64.wrap c3)] 2)) := (hbr.drew).alloc (by show wd.heap.size ≤ wr.heap.size; omega) _
              have hb9 : Below wd.heap.size wd w9 := hbA.grown hg9 (by have := hbA.size; omega) (fun b hb => by have := own_ge hown b hb; omega)
              have kA : Bk (wr.drew.alloc (.cells #[.int .i64 (IntKind.i64.wrap c3)] 2)) g6 37 _ := (kr.drew).alloc _
              have k9 : Bk w9 g6 37 _ := gb_far kA hg9 (fun b hb e => by have := own_ge hown b hb; omega)
              have er2 := kr.cell3.2.2
              have ewc : IntKind.i64.wrap c3 = wrap64 c3 := IntWalk.i64_left c3
              have e92 := k9.cell3.2.2
              have f92 := k9.frozen 2
              have eA2 := kA.cell3.2.2
              have hAS := (hbA.cell (p := ⟨w.heap.size, 10, none⟩) hw6).trans y10
              have h9S := (hb9.cell (p := ⟨w.heap.size, 10, none⟩) hw6).trans y10
              have hzS : (fun w'' : World => w''.cell? ⟨w.heap.size, 10, none⟩ = some (.int .u8 c3)) (w9.setCell ⟨g6, 2, none⟩ (.slice A9 (3 + 1) c9)) := (World.cell?_setCell_other w9 ⟨g6, 2, none⟩ ⟨w.heap.size, 10, none⟩ _ (fun e => by injection e with e; omega)).trans h9S
              have kS := k9.set 2 (.slice A9 (3 + 1) c9)
              have ho9 := own_far hown9 ⟨g6, 2, none⟩ (.slice A9 (3 + 1) c9) (fun b hb e => by have := own_ge hown9 b hb; simp at e; omega)
              have hbS := hb9.setCell (p := ⟨g6, 2, none⟩) (by show wd.heap.size ≤ g6; omega) (.slice A9 (3 + 1) c9)
              simp only [List.setIfInBounds_toArray, List.set_cons_zero, List.set_cons_succ] at kS
              rw [ewc] at ho9
              clear ewc
              clear hbr hown kr kA k9 hown9 hg9 hb9
              go_upto_region 14 with fail
              refine wp_region_held_drew (S := (fun w'' : World => w''.cell? ⟨w.heap.size, 10, none⟩ = some (.int .u8 c3))) (by kernel_rfl) zz (fun hHeld => ?_)
              refine wpAnyH_take (i := 0) (v := ?_) rfl (by kernel_rfl) (by kernel_rfl) (by kernel_rfl) (fun _ _ _ h => h) (Or.inl ⟨by rfl, ?_⟩) (by assumption) ?_
              rotate_left
              · (intro w hSw; (try dsimp only at hSw); go_simp; try with_reducible rfl)
              refine wpAnyH_take (i := 2) (v := ?_) rfl (by kernel_rfl) (by kernel_rfl) (by kernel_rfl) (fun _ _ _ h => h) (Or.inl ⟨by rfl, ?_⟩) (by assumption) ?_
              rotate_left
              · (intro w hSw; (try dsimp only at hSw); go_simp; try with_reducible rfl)
              refine wpAnyH_take (i := 3) (v := ?_) rfl (by kernel_rfl) (by kernel_rfl) (by kernel_rfl) (fun _ _ _ h => h) (Or.inl ⟨by rfl, ?_⟩) (by assumption) ?_
              rotate_left
              · (intro w hSw; (try dsimp only at hSw); go_simp; try with_reducible rfl)
              refine wpAnyH_take (i := 4) (v := ?_) rfl (by kernel_rfl) (by kernel_rfl) (by kernel_rfl) (fun _ _ _ h => h) (Or.inl ⟨by rfl, ?_⟩) (by assumption) ?_
              rotate_left
              · (intro w hSw; (try dsimp only at hSw); go_simp; try with_reducible rfl)
              refine wpAnyH_take (i := 5) (v := ?_) rfl (by kernel_rfl) (by kernel_rfl) (by kernel_rfl) (fun _ _ _ h => h) (Or.inl ⟨by rfl, ?_⟩) (by assumption) ?_
              rotate_left
              · (intro w hSw; (try dsimp only at hSw); go_simp; try with_reducible rfl)
              refine wpAnyH_take (i := 6) (v := ?_) rfl (by kernel_rfl) (by kernel_rfl) (by kernel_rfl) (fun _ _ _ h => h) (Or.inl ⟨by rfl, ?_⟩) (by assumption) ?_
              rotate_left
              · (intro w hSw; (try dsimp only at hSw); go_simp; try with_reducible rfl)
              refine wpAnyH_take (i := 7) (v := ?_) rfl (by kernel_rfl) (by kernel_rfl) (by kernel_rfl) (fun _ _ _ h => h) (Or.inl ⟨by rfl, ?_⟩) (by assumption) ?_
              rotate_left
              · (intro w hSw; (try dsimp only at hSw); go_simp; try with_reducible rfl)
              refine wpAnyH_ready (rs := [1, 8]) (by kernel_rfl) (by simp) ?_
              refine AllReadyH.cons rfl (fun K hK => ?_) (AllReadyH.cons rfl (fun K hK => ?_) AllReadyH.nil)
              · go_simp
                refine hK.out _ _ hHeld (fun hHeld => ?_)
                clear hK K
                refine wpAnyH_ready (rs := [8]) (by kernel_rfl) (by simp) ?_
                refine AllReadyH.cons rfl (fun K hK => ?_) AllReadyH.nil
                go_simp
                refine hK.out _ _ hAS (fun hHeld => ?_)
                clear hK K
                refine wpAnyH_ready (rs := [9]) (by kernel_rfl) (by simp) ?_
                refine AllReadyH.cons rfl (fun K hK => ?_) AllReadyH.nil
                rw [if_pos (by kernel_rfl)]
                refine wp_append_run51 (v := .slice A' 3 c') _ _ _ rfl rfl rfl hap ?_
                go_simp
                refine hK.out _ _ h9S (fun hHeld => ?_)
                clear hK K
                refine wpAnyH_take (i := 10) (v := ?_) rfl (by kernel_rfl) (by kernel_rfl) (by kernel_rfl) (fun _ _ _ h => h) (Or.inl ⟨by rfl, ?_⟩) (by assumption) ?_
                rotate_left
                · (intro w hSw; (try dsimp only at hSw); go_simp; try with_reducible rfl)
                refine wpAnyH_ready (rs := [11]) (by kernel_rfl) (by simp) ?_
                refine AllReadyH.cons rfl (fun K hK => ?_) AllReadyH.nil
                go_simp
                refine hK.out _ _ hzS (fun hHeld => ?_)
                clear hK K
                refine wpAnyH_done (by kernel_rfl) ?_ _
                go_wp2_with fail
                exact ⟨⟨3 + 1, by omega, by go_num, A9, c9, ho9, kS⟩, by simp [intOf]⟩
              · go_simp
                refine hK.out _ _ hAS (fun hHeld => ?_)
                clear hK K
                refine wpAnyH_ready (rs := [1]) (by kernel_rfl) (by simp) ?_
                refine AllReadyH.cons rfl (fun K hK => ?_) AllReadyH.nil
                go_simp
                refine hK.out _ _ hAS (fun hHeld => ?_)
                clear hK K
                refine wpAnyH_ready (rs := [9]) (by kernel_rfl) (by simp) ?_
                refine AllReadyH.cons rfl (fun K hK => ?_) AllReadyH.nil
                rw [if_pos (by kernel_rfl)]
                refine wp_append_run51 (v := .slice A' 3 c') _ _ _ rfl rfl rfl hap ?_
                go_simp
                refine hK.out _ _ h9S (fun hHeld => ?_)
                clear hK K
                refine wpAnyH_take (i := 10) (v := ?_) rfl (by kernel_rfl) (by kernel_rfl) (by kernel_rfl) (fun _ _ _ h => h) (Or.inl ⟨by rfl, ?_⟩) (by assumption) ?_
                rotate_left
                · (intro w hSw; (try dsimp only at hSw); go_simp; try with_reducible rfl)
                refine wpAnyH_ready (rs := [11]) (by kernel_rfl) (by simp) ?_
                refine AllReadyH.cons rfl (fun K hK => ?_) AllReadyH.nil
                go_simp
                refine hK.out _ _ hzS (fun hHeld => ?_)
                clear hK K
                refine wpAnyH_done (by kernel_rfl) ?_ _
                go_wp2_with fail
                exact ⟨⟨3 + 1, by omega, by go_num, A9, c9, ho9, kS⟩, by simp [intOf]⟩
            · go_wp2_with fail
              go_meet
              obtain ⟨A9, c9, e9, _, _, hA9, _⟩ := own_form hown
              injection e9 with e9 _ e8
              subst e9 e8
              exact ⟨A', c', rfl, kr, hA9, hbr⟩
        · have hb : (mo == 0) = false := by simp [h3]
          have HK : Hid (bL mo c0 c1 c2 c3 = []) := by show _ = _; unfold bL; rw [if_neg h3]
          clear h3
          go_wp2_with fail
          go_meet
          exact ⟨none, 0, rfl, by rw [HK.out]; exact hK6, by rw [HK.out]; exact fun i hi => absurd hi (by simp), hb6⟩
      case rest =>
        obtain ⟨B2, d2, rfl, hK7, q2, hb7⟩ := hcut
        have hK5' := hK5.nx hb7
        have hbz := hb5.trans (hb7.mono hb5.size)
        have hL9 := hL2.nx hbz
        have kx : Bk wc w.heap.size 29 (wrA k A sn cp W H kn n mo c0 c1 c2 c3 mi) := hL9.k 0 (by simp)
        have v0 := (kx.cell 0).trans (show _ = some (.int .i64 k) from rfl)
        have v1 := (kx.cell 1).trans (show _ = some (.slice A sn cp) from rfl)
        have v2 := (kx.cell 2).trans (show _ = some (.int .i64 W) from rfl)
        have v3 := (kx.cell 3).trans (show _ = some (.int .i64 H) from rfl)
        have v11 := (kx.cell 11).trans (show _ = some (.int .i64 mi) from rfl)
        have hzw := kx.lt
        go_upto_region 18 with (first
          | (refine ldB rfl _ _ rfl hK5' rfl Tryz.underlying37 rfl cr50_size ?_)
          | (refine ldB rfl _ _ rfl hK7 rfl Tryz.underlying37 rfl cr50_size ?_))
        obtain ⟨G, hG⟩ : ∃ G, wc.heap.size = G := ⟨_, rfl⟩
        simp only [hG]
        have hX : Lie wc [(G + 1 + 1, 37, #[.int .i64 3, .int .i64 kn, .slice B1 (kL kn n).length (kL kn n).length, .int .i64 4, .int .i64 mo, .slice B2 (bL mo c0 c1 c2 c3).length d2, .int .i64 5, .int .i64 0, .slice (some ⟨G, 0, none⟩) 1 1, .int .i64 2, .int .i64 0, .slice (some ⟨G + 1, 0, none⟩) 2 2, .int .i64 9, .int .i64 k, .slice A sn cp]), (G + 1, 2, #[.int .i64 W, .int .i64 H]), (G, 2, #[.int .i64 mi])] (((wc.alloc (.cells #[.int .i64 mi] 2)).alloc (.cells #[.int .i64 W, .int .i64 H] 2)).alloc (.cells #[.int .i64 3, .int .i64 kn, .slice B1 (kL kn n).length (kL kn n).length, .int .i64 4, .int .i64 mo, .slice B2 (bL mo c0 c1 c2 c3).length d2, .int .i64 5, .int .i64 0, .slice (some ⟨G, 0, none⟩) 1 1, .int .i64 2, .int .i64 0, .slice (some ⟨G + 1, 0, none⟩) 2 2, .int .i64 9, .int .i64 k, .slice A sn cp] 37)) := by
          have hX0 := (((Lie.start wc).alloc #[.int .i64 mi] 2).alloc #[.int .i64 W, .int .i64 H] 2).alloc #[.int .i64 3, .int .i64 kn, .slice B1 (kL kn n).length (kL kn n).length, .int .i64 4, .int .i64 mo, .slice B2 (bL mo c0 c1 c2 c3).length d2, .int .i64 5, .int .i64 0, .slice (some ⟨G, 0, none⟩) 1 1, .int .i64 2, .int .i64 0, .slice (some ⟨G + 1, 0, none⟩) 2 2, .int .i64 9, .int .i64 k, .slice A sn cp] 37
          simp only [World.size_alloc, hG] at hX0
          exact hX0
        clear hG
        generalize ((wc.alloc (.cells #[.int .i64 mi] 2)).alloc (.cells #[.int .i64 W, .int .i64 H] 2)).alloc (.cells #[.int .i64 3, .int .i64 kn, .slice B1 (kL kn n).length (kL kn n).length, .int .i64 4, .int .i64 mo, .slice B2 (bL mo c0 c1 c2 c3).length d2, .int .i64 5, .int .i64 0, .slice (some ⟨G, 0, none⟩) 1 1, .int .i64 2, .int .i64 0, .slice (some ⟨G + 1, 0, none⟩) 2 2, .int .i64 9, .int .i64 k, .slice A sn cp] 37) = w8 at *
        have hLz := hL9.nx hX.bel
        have kl8 := (kl.nx hbz).nx hX.bel
        have kw8 := hX.k 0 (by simp)
        have ka := hX.k 2 (by simp)
        have kb := hX.k 1 (by simp)
        simp only [List.getElem_cons_zero, List.getElem_cons_succ] at kw8 ka kb
        have t3 := Bk.rdl (l := [mi].map (Value.int .i64)) ka
        have t4 := Bk.rdl (l := [W, H].map (Value.int .i64)) kb
        have t1 := ((((q1.below hb7).more hb7.size)).below hX.bel).more hX.sz
        have t2 := (q2.below hX.bel).more hX.sz
        have s0 := (((r0.below hbz).more hbz.size).below hX.bel).more hX.sz
        have s1 := (((r1.below hbz).more hbz.size).below hX.bel).more hX.sz
        have s2 := (((r2.below hbz).more hbz.size).below hX.bel).more hX.sz
        have s3 : Rd _ _ A3 ([mi].map (Value.int .i64)) := (((r3.below hbz).more hbz.size).below hX.bel).more hX.sz
        have s4 : Rd _ _ A4 ([W, H].map (Value.int .i64)) := (((r4.below hbz).more hbz.size).below hX.bel).more hX.sz
        have s5 := (((r5.below hbz).more hbz.size).below hX.bel).more hX.sz
        have hWb := hLz.bel
        clear hX ka kb hL9 kl r0 r1 r2 r3 r4 r5 q1 q2 hK5' hK7 hK5 hb7 hbz v0 v1 v2 v3 v11 kx hK6 hb6 hK3 hb3 hb5 hL2 x6 x7 x8 x9 x10 x4 x5 z6 z7 z8 z9 z10 y6 hLz
        go_upto_region 19 with fail
        go_loopw [9] (fun i wr => ∃ j : Nat, j ≤ 5 ∧ i = .int .i64 j ∧ Below w8.heap.size w8 wr) (fun i _ => 5 - (intOf i).toNat)
        case atStart => exact ⟨0, by omega, rfl, Below.refl _ _⟩
        case round =>
          obtain ⟨j, hj, rfl, hbr⟩ := hrel
          have hrd := hbr.size
          rcases (show j = 0 ∨ j = 1 ∨ j = 2 ∨ j = 3 ∨ j = 4 ∨ j = 5 by omega) with rfl | rfl | rfl | rfl | rfl | rfl
          · have e0 := (kl8.nx hbr).cell 0
            have e1 := (kl8.nx hbr).cell 1
            have e2 := (kl8.nx hbr).cell 2
            have f0 := (kw8.nx hbr).cell 0
            have f1 := (kw8.nx hbr).cell 1
            have f2 := (kw8.nx hbr).cell 2
            replace e0 := e0.trans (show _ = some (.int .i64 3) from rfl)
            replace e1 := e1.trans (show _ = some (.int .i64 kn) from rfl)
            replace e2 := e2.trans (show _ = some (.slice A1 (kL kn n).length (kL kn n).length) from rfl)
            replace f0 := f0.trans (show _ = some (.int .i64 3) from rfl)
            replace f1 := f1.trans (show _ = some (.int .i64 kn) from rfl)
            replace f2 := f2.trans (show _ = some (.slice B1 (kL kn n).length (kL kn n).length) from rfl)
            have hSm := same_reg (w := wr) 3 kn (kL kn n) A1 B1 (kL kn n).length (kL kn n).length (kL kn n).length rfl (s1.below hbr) (t1.below hbr) hbr.size hbr.size (by unfold kL; split <;> simp)
            have hOw := fun w' => own50_any 3 kn A1 (kL kn n).length (kL kn n).length w'
            have e0r := fun (q : Nat) (os : Array Obj) => cell_regrown e0 q os
            have e1r := fun (q : Nat) (os : Array Obj) => cell_regrown e1 q os
            have e2r := fun (q : Nat) (os : Array Obj) => cell_regrown e2 q os
            have f0r := fun (q : Nat) (os : Array Obj) => cell_regrown f0 q os
            have f1r := fun (q : Nat) (os : Array Obj) => cell_regrown f1 q os
            have f2r := fun (q : Nat) (os : Array Obj) => cell_regrown f2 q os
            clear hrd kl8 kw8 e0 e1 e2 f0 f1 f2 s1 s2 s3 s4 s5 s0 t1 t2 t3 t4 hAl
            go_upto_region 21 with fail
            refine wp_region_quiet_below (by kernel_rfl) (by kernel_rfl) ?_
            repeat (first
              | go_big_quiet_step ((first | with_reducible exact quiet_below (hSm _ _) | with_reducible exact quiet_below (hOw _)))
              | quiet_step ((first | with_reducible exact quiet_below (hSm _ _) | with_reducible exact quiet_below (hOw _))))
            refine wpQuiet_nil ?_
            intro _ hw'
            obtain ⟨⟨dd, os⟩, hw''⟩ := hw'
            subst hw''
            have hbx := hbr.trans ((below_regrown wr dd os).mono hbr.size)
            generalize Go.Sort.grow (redrawn wr dd) os = wx at *
            go_wp2_with fail
            exact ⟨⟨1, by omega, by go_num, hbx⟩, by simp [intOf]⟩
          · have e0 := (kl8.nx hbr).cell 3
            have e1 := (kl8.nx hbr).cell 4
            have e2 := (kl8.nx hbr).cell 5
            have f0 := (kw8.nx hbr).cell 3
            have f1 := (kw8.nx hbr).cell 4
            have f2 := (kw8.nx hbr).cell 5
            replace e0 := e0.trans (show _ = some (.int .i64 4) from rfl)
            replace e1 := e1.trans (show _ = some (.int .i64 mo) from rfl)
            replace e2 := e2.trans (show _ = some (.slice A2 (bL mo c0 c1 c2 c3).length c2') from rfl)
            replace f0 := f0.trans (show _ = some (.int .i64 4) from rfl)
            replace f1 := f1.trans (show _ = some (.int .i64 mo) from rfl)
            replace f2 := f2.trans (show _ = some (.slice B2 (bL mo c0 c1 c2 c3).length d2) from rfl)
            have hSm := same_reg (w := wr) 4 mo (bL mo c0 c1 c2 c3) A2 B2 (bL mo c0 c1 c2 c3).length c2' d2 rfl (s2.below hbr) (t2.below hbr) hbr.size hbr.size (by unfold bL; split <;> simp)
            have hOw := fun w' => own50_any 4 mo A2 (bL mo c0 c1 c2 c3).length c2' w'
            have e0r := fun (q : Nat) (os : Array Obj) => cell_regrown e0 q os
            have e1r := fun (q : Nat) (os : Array Obj) => cell_regrown e1 q os
            have e2r := fun (q : Nat) (os : Array Obj) => cell_regrown e2 q os
            have f0r := fun (q : Nat) (os : Array Obj) => cell_regrown f0 q os
            have f1r := fun (q : Nat) (os : Array Obj) => cell_regrown f1 q os
            have f2r := fun (q : Nat) (os : Array Obj) => cell_regrown f2 q os
            clear hrd kl8 kw8 e0 e1 e2 f0 f1 f2 s1 s2 s3 s4 s5 s0 t1 t2 t3 t4 hAl
            go_upto_region 21 with fail
            refine wp_region_quiet_below (by kernel_rfl) (by kernel_rfl) ?_
            repeat (first
              | go_big_quiet_step ((first | with_reducible exact quiet_below (hSm _ _) | with_reducible exact quiet_below (hOw _)))
              | quiet_step ((first | with_reducible exact quiet_below (hSm _ _) | with_reducible exact quiet_below (hOw _))))
            refine wpQuiet_nil ?_
            intro _ hw'
            obtain ⟨⟨dd, os⟩, hw''⟩ := hw'
            subst hw''
            have hbx := hbr.trans ((below_regrown wr dd os).mono hbr.size)
            generalize Go.Sort.grow (redrawn wr dd) os = wx at *
            go_wp2_with fail
            exact ⟨⟨2, by omega, by go_num, hbx⟩, by simp [intOf]⟩
          · have e0 := (kl8.nx hbr).cell 6
            have e1 := (kl8.nx hbr).cell 7
            have e2 := (kl8.nx hbr).cell 8
            have f0 := (kw8.nx hbr).cell 6
            have f1 := (kw8.nx hbr).cell 7
            have f2 := (kw8.nx hbr).cell 8
            replace e0 := e0.trans (show _ = some (.int .i64 5) from rfl)
            replace e1 := e1.trans (show _ = some (.int .i64 0) from rfl)
            replace e2 := e2.trans (show _ = some (.slice A3 1 1) from rfl)
            replace f0 := f0.trans (show _ = some (.int .i64 5) from rfl)
            replace f1 := f1.trans (show _ = some (.int .i64 0) from rfl)
            replace f2 := f2.trans (show _ = some (.slice (some ⟨G, 0, none⟩) 1 1) from rfl)
            have hSm := same_reg (w := wr) 5 0 [mi] A3 (some ⟨G, 0, none⟩) 1 1 1 rfl (s3.below hbr) (t3.below hbr) hbr.size hbr.size (by omega)
            have hOw := fun w' => own50_any 5 0 A3 1 1 w'
            have e0r := fun (q : Nat) (os : Array Obj) => cell_regrown e0 q os
            have e1r := fun (q : Nat) (os : Array Obj) => cell_regrown e1 q os
            have e2r := fun (q : Nat) (os : Array Obj) => cell_regrown e2 q os
            have f0r := fun (q : Nat) (os : Array Obj) => cell_regrown f0 q os
            have f1r := fun (q : Nat) (os : Array Obj) => cell_regrown f1 q os
            have f2r := fun (q : Nat) (os : Array Obj) => cell_regrown f2 q os
            clear hrd kl8 kw8 e0 e1 e2 f0 f1 f2 s1 s2 s3 s4 s5 s0 t1 t2 t3 t4 hAl
            go_upto_region 21 with fail
            refine wp_region_quiet_below (by kernel_rfl) (by kernel_rfl) ?_
            repeat (first
              | go_big_quiet_step ((first | with_reducible exact quiet_below (hSm _ _) | with_reducible exact quiet_below (hOw _)))
              | quiet_step ((first | with_reducible exact quiet_below (hSm _ _) | with_reducible exact quiet_below (hOw _))))
            refine wpQuiet_nil ?_
            intro _ hw'
            obtain ⟨⟨dd, os⟩, hw''⟩ := hw'
            subst hw''
            have hbx := hbr.trans ((below_regrown wr dd os).mono hbr.size)
            generalize Go.Sort.grow (redrawn wr dd) os = wx at *
            go_wp2_with fail
            exact ⟨⟨3, by omega, by go_num, hbx⟩, by simp [intOf]⟩
          · have e0 := (kl8.nx hbr).cell 9
            have e1 := (kl8.nx hbr).cell 10
            have e2 := (kl8.nx hbr).cell 11
            have f0 := (kw8.nx hbr).cell 9
            have f1 := (kw8.nx hbr).cell 10
            have f2 := (kw8.nx hbr).cell 11
            replace e0 := e0.trans (show _ = some (.int .i64 2) from rfl)
            replace e1 := e1.trans (show _ = some (.int .i64 0) from rfl)
            replace e2 := e2.trans (show _ = some (.slice A4 2 2) from rfl)
            replace f0 := f0.trans (show _ = some (.int .i64 2) from rfl)
            replace f1 := f1.trans (show _ = some (.int .i64 0) from rfl)
            replace f2 := f2.trans (show _ = some (.slice (some ⟨G + 1, 0, none⟩) 2 2) from rfl)
            have hSm := same_reg (w := wr) 2 0 [W, H] A4 (some ⟨G + 1, 0, none⟩) 2 2 2 rfl (s4.below hbr) (t4.below hbr) hbr.size hbr.size (by omega)
            have hOw := fun w' => own50_any 2 0 A4 2 2 w'
            have e0r := fun (q : Nat) (os : Array Obj) => cell_regrown e0 q os
            have e1r := fun (q : Nat) (os : Array Obj) => cell_regrown e1 q os
            have e2r := fun (q : Nat) (os : Array Obj) => cell_regrown e2 q os
            have f0r := fun (q : Nat) (os : Array Obj) => cell_regrown f0 q os
            have f1r := fun (q : Nat) (os : Array Obj) => cell_regrown f1 q os
            have f2r := fun (q : Nat) (os : Array Obj) => cell_regrown f2 q os
            clear hrd kl8 kw8 e0 e1 e2 f0 f1 f2 s1 s2 s3 s4 s5 s0 t1 t2 t3 t4 hAl
            go_upto_region 21 with fail
            refine wp_region_quiet_below (by kernel_rfl) (by kernel_rfl) ?_
            repeat (first
              | go_big_quiet_step ((first | with_reducible exact quiet_below (hSm _ _) | with_reducible exact quiet_below (hOw _)))
              | quiet_step ((first | with_reducible exact quiet_below (hSm _ _) | with_reducible exact quiet_below (hOw _))))
            refine wpQuiet_nil ?_
            intro _ hw'
            obtain ⟨⟨dd, os⟩, hw''⟩ := hw'
            subst hw''
            have hbx := hbr.trans ((below_regrown wr dd os).mono hbr.size)
            generalize Go.Sort.grow (redrawn wr dd) os = wx at *
            go_wp2_with fail
            exact ⟨⟨4, by omega, by go_num, hbx⟩, by simp [intOf]⟩
          · have e0 := (kl8.nx hbr).cell 12
            have e1 := (kl8.nx hbr).cell 13
            have e2 := (kl8.nx hbr).cell 14
            have f0 := (kw8.nx hbr).cell 12
            have f1 := (kw8.nx hbr).cell 13
            have f2 := (kw8.nx hbr).cell 14
            replace e0 := e0.trans (show _ = some (.int .i64 9) from rfl)
            replace e1 := e1.trans (show _ = some (.int .i64 k) from rfl)
            replace e2 := e2.trans (show _ = some (.slice A5 sn c5) from rfl)
            replace f0 := f0.trans (show _ = some (.int .i64 9) from rfl)
            replace f1 := f1.trans (show _ = some (.int .i64 k) from rfl)
            replace f2 := f2.trans (show _ = some (.slice A sn cp) from rfl)
            have hSm := same_reg (w := wr) 9 k l A5 A sn c5 cp hl (s5.below hbr) (s0.below hbr) hbr.size hbr.size (by omega)
            have hOw := fun w' => own50_any 9 k A5 sn c5 w'
            have e0r := fun (q : Nat) (os : Array Obj) => cell_regrown e0 q os
            have e1r := fun (q : Nat) (os : Array Obj) => cell_regrown e1 q os
            have e2r := fun (q : Nat) (os : Array Obj) => cell_regrown e2 q os
            have f0r := fun (q : Nat) (os : Array Obj) => cell_regrown f0 q os
            have f1r := fun (q : Nat) (os : Array Obj) => cell_regrown f1 q os
            have f2r := fun (q : Nat) (os : Array Obj) => cell_regrown f2 q os
            clear hrd kl8 kw8 e0 e1 e2 f0 f1 f2 s1 s2 s3 s4 s5 s0 t1 t2 t3 t4 hAl
            go_upto_region 21 with fail
            refine wp_region_quiet_below (by kernel_rfl) (by kernel_rfl) ?_
            repeat (first
              | go_big_quiet_step ((first | with_reducible exact quiet_below (hSm _ _) | with_reducible exact quiet_below (hOw _)))
              | quiet_step ((first | with_reducible exact quiet_below (hSm _ _) | with_reducible exact quiet_below (hOw _))))
            refine wpQuiet_nil ?_
            intro _ hw'
            obtain ⟨⟨dd, os⟩, hw''⟩ := hw'
            subst hw''
            have hbx := hbr.trans ((below_regrown wr dd os).mono hbr.size)
            generalize Go.Sort.grow (redrawn wr dd) os = wx at *
            go_wp2_with fail
            exact ⟨⟨5, by omega, by go_num, hbx⟩, by simp [intOf]⟩
          · go_wp2_with (go_at_call 6; (with_reducible refine (hAl _).mono ?_); rintro e wz ⟨rfl, hbz⟩)
            go_returns
            exact ⟨rfl, hWb.trans ((hbr.trans (hbz.mono hbr.size)).mono hWb.size)⟩
  · have hS := sof_bad k A sn cp W H kn n mo c0 c1 c2 c3 mi C _ hC (fun w' hb => hM w' (hL.bel.trans (hb.mono hL.sz)))
    have hR1 := fun w' (hb : Below w.heap.size w w') => hR w' hb
    have hb : (C != 0) = true := by simp [hC]
    clear hM hR hC
    go_enter Tryz.func3, Tryz.ntmps3
    go_wp2_with (first
      | (refine ldB rfl _ _ rfl k0 rfl Tryz.underlying29 rfl wr_size ?_)
      | (go_at_call 4; (with_reducible refine hS.mono ?_); rintro e w1 ⟨rfl, hb1⟩; have hL1 := hL.nx hb1; have k1 := k0.nx hb1)
      | (refine ldB rfl _ _ rfl k1 rfl Tryz.underlying29 rfl wr_size ?_)
      | (go_at_call 5; (with_reducible refine (hR1 _ hL1.bel).mono ?_); rintro e w2 ⟨rfl, hb2⟩; have hL2 := hL1.nx hb2)
      | (go_at_call 6; (with_reducible refine (hAl _).mono ?_); rintro e wz ⟨rfl, hbz⟩))
    go_returns
    exact ⟨rfl, (hL2.nx hbz).bel⟩
end Go.Proofs.YtencbfmcmpmdnaaGreatDoor
