/- The law BoxHolds: the walk. -/
import Derived.Test.YtlbiiljncacdoaaGreatKJ
import Derived.Test.YtlbiiljncacdoaaGreatKM
import Derived.Test.YtlbiiljncacdoaaGreatKN
set_option linter.unusedVariables false
namespace Go.Proofs.YtlbiiljncacdoaaGreat
open Go.RowKit
attribute [local go_sem high] run_maxM run_minM
theorem xf_sizeH : (Tryz.prog.info? 31).map (·.size) = some 2 := by kernel_rfl
theorem keepH {w w' : World} {g1 g2 g3 : Nat} {v0 v1 v2 v3 v4 v5 v6 x0 x1 y0 y1 y2 y3 : Value}
    (c : (w.cell? ⟨g1, 0, none⟩ = some x0 ∧ w.cell? ⟨g1, 1, none⟩ = some x1) ∧ (w.cell? ⟨g2, 0, none⟩ = some v0 ∧ w.cell? ⟨g2, 1, none⟩ = some v1 ∧ w.cell? ⟨g2, 2, none⟩ = some v2 ∧ w.cell? ⟨g2, 3, none⟩ = some v3 ∧ w.cell? ⟨g2, 4, none⟩ = some v4 ∧ w.cell? ⟨g2, 5, none⟩ = some v5 ∧ w.cell? ⟨g2, 6, none⟩ = some v6) ∧ (w.cell? ⟨g3, 0, none⟩ = some y0 ∧ w.cell? ⟨g3, 1, none⟩ = some y1 ∧ w.cell? ⟨g3, 2, none⟩ = some y2 ∧ w.cell? ⟨g3, 3, none⟩ = some y3))
    (h1 : g1 < w.heap.size) (h2 : g2 < w.heap.size) (h3 : g3 < w.heap.size) (hb : Below w.heap.size w w') :
    ((w'.cell? ⟨g1, 0, none⟩ = some x0 ∧ w'.cell? ⟨g1, 1, none⟩ = some x1) ∧ (w'.cell? ⟨g2, 0, none⟩ = some v0 ∧ w'.cell? ⟨g2, 1, none⟩ = some v1 ∧ w'.cell? ⟨g2, 2, none⟩ = some v2 ∧ w'.cell? ⟨g2, 3, none⟩ = some v3 ∧ w'.cell? ⟨g2, 4, none⟩ = some v4 ∧ w'.cell? ⟨g2, 5, none⟩ = some v5 ∧ w'.cell? ⟨g2, 6, none⟩ = some v6) ∧ (w'.cell? ⟨g3, 0, none⟩ = some y0 ∧ w'.cell? ⟨g3, 1, none⟩ = some y1 ∧ w'.cell? ⟨g3, 2, none⟩ = some y2 ∧ w'.cell? ⟨g3, 3, none⟩ = some y3)) ∧ Below w.heap.size w w' := by
  have k : ∀ (g q : Nat) (v : Value), g < w.heap.size → w.cell? ⟨g, q, none⟩ = some v → w'.cell? ⟨g, q, none⟩ = some v := fun g q v hg hc => (hb.cell (p := ⟨g, q, none⟩) hg).trans hc
  obtain ⟨⟨c1, c2⟩, ⟨c3, c4, c5, c6, c7, c8, c9⟩, c10, c11, c12, c13⟩ := c
  exact ⟨⟨⟨k _ _ _ h1 c1, k _ _ _ h1 c2⟩, ⟨k _ _ _ h2 c3, k _ _ _ h2 c4, k _ _ _ h2 c5, k _ _ _ h2 c6, k _ _ _ h2 c7, k _ _ _ h2 c8, k _ _ _ h2 c9⟩, k _ _ _ h3 c10, k _ _ _ h3 c11, k _ _ _ h3 c12, k _ _ _ h3 c13⟩, hb⟩
set_option maxRecDepth 100000 in
set_option maxHeartbeats 32000000 in
theorem walkBoxHolds (k : Int) (A : Option Addr) (sn cp : Nat) (W H a b c d n e f g h a' b' c' d' code code2 C : Int) (F G E : Int → Int → Int → Int) (Q Q2 : Int → Int → Int → Int → Prop) (w : World)
    (hbad : sn ≤ 9000 → code ≠ 0 → ∀ w' : World, Below w.heap.size w w' → Calls Tryz.prog 48 #[xfV k A sn cp, .int .i64 W, .int .i64 H, rc_rect4 a b c d, .int .i64 n] w' fun e w'' => e = .returned (.tuple #[rc_rect4 0 0 0 0, .int .i64 code]) ∧ Below w'.heap.size w' w'')
    (hok : sn ≤ 9000 → code = 0 → ∀ w' : World, Below w.heap.size w w' → Calls Tryz.prog 48 #[xfV k A sn cp, .int .i64 W, .int .i64 H, rc_rect4 a b c d, .int .i64 n] w' fun e w'' => ∃ u v s t, e = .returned (.tuple #[rc_rect4 u v s t, .int .i64 0]) ∧ Q u v s t ∧ Below w'.heap.size w' w'')
    (hN : sn ≤ 9000 → ∀ w' : World, Below w.heap.size w w' → Calls Tryz.prog 21 #[xfV k A sn cp, .int .i64 W, .int .i64 H] w' fun e w'' => ∃ p, e = .returned (.tuple #[.pointer p, .int .i64 C]) ∧ (C ≠ 0 → p = none) ∧ (C = 0 → MapFn w'.heap.size w''.heap.size w'' p F G E) ∧ Below w'.heap.size w' w'')
    (hC : code = 0 → C = 0)
    (hrg : code = 0 → (0 ≤ n ∧ n ≤ 8) ∧ (0 ≤ a ∧ a < c ∧ c ≤ 32768) ∧ (0 ≤ b ∧ b < d ∧ d ≤ 32768))
    (hHas : code = 0 → ∀ u v s t X Y, Q u v s t → PxS n a b c d X Y → bxHas u v s t (F X Y (plD n)) (G X Y (plD n)) = true ∧ E X Y (plD n) = 0)
    (hBo : code = 0 → ∀ w' : World, Calls Tryz.prog 54 #[rc_rect4 e f g h, rc_rect4 a b c d] w' fun r w'' => r = .returned (rc_rect4 a' b' c' d') ∧ Below w'.heap.size w' w'')
    (hbad2 : sn ≤ 9000 → code2 ≠ 0 → ∀ w' : World, Below w.heap.size w w' → Calls Tryz.prog 48 #[xfV k A sn cp, .int .i64 W, .int .i64 H, rc_rect4 a' b' c' d', .int .i64 n] w' fun e w'' => e = .returned (.tuple #[rc_rect4 0 0 0 0, .int .i64 code2]) ∧ Below w'.heap.size w' w'')
    (hok2 : sn ≤ 9000 → code2 = 0 → ∀ w' : World, Below w.heap.size w w' → Calls Tryz.prog 48 #[xfV k A sn cp, .int .i64 W, .int .i64 H, rc_rect4 a' b' c' d', .int .i64 n] w' fun e w'' => ∃ u v s t, e = .returned (.tuple #[rc_rect4 u v s t, .int .i64 0]) ∧ Q2 u v s t ∧ Below w'.heap.size w' w'')
    (hsub : code = 0 → code2 = 0 → ∀ u v s t u' v' s' t', Q u v s t → Q2 u' v' s' t' → (u ≤ u' ∧ u' ≤ s) ∧ (v ≤ v' ∧ v' ≤ t) ∧ (u ≤ s' ∧ s' ≤ s) ∧ (v ≤ t' ∧ t' ≤ t))
    (hAl : ∀ w : World, Calls Tryz.prog 50 #[] w fun e w' => e = .returned (.bool true) ∧ Below w.heap.size w w') :
    Calls Tryz.prog 10 #[xfV k A sn cp, .agg (ptA W H a b c d n), rc_rect4 e f g h] w fun e w' => e = .returned (.bool true) ∧ Below w.heap.size w w' := by
  have hL := (((Lie.start w).alloc #[.int .i64 k, .slice A sn cp] 31).alloc (ptA W H a b c d n) 80).alloc (rc_rectA e f g h) 78
  simp only [World.size_alloc] at hL
  by_cases h9 : 9000 < sn
  · clear hbad hok hC hN hrg hHas hBo hbad2 hok2 hsub
    go_enter Tryz.func10, Tryz.ntmps10
    go_wp2_with fail
    go_returns
    exact ⟨rfl, hL.bel⟩
  replace hbad := hbad (by omega)
  replace hok := hok (by omega)
  replace hN := hN (by omega)
  replace hbad2 := hbad2 (by omega)
  replace hok2 := hok2 (by omega)
  go_enter Tryz.func10, Tryz.ntmps10
  go_upto_region 1 with fail
  generalize hw0 : ((w.alloc (.cells #[.int .i64 k, .slice A sn cp] 31)).alloc (.cells (ptA W H a b c d n) 80)).alloc (.cells (rc_rectA e f g h) 78) = w0 at *
  clear hw0
  have hx0 := (hL.k 2 (by simp)).cell2
  have hp0 := (hL.k 1 (by simp)).cell7p
  simp only [List.getElem_cons_zero, List.getElem_cons_succ] at hx0 hp0
  obtain ⟨x0, x1⟩ := hx0
  obtain ⟨p0, p1, p2, p3, p4, p5, p6⟩ := hp0
  go_upto_region 3 with (first
    | (go_at_call 47; (with_reducible refine (soon_any W H a b c d n _).mono ?_); rintro e w1 ⟨sb, rfl, hb1⟩; cases sb))
  · go_wp2_with fail
    go_returns
    exact ⟨rfl, (hL.nx hb1).bel⟩
  have hL1 := hL.nx hb1
  clear hL hb1 x0 x1 p0 p1 p2 p3 p4 p5 p6
  have kx1 := hL1.k 2 (by simp)
  have hp0 := (hL1.k 1 (by simp)).cell7p
  simp only [List.getElem_cons_zero, List.getElem_cons_succ] at hp0 kx1
  obtain ⟨p0, p1, p2, p3, p4, p5, p6⟩ := hp0
  by_cases hz : code = 0
  · subst hz
    replace hok := hok rfl w1 hL1.bel
    replace hBo := hBo rfl
    replace hHas := hHas rfl
    replace hsub := hsub rfl
    obtain rfl := hC rfl
    obtain ⟨hn, ⟨a0, a1, a2⟩, b0, b1, b2⟩ := hrg rfl
    clear hbad hC hrg
    go_upto_region 4 with (first
      | (refine ldB rfl _ _ rfl kx1 rfl Tryz.underlying31 rfl xf_sizeH ?_)
      | (go_at_call 48; (with_reducible refine hok.mono ?_); rintro e w2 ⟨u, v, s, t, rfl, hQ1, hb2⟩; have hL2 := hL1.nx hb2; have hK2 := Bk.new w2 83 (rc_rectA 0 0 0 0))
      | (refine stB (ty := 83) rfl _ _ rfl hK2 (rc_rectA u v s t) rfl rfl bx_size rfl (by simp [Value.oneCell']) ?_; intro w3 k3 hg3 hs3))
    have hL3 := hL2.put hg3 k3
    generalize w2.heap.size = g7 at *
    have kx3 := hL3.k 3 (by simp)
    have hp3 := (hL3.k 2 (by simp)).cell7p
    simp only [List.getElem_cons_zero, List.getElem_cons_succ] at kx3 hp3
    clear hL1 hL2 hb2 hK2 hg3 hs3 p0 p1 p2 p3 p4 p5 p6 kx1 k3 hok
    obtain ⟨p0, p1, p2, p3, p4, p5, p6⟩ := hp3
    replace hN := hN w3 hL3.bel
    go_upto_region 5 with (first
      | (refine ldB rfl _ _ rfl kx3 rfl Tryz.underlying31 rfl xf_sizeH ?_)
      | (go_at_call 21; (with_reducible refine hN.mono ?_); rintro e w4 ⟨p, rfl, _, hM, hb4⟩))
    replace hM := hM (by trivial)
    have hL4 := hL3.nx hb4
    clear hL3 hb4 p0 p1 p2 p3 p4 p5 p6 kx3 hN
    have hAt := fun (w' : World) (hb : Below w4.heap.size w4 w') X Y D => hM w' hb.size (fun i _ h => hb.block i h) X Y D
    have hPl := fun (x y : Int) (w' : World) (hx : 0 ≤ x ∧ x ≤ 32768) (hy : 0 ≤ y ∧ y ≤ 32768) => rplaces_any n x y w' hn (by omega) (by omega)
    have hb44 := Below.refl w4.heap.size w4
    have hp4 := (hL4.k 2 (by simp)).cell7p
    simp only [List.getElem_cons_zero, List.getElem_cons_succ] at hp4
    obtain ⟨p0, p1, p2, p3, p4, p5, p6⟩ := hp4
    have hHs := fun X Y hS => hHas u v s t X Y hQ1 hS
    clear hM hHas
    go_wp2_with fail
    go_loopw [11] (fun i wr => ∃ y : Int, i = .int .i64 y ∧ b ≤ y ∧ y ≤ d ∧ Below w4.heap.size w4 wr) (fun i _ => (d - intOf i).toNat)
    case atStart => exact ⟨b, rfl, by omega, by omega, hb44⟩
    case round =>
      clear hb44 p0 p1 p2 p3 p4 p5 p6
      obtain ⟨y, rfl, hy0, hy1, hb⟩ := hrel
      have hL := hL4.nx hb
      have hp4 := (hL.k 2 (by simp)).cell7p
      simp only [List.getElem_cons_zero, List.getElem_cons_succ] at hp4
      obtain ⟨p0, p1, p2, p3, p4, p5, p6⟩ := hp4
      by_cases hlt : y < d
      · go_wp2_with fail
        go_loopw [12] (fun i wr => ∃ x : Int, i = .int .i64 x ∧ a ≤ x ∧ x ≤ c ∧ Below w4.heap.size w4 wr) (fun i _ => (c - intOf i).toNat)
        case atStart => exact ⟨a, rfl, by omega, by omega, hb⟩
        case round =>
          clear hb hL p0 p1 p2 p3 p4 p5 p6
          obtain ⟨x, rfl, hx0, hx1, hb⟩ := hrel
          have hL := hL4.nx hb
          have hp4 := (hL.k 2 (by simp)).cell7p
          simp only [List.getElem_cons_zero, List.getElem_cons_succ] at hp4
          obtain ⟨p0, p1, p2, p3, p4, p5, p6⟩ := hp4
          by_cases hlx : x < c
          · have hPx := fun w' => hPl x y w' (by omega) (by omega)
            go_wp2_with (first
              | (go_at_call 52; (with_reducible refine (hPx _).mono ?_); rintro e w5 ⟨A3, cp3, rfl, hP3, _, hb5⟩))
            have hb45 := hb.trans (hb5.mono hb.size)
            have hm64 : plM n ≤ 64 := by
              unfold plM
              split
              · decide
              · have := Int.mul_le_mul hn.2 hn.2 hn.1 (by omega)
                omega
            clear hL p0 p1 p2 p3 p4 p5 p6 hb hb5 hPx
            generalize hm : plM n = m at *
            have HM := Lib.hid hm
            clear hm
            go_loopw [85] (fun i wq => ∃ j : Nat, i = .int .i64 j ∧ j ≤ m ∧ Pls wq wq.heap.size A3 m (plF n x y) ∧ Below w4.heap.size w4 wq) (fun i _ => m - (intOf i).toNat)
            case atStart => exact ⟨0, rfl, by omega, hP3, hb45⟩
            case round =>
              clear hP3 hb45
              obtain ⟨j, rfl, hj, hP, hb⟩ := hrel
              by_cases hjt : j < m
              · have hjn : j < plM n := by rw [HM.out]; exact hjt
                obtain ⟨hHx, hE0⟩ := hHs (plX n x j) (plY n y j) ⟨x, y, j, by omega, hjn, rfl, rfl⟩
                obtain ⟨bb, oo, hAe, hbl, c0, c1, c2⟩ := hP j hjt
                subst hAe
                change wr.cell? ⟨bb, oo + j * 3, none⟩ = some (.int .i64 (plX n x j)) at c0
                change wr.cell? ⟨bb, oo + j * 3 + 1, none⟩ = some (.int .i64 (plY n y j)) at c1
                change wr.cell? ⟨bb, oo + j * 3 + 2, none⟩ = some (.int .i64 (plD n)) at c2
                have hba := hb.alloc hb.size (.cells #[.int .i64 (plX n x j), .int .i64 (plY n y j), .int .i64 (plD n)] 92)
                have hPa := hP.up ((Below.refl wr.heap.size wr).alloc (Nat.le_refl _) (.cells #[.int .i64 (plX n x j), .int .i64 (plY n y j), .int .i64 (plD n)] 92))
                have hAj := hAt _ hba (plX n x j) (plY n y j) (plD n)
                have hBx := fun w' => bxhas_any u v s t (F (plX n x j) (plY n y j) (plD n)) (G (plX n x j) (plY n y j) (plD n)) w'
                rw [hE0] at hAj
                rw [hHx] at hBx
                clear hHx hE0
                generalize F (plX n x j) (plY n y j) (plD n) = fp at *
                generalize G (plX n x j) (plY n y j) (plD n) = gp at *
                generalize plX n x j = X at *
                generalize plY n y j = Y at *
                generalize plD n = D at *
                go_wp2_with (first
                  | (go_at_call 24; (with_reducible refine hAj.mono ?_); rintro e w7 ⟨rfl, hb7⟩; have hb47 := hba.trans (hb7.mono hba.size); have hP7 := hPa.up hb7; have hq7 := (show Bk w7 g7 83 (rc_rectA u v s t) from (hL4.nx hb47).k 0 (by simp)).cell4; obtain ⟨d0, d1, d2, d3⟩ := hq7)
                  | (go_at_call 53; (with_reducible refine (hBx _).mono ?_); rintro e w8 ⟨rfl, hb8⟩))
                exact ⟨⟨j + 1, by go_num, by omega, hP7.up hb8, hb47.trans (hb8.mono hb47.size)⟩, by simp [intOf]; omega⟩
              · obtain rfl : j = m := by omega
                go_wp2_with fail
                exact ⟨⟨x + 1, by go_num, by omega, by omega, hb⟩, by simp [intOf]; omega⟩
          · go_wp2_with fail
            exact ⟨⟨y + 1, by go_num, by omega, by omega, hb⟩, by simp [intOf]; omega⟩
      · have hx4 := (hL.k 3 (by simp)).cell2
        have hr4 := (hL.k 1 (by simp)).cell4
        have hl1 := (hL.k 3 (by simp)).lt
        have hl2 := (hL.k 2 (by simp)).lt
        have hl3 := (hL.k 1 (by simp)).lt
        have hl7 := (hL.k 0 (by simp)).lt
        simp only [List.getElem_cons_zero, List.getElem_cons_succ] at hx4 hr4 hl1 hl2 hl3 hl7
        have hcs := And.intro hx4 (And.intro (And.intro p0 (And.intro p1 (And.intro p2 (And.intro p3 (And.intro p4 (And.intro p5 p6)))))) hr4)
        obtain ⟨q0, q1⟩ := hx4
        obtain ⟨r0, r1, r2, r3⟩ := hr4
        clear hHs hPl hAt hL4 hb
        by_cases hz2 : code2 = 0
        · subst hz2
          replace hok2 := hok2 rfl
          clear hbad2
          go_upto_region 20 with fail
          go_cut [18, 19] (fun p' q' wx => ∃ g u' v' s' t', p' = .pointer (some ⟨g, 0, none⟩) ∧ q' = .int .i64 0 ∧ Q2 u' v' s' t' ∧ Lie w [(g, 83, rc_rectA u' v' s' t'), (g7, 83, rc_rectA u v s t)] wx)
          case first =>
            go_region_held3 (fun w' => ((w'.cell? ⟨w.heap.size, 0, none⟩ = some (.int .i64 k) ∧ w'.cell? ⟨w.heap.size, 1, none⟩ = some (.slice A sn cp)) ∧ (w'.cell? ⟨w.heap.size + 1, 0, none⟩ = some (.int .i64 W) ∧ w'.cell? ⟨w.heap.size + 1, 1, none⟩ = some (.int .i64 H) ∧ w'.cell? ⟨w.heap.size + 1, 2, none⟩ = some (.int .i64 a) ∧ w'.cell? ⟨w.heap.size + 1, 3, none⟩ = some (.int .i64 b) ∧ w'.cell? ⟨w.heap.size + 1, 4, none⟩ = some (.int .i64 c) ∧ w'.cell? ⟨w.heap.size + 1, 5, none⟩ = some (.int .i64 d) ∧ w'.cell? ⟨w.heap.size + 1, 6, none⟩ = some (.int .i64 n)) ∧ (w'.cell? ⟨w.heap.size + 1 + 1, 0, none⟩ = some (.int .i64 e) ∧ w'.cell? ⟨w.heap.size + 1 + 1, 1, none⟩ = some (.int .i64 f) ∧ w'.cell? ⟨w.heap.size + 1 + 1, 2, none⟩ = some (.int .i64 g) ∧ w'.cell? ⟨w.heap.size + 1 + 1, 3, none⟩ = some (.int .i64 h))) ∧ Below wr.heap.size wr w')
              (first
              | exact keepH hcs hl1 hl2 hl3 hBb
              | exact keepH hcs hl1 hl2 hl3 hBa
              | (refine keepH hcs hl1 hl2 hl3 (below_of_gb hBb (gb4 wb _ _ _ _ _) ?_ hBb.size); (first | exact Nat.le_refl _ | exact hBa.size))
              | (refine keepH hcs hl1 hl2 hl3 ?_; (first | done | exact Below.alloc hBb hBb.size _ | exact Below.alloc hBa hBa.size _ | go_grown)))
              (first
              | (go_at_call 54; (with_reducible refine (hBo _).mono ?_); rintro r wa ⟨rfl, hba⟩; have hBa : Below wr.heap.size wr wa := Below.trans (by go_grown) (hba.mono (by simp)); (try (have hKa : Bk wa wr.heap.size 83 (rc_rectA 0 0 0 0) := (Bk.new wr.drew 83 (rc_rectA 0 0 0 0)).nx hba)))
              | (go_at_call 48; (with_reducible refine (hok2 _ (hL.bel.trans (Below.mono (by first | exact hBa | exact Below.alloc hBa hBa.size _) hL.sz))).mono ?_); rintro r wb ⟨u', v', s', t', rfl, hQ2, hbb⟩; have hBb : Below wr.heap.size wr wb := Below.trans (by first | exact hBa | exact Below.alloc hBa hBa.size _) (hbb.mono (by first | exact hBa.size | (have := hBa.size; simp; omega))); (try (have hKc : Bk wb wr.heap.size 83 (rc_rectA 0 0 0 0) := hKa.nx hbb; obtain ⟨z0, z1, z2, z3⟩ := hKc.cell4; have f0 := hKc.frozen 0; have f1 := hKc.frozen 1; have f2 := hKc.frozen 2; have f3 := hKc.frozen 3)); (try (have hKc : Bk wb wa.heap.size 83 (rc_rectA 0 0 0 0) := (Bk.new wa 83 (rc_rectA 0 0 0 0)).nx hbb; obtain ⟨z0, z1, z2, z3⟩ := hKc.cell4; have f0 := hKc.frozen 0; have f1 := hKc.frozen 1; have f2 := hKc.frozen 2; have f3 := hKc.frozen 3))))
            all_goals
             go_wp2_with fail
             go_meet
             have hLb := (hL.nx hBb).sub (L' := [(g7, 83, rc_rectA u v s t)]) (by intro q hq; simp only [List.mem_cons, List.not_mem_nil, or_false] at hq; subst hq; simp)
             have z00 := hL.sz; have z1 := hBa.size
             have z2 := hBb.size
             first
             | exact ⟨_, _, _, _, _, rfl, rfl, hQ2, hLb.alloc _ _⟩
             | (have hne : ∀ q ∈ [(g7, 83, rc_rectA u v s t)], q.1 < wb.heap.size := by (intro q hq; simp only [List.mem_cons, List.not_mem_nil, or_false] at hq; subst hq; show g7 < _; omega)
                have hz0 := hLb.set4n hKc (by omega) (by intro q hq; simp only [List.mem_cons, List.not_mem_nil, or_false] at hq; subst hq; show g7 < _; omega) (.int .i64 u') (.int .i64 v') (.int .i64 s') (.int .i64 t')
                exact ⟨_, _, _, _, _, rfl, rfl, hQ2, hz0⟩)
          case rest =>
            obtain ⟨g8, u', v', s', t', rfl, rfl, hQ2, hL8⟩ := hcut
            obtain ⟨⟨e1, e2⟩, ⟨e3, e4⟩, ⟨e5, e6⟩, e7, e8⟩ := hsub rfl u v s t u' v' s' t' hQ1 hQ2
            have hB1 := fun w' => bxhas_any u v s t u' v' w'
            have hB2 := fun w' => bxhas_any u v s t s' t' w'
            have hAr := fun w' => around_any u v s t u' v' s' t' w'
            rw [show bxHas u v s t u' v' = true from decide_eq_true (by omega)] at hB1
            rw [show bxHas u v s t s' t' = true from decide_eq_true (by omega)] at hB2
            rw [show min u u' = u by omega, show min v v' = v by omega, show max s s' = s by omega, show max t t' = t by omega] at hAr
            have hq := eql_box u v s t u v s t
            rw [decide_eq_true rfl] at hq
            obtain ⟨d0, d1, d2, d3⟩ := (hL8.k 0 (by simp)).cell4
            obtain ⟨c0, c1, c2, c3⟩ := (hL8.k 1 (by simp)).cell4
            simp only [List.getElem_cons_zero, List.getElem_cons_succ] at d0 d1 d2 d3 c0 c1 c2 c3
            clear e1 e2 e3 e4 e5 e6 e7 e8 hQ1 hQ2 hsub hok2 hcs hL hl1 hl2 hl3 hl7 q0 q1 r0 r1 r2 r3 p0 p1 p2 p3 p4 p5 p6
            go_upto_region 23 with fail
            have i0 := fun (n : Nat) (os : Array Obj) => cell_regrown d0 n os
            have i1 := fun (n : Nat) (os : Array Obj) => cell_regrown d1 n os
            have i2 := fun (n : Nat) (os : Array Obj) => cell_regrown d2 n os
            have i3 := fun (n : Nat) (os : Array Obj) => cell_regrown d3 n os
            have j0 := fun (n : Nat) (os : Array Obj) => cell_regrown c0 n os
            have j1 := fun (n : Nat) (os : Array Obj) => cell_regrown c1 n os
            have j2 := fun (n : Nat) (os : Array Obj) => cell_regrown c2 n os
            have j3 := fun (n : Nat) (os : Array Obj) => cell_regrown c3 n os
            refine wp_region_quiet_below (by kernel_rfl) (by kernel_rfl) ?_
            repeat (first
              | go_big_quiet_step ((first | with_reducible exact quiet_below (hB1 _) | with_reducible exact quiet_below (hB2 _) | with_reducible exact quiet_below (hAr _) | with_reducible exact quiet_below (hAl _)))
              | quiet_step ((first | with_reducible exact quiet_below (hB1 _) | with_reducible exact quiet_below (hB2 _) | with_reducible exact quiet_below (hAr _) | with_reducible exact quiet_below (hAl _))))
            refine wpQuiet_nil ?_
            intro _ hw'
            obtain ⟨⟨dd, os⟩, hw''⟩ := hw'
            subst hw''
            have hL9 := hL8.nx (below_regrown wc dd os)
            generalize Go.Sort.grow (redrawn wc dd) os = wx at *
            go_wp2_with fail
            go_returns
            exact ⟨rfl, hL9.bel⟩
        · replace hbad2 := hbad2 hz2
          have hbz : (code2 != 0) = true := by simp [hz2]
          clear hok2 hsub hz2
          go_upto_region 20 with fail
          go_cut [18, 19] (fun p' q' wx => ∃ g, p' = .pointer (some ⟨g, 0, none⟩) ∧ q' = .int .i64 code2 ∧ Below w.heap.size w wx)
          case first =>
            go_region_held3 (fun w' => ((w'.cell? ⟨w.heap.size, 0, none⟩ = some (.int .i64 k) ∧ w'.cell? ⟨w.heap.size, 1, none⟩ = some (.slice A sn cp)) ∧ (w'.cell? ⟨w.heap.size + 1, 0, none⟩ = some (.int .i64 W) ∧ w'.cell? ⟨w.heap.size + 1, 1, none⟩ = some (.int .i64 H) ∧ w'.cell? ⟨w.heap.size + 1, 2, none⟩ = some (.int .i64 a) ∧ w'.cell? ⟨w.heap.size + 1, 3, none⟩ = some (.int .i64 b) ∧ w'.cell? ⟨w.heap.size + 1, 4, none⟩ = some (.int .i64 c) ∧ w'.cell? ⟨w.heap.size + 1, 5, none⟩ = some (.int .i64 d) ∧ w'.cell? ⟨w.heap.size + 1, 6, none⟩ = some (.int .i64 n)) ∧ (w'.cell? ⟨w.heap.size + 1 + 1, 0, none⟩ = some (.int .i64 e) ∧ w'.cell? ⟨w.heap.size + 1 + 1, 1, none⟩ = some (.int .i64 f) ∧ w'.cell? ⟨w.heap.size + 1 + 1, 2, none⟩ = some (.int .i64 g) ∧ w'.cell? ⟨w.heap.size + 1 + 1, 3, none⟩ = some (.int .i64 h))) ∧ Below wr.heap.size wr w')
              (first
              | exact keepH hcs hl1 hl2 hl3 hBb
              | exact keepH hcs hl1 hl2 hl3 hBa
              | (refine keepH hcs hl1 hl2 hl3 (below_of_gb hBb (gb4 wb _ _ _ _ _) ?_ hBb.size); (first | exact Nat.le_refl _ | exact hBa.size))
              | (refine keepH hcs hl1 hl2 hl3 ?_; (first | done | exact Below.alloc hBb hBb.size _ | exact Below.alloc hBa hBa.size _ | go_grown)))
              (first
              | (go_at_call 54; (with_reducible refine (hBo _).mono ?_); rintro r wa ⟨rfl, hba⟩; have hBa : Below wr.heap.size wr wa := Below.trans (by go_grown) (hba.mono (by simp)); (try (have hKa : Bk wa wr.heap.size 83 (rc_rectA 0 0 0 0) := (Bk.new wr.drew 83 (rc_rectA 0 0 0 0)).nx hba)))
              | (go_at_call 48; (with_reducible refine (hbad2 _ (hL.bel.trans (Below.mono (by first | exact hBa | exact Below.alloc hBa hBa.size _) hL.sz))).mono ?_); rintro r wb ⟨rfl, hbb⟩; have hBb : Below wr.heap.size wr wb := Below.trans (by first | exact hBa | exact Below.alloc hBa hBa.size _) (hbb.mono (by first | exact hBa.size | (have := hBa.size; simp; omega))); (try (have hKc : Bk wb wr.heap.size 83 (rc_rectA 0 0 0 0) := hKa.nx hbb; obtain ⟨z0, z1, z2, z3⟩ := hKc.cell4; have f0 := hKc.frozen 0; have f1 := hKc.frozen 1; have f2 := hKc.frozen 2; have f3 := hKc.frozen 3)); (try (have hKc : Bk wb wa.heap.size 83 (rc_rectA 0 0 0 0) := (Bk.new wa 83 (rc_rectA 0 0 0 0)).nx hbb; obtain ⟨z0, z1, z2, z3⟩ := hKc.cell4; have f0 := hKc.frozen 0; have f1 := hKc.frozen 1; have f2 := hKc.frozen 2; have f3 := hKc.frozen 3))))
            all_goals
             go_wp2_with fail
             go_meet
             have hLb := (hL.nx hBb).sub (L' := [(g7, 83, rc_rectA u v s t)]) (by intro q hq; simp only [List.mem_cons, List.not_mem_nil, or_false] at hq; subst hq; simp)
             have z00 := hL.sz; have z1 := hBa.size
             have z2 := hBb.size
             first
             | exact ⟨_, rfl, rfl, below_of_gb hLb.bel (gb4 wb _ _ _ _ _) (by omega) hLb.sz⟩
             | exact ⟨_, rfl, rfl, (hLb.alloc _ _).bel⟩
          case rest =>
            obtain ⟨g8, rfl, rfl, hbx⟩ := hcut
            go_wp2_with (first
              | (go_at_call 50; (with_reducible refine (hAl _).mono ?_); rintro e w9 ⟨rfl, hb9⟩))
            go_returns
            exact ⟨rfl, hbx.trans (hb9.mono hbx.size)⟩
  · replace hbad := hbad hz w1 hL1.bel
    have hbz : (code != 0) = true := by simp [hz]
    clear hok hz hC hrg hHas hBo hbad2 hok2 hsub
    go_upto_region 4 with (first
      | (refine ldB rfl _ _ rfl kx1 rfl Tryz.underlying31 rfl xf_sizeH ?_)
      | (go_at_call 48; (with_reducible refine hbad.mono ?_); rintro e w2 ⟨rfl, hb2⟩; have hL2 := hL1.nx hb2; have hK2 := Bk.new w2 83 (rc_rectA 0 0 0 0))
      | (refine stB (ty := 83) rfl _ _ rfl hK2 (rc_rectA 0 0 0 0) rfl rfl bx_size rfl (by simp [Value.oneCell']) ?_; intro w3 k3 hg3 hs3))
    have hL3 := hL2.put hg3 k3
    generalize w2.heap.size = g7 at *
    have kx3 := hL3.k 3 (by simp)
    have hp3 := (hL3.k 2 (by simp)).cell7p
    simp only [List.getElem_cons_zero, List.getElem_cons_succ] at kx3 hp3
    clear hL1 hL2 hb2 hK2 hg3 hs3 p0 p1 p2 p3 p4 p5 p6 kx1 k3 hbad
    obtain ⟨p0, p1, p2, p3, p4, p5, p6⟩ := hp3
    replace hN := hN w3 hL3.bel
    have hq := eql_box 0 0 0 0 0 0 0 0
    rw [decide_eq_true rfl] at hq
    go_wp2_with (first
      | (refine ldB rfl _ _ rfl kx3 rfl Tryz.underlying31 rfl xf_sizeH ?_)
      | (go_at_call 21; (with_reducible refine hN.mono ?_); rintro e w4 ⟨p, rfl, _, _, hb4⟩; have hL4 := hL3.nx hb4; have kg4 : Bk w4 g7 83 (rc_rectA 0 0 0 0) := hL4.k 0 (by simp))
      | (refine ldB rfl _ _ rfl kg4 rfl Tryz.underlying83 rfl bx_size ?_)
      | (go_at_call 50; (with_reducible refine (hAl _).mono ?_); rintro e w9 ⟨rfl, hb9⟩))
    go_returns
    exact ⟨rfl, (hL4.nx hb9).bel⟩
end Go.Proofs.YtlbiiljncacdoaaGreat
