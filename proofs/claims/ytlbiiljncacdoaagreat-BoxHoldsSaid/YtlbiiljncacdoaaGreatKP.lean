/- Several texts in one: The law BoxOf: the walk. The law BoxOf. -/
import Derived.Test.YtlbiiljncacdoaaGreatKJ
import Derived.Test.YtlbiiljncacdoaaGreatNP
import Derived.Test.YtlbiiljncacdoaaGreatKO
import Derived.Test.YtlbiiljncacdoaaGreatKM
import Derived.Test.YtlbiiljncacdoaaGreatOX
import Derived.Test.YtlbiiljncacdoaaGreatKG
import Derived.Test.YtlbiiljncacdoaaGreatKI
section
set_option linter.unusedVariables false
namespace Go.Proofs.YtlbiiljncacdoaaGreat
open Go.RowKit
attribute [local go_sem high] run_maxM run_minM
theorem bx37_sizeD : (Tryz.prog.info? 87).map (·.size) = some 4 := by kernel_rfl
set_option maxRecDepth 100000 in
set_option maxHeartbeats 16000000 in
theorem walkBoxOf (k : Int) (A : Option Addr) (sn cp : Nat) (W H a b c d n code : Int) (Q : Int → Int → Int → Int → Prop) (w : World)
    (hbad : sn ≤ 9000 → code ≠ 0 → ∀ w' : World, Below w.heap.size w w' → Calls Tryz.prog 48 #[xfV k A sn cp, .int .i64 W, .int .i64 H, rc_rect4 a b c d, .int .i64 n] w' fun e w'' => e = .returned (.tuple #[rc_rect4 0 0 0 0, .int .i64 code]) ∧ Below w'.heap.size w' w'')
    (hok : sn ≤ 9000 → code = 0 → ∀ w' : World, Below w.heap.size w w' → Calls Tryz.prog 48 #[xfV k A sn cp, .int .i64 W, .int .i64 H, rc_rect4 a b c d, .int .i64 n] w' fun e w'' => ∃ u v s t, e = .returned (.tuple #[rc_rect4 u v s t, .int .i64 0]) ∧ Q u v s t ∧ Below w'.heap.size w' w'')
    (hC : sn ≤ 9000 → ∀ w' : World, Below w.heap.size w w' → Calls Tryz.prog 49 #[xfV k A sn cp, .int .i64 W, .int .i64 H, rc_rect4 a b c d, .int .i64 n] w' fun e w'' => e = .returned (.int .i64 code) ∧ Below w'.heap.size w' w'')
    (hR : sn ≤ 9000 → code = 0 → ∀ w' : World, Below w.heap.size w w' → Calls Tryz.prog 51 #[xfV k A sn cp, rc_rect4 a b c d, .int .i64 n] w' fun e w'' => ∃ u v s t, e = .returned (rc_rect4 u v s t) ∧ Q u v s t ∧ Below w'.heap.size w' w'')
    (hQ : ∀ u v s t u' v' s' t', Q u v s t → Q u' v' s' t' → u = u' ∧ v = v' ∧ s = s' ∧ t = t')
    (hAl : ∀ w : World, Calls Tryz.prog 50 #[] w fun e w' => e = .returned (.bool true) ∧ Below w.heap.size w w') :
    Calls Tryz.prog 9 #[xfV k A sn cp, .agg (ptA W H a b c d n)] w fun e w' => e = .returned (.bool true) ∧ Below w.heap.size w w' := by
  have hL := ((Lie.start w).alloc #[.int .i64 k, .slice A sn cp] 31).alloc (ptA W H a b c d n) 80
  simp only [World.size_alloc] at hL
  by_cases h9 : 9000 < sn
  · clear hbad hok hC hR
    go_enter Tryz.func9, Tryz.ntmps9
    go_wp2_with fail
    go_returns
    exact ⟨rfl, hL.bel⟩
  replace hbad := hbad (by omega)
  replace hok := hok (by omega)
  replace hC := hC (by omega)
  replace hR := hR (by omega)
  go_enter Tryz.func9, Tryz.ntmps9
  go_upto_region 1 with fail
  generalize hw0 : (w.alloc (.cells #[.int .i64 k, .slice A sn cp] 31)).alloc (.cells (ptA W H a b c d n) 80) = w0 at *
  clear hw0
  have hx0 := (hL.k 1 (by simp)).cell2
  have hp0 := (hL.k 0 (by simp)).cell7p
  simp only [List.getElem_cons_zero, List.getElem_cons_succ] at hx0 hp0
  obtain ⟨x0, x1⟩ := hx0
  obtain ⟨p0, p1, p2, p3, p4, p5, p6⟩ := hp0
  go_upto_region 3 with (first
    | (go_at_call 47; (with_reducible refine (soon_any W H a b c d n _).mono ?_); rintro e w1 ⟨sb, rfl, hb1⟩; cases sb))
  · go_wp2_with fail
    go_returns
    exact ⟨rfl, (hL.nx hb1).bel⟩
  have hL1 := hL.nx hb1
  clear hL hb1 x0 x1 p0 p1 p2 p3 p4 p5 p6
  have hx0 := (hL1.k 1 (by simp)).cell2
  have kx1 := hL1.k 1 (by simp)
  have hp0 := (hL1.k 0 (by simp)).cell7p
  simp only [List.getElem_cons_zero, List.getElem_cons_succ] at hx0 hp0 kx1
  obtain ⟨x0, x1⟩ := hx0
  obtain ⟨p0, p1, p2, p3, p4, p5, p6⟩ := hp0
  by_cases hz : code = 0
  · subst hz
    replace hok := hok rfl w1 hL1.bel
    replace hR := hR rfl
    clear hbad
    go_upto_region 4 with (first
      | (refine ldB rfl _ _ rfl kx1 rfl Tryz.underlying31 rfl (show (Tryz.prog.info? 31).map (·.size) = some 2 by kernel_rfl) ?_)
      | (go_at_call 48; (with_reducible refine hok.mono ?_); rintro e w2 ⟨u, v, s, t, rfl, hQ1, hb2⟩; have hL2 := hL1.nx hb2; have hK2 := Bk.new w2 83 (rc_rectA 0 0 0 0))
      | (refine stB (ty := 83) rfl _ _ rfl hK2 (rc_rectA u v s t) rfl rfl bx_size rfl (by simp [Value.oneCell']) ?_; intro w3 k3 hg3 hs3))
    have hL3 := hL2.put hg3 k3
    generalize w2.heap.size = g5 at *
    have kx3 := hL3.k 2 (by simp)
    have hp3 := (hL3.k 1 (by simp)).cell7p
    simp only [List.getElem_cons_zero, List.getElem_cons_succ] at kx3 hp3
    clear hL1 hL2 hb2 hK2 hg3 hs3 x0 x1 p0 p1 p2 p3 p4 p5 p6 kx1 k3 hok
    obtain ⟨p0, p1, p2, p3, p4, p5, p6⟩ := hp3
    go_upto_region 7 with (first
      | (refine ldB rfl _ _ rfl kx3 rfl Tryz.underlying31 rfl (show (Tryz.prog.info? 31).map (·.size) = some 2 by kernel_rfl) ?_)
      | (go_at_call 49; (with_reducible refine (hC _ hL3.bel).mono ?_); rintro e w4 ⟨rfl, hb4⟩))
    have hL4 := hL3.nx hb4
    have kx4 := hL4.k 2 (by simp)
    have hp4 := (hL4.k 1 (by simp)).cell7p
    simp only [List.getElem_cons_zero, List.getElem_cons_succ] at kx4 hp4
    clear hL3 hb4 p0 p1 p2 p3 p4 p5 p6 kx3 hC
    obtain ⟨p0, p1, p2, p3, p4, p5, p6⟩ := hp4
    replace hR := hR w4 hL4.bel
    go_upto_region 8 with (first
      | (refine ldB rfl _ _ rfl kx4 rfl Tryz.underlying31 rfl (show (Tryz.prog.info? 31).map (·.size) = some 2 by kernel_rfl) ?_)
      | (go_at_call 51; (with_reducible refine hR.mono ?_); rintro e w5 ⟨u', v', s', t', rfl, hQ2, hb5⟩; have hL5 := hL4.nx hb5; have hK5 := Bk.new w5 87 (rc_rectA 0 0 0 0))
      | (refine stB (ty := 87) rfl _ _ rfl hK5 (rc_rectA u' v' s' t') rfl rfl bx37_sizeD rfl (by simp [Value.oneCell']) ?_; intro w6 k6 hg6 hs6))
    obtain ⟨rfl, rfl, rfl, rfl⟩ := hQ u v s t u' v' s' t' hQ1 hQ2
    have hL6 := hL5.put hg6 k6
    obtain ⟨d0, d1, d2, d3⟩ := k6.cell4
    have hq5 := (show Bk w6 g5 83 (rc_rectA u v s t) from hL6.k 1 (by simp)).cell4
    obtain ⟨c0, c1, c2, c3⟩ := hq5
    have hq := eql_box u v s t u v s t
    rw [decide_eq_true rfl] at hq
    clear hL4 hL5 hb5 hK5 hg6 hs6 p0 p1 p2 p3 p4 p5 p6 kx4 hR hQ1 hQ2 hQ k6
    go_wp2_with (first
      | (go_at_call 50; (with_reducible refine (hAl _).mono ?_); rintro e w9 ⟨rfl, hb9⟩))
    go_returns
    exact ⟨rfl, (hL6.nx hb9).bel⟩
  · replace hbad := hbad hz w1 hL1.bel
    have hbz : (code != 0) = true := by simp [hz]
    clear hok hR hz hQ
    go_upto_region 4 with (first
      | (refine ldB rfl _ _ rfl kx1 rfl Tryz.underlying31 rfl (show (Tryz.prog.info? 31).map (·.size) = some 2 by kernel_rfl) ?_)
      | (go_at_call 48; (with_reducible refine hbad.mono ?_); rintro e w2 ⟨rfl, hb2⟩; have hL2 := hL1.nx hb2; have hK2 := Bk.new w2 83 (rc_rectA 0 0 0 0))
      | (refine stB (ty := 83) rfl _ _ rfl hK2 (rc_rectA 0 0 0 0) rfl rfl bx_size rfl (by simp [Value.oneCell']) ?_; intro w3 k3 hg3 hs3))
    have hL3 := hL2.put hg3 k3
    generalize w2.heap.size = g5 at *
    have kx3 := hL3.k 2 (by simp)
    have hp3 := (hL3.k 1 (by simp)).cell7p
    simp only [List.getElem_cons_zero, List.getElem_cons_succ] at kx3 hp3
    clear hL1 hL2 hb2 hK2 hg3 hs3 x0 x1 p0 p1 p2 p3 p4 p5 p6 kx1 k3 hbad
    obtain ⟨p0, p1, p2, p3, p4, p5, p6⟩ := hp3
    have hq := eql_box 0 0 0 0 0 0 0 0
    rw [decide_eq_true rfl] at hq
    go_wp2_with (first
      | (refine ldB rfl _ _ rfl kx3 rfl Tryz.underlying31 rfl (show (Tryz.prog.info? 31).map (·.size) = some 2 by kernel_rfl) ?_)
      | (go_at_call 49; (with_reducible refine (hC _ hL3.bel).mono ?_); rintro e w4 ⟨rfl, hb4⟩; have hL4 := hL3.nx hb4; have hq5 := (show Bk w4 g5 83 (rc_rectA 0 0 0 0) from hL4.k 0 (by simp)).cell4; obtain ⟨c0, c1, c2, c3⟩ := hq5)
      | (go_at_call 50; (with_reducible refine (hAl _).mono ?_); rintro e w9 ⟨rfl, hb9⟩))
    go_returns
    exact ⟨rfl, (hL4.nx hb9).bel⟩
end Go.Proofs.YtlbiiljncacdoaaGreat
end
section
set_option linter.unusedVariables false
namespace Go.Proofs.YtlbiiljncacdoaaGreat
open Go.RowKit
attribute [local go_sem high] run_maxM run_minM
set_option maxRecDepth 100000 in
set_option maxHeartbeats 8000000 in
theorem rof37_mesh (l : List Int) (A : Option Addr) (sn cp : Nat) (a b c d n : Int) (w : World) (hF : MeF l) (hl : l.length = sn) (hln : (l.length : Int) = meLn l) (hr : Rd w w.heap.size A (l.map (Value.int .i64))) (ha : 0 ≤ a ∧ a < c ∧ c ≤ 32768) (hb : 0 ≤ b ∧ b < d ∧ d ≤ 32768) :
    Calls Tryz.prog 51 #[xfV 4 A sn cp, rc_rect4 a b c d, .int .i64 n] w fun e w' => ∃ u v s t, e = .returned (rc_rect4 u v s t) ∧ Bxd (KnR l a b c d) (knX l) (knY l) u v s t ∧ Below w.heap.size w w' := by
  have hL := (((Lie.start w).alloc #[.int .i64 4, .slice A sn cp] 31).alloc (rc_rectA a b c d) 78).alloc (rc_rectA 0 0 0 0) 87
  simp only [World.size_alloc] at hL
  have hH := fun (w' : World) (hb' : Below w.heap.size w w') => rhull_any l A sn cp a b c d _ _ _ _ w' hF hl hln ((hr.below hb').more hb'.size) ha hb rfl rfl rfl rfl (kn_i hF ha.2.1) (kn_k hF hb.2.1)
  have eS : KnS (meI (cf l 0) (cf l 2) (2 * a - 1) 2) (meI (cf l 0) (cf l 2) (2 * c - 1) 2) (meI (cf l 1) (cf l 3) (2 * b - 1) 2) (meI (cf l 1) (cf l 3) (2 * d - 1) 2) = KnR l a b c d := rfl
  rw [eS] at hH
  have hx := (hL.k 2 (by simp)).cell2
  have hq := (hL.k 1 (by simp)).cell4
  simp only [List.getElem_cons_zero, List.getElem_cons_succ] at hx hq
  obtain ⟨x0, x1⟩ := hx
  obtain ⟨y0, y1, y2, y3⟩ := hq
  clear hF hl hln hr ha hb eS
  go_enter Tryz.func51, Tryz.ntmps51
  go_upto_region 1 with fail
  replace hH := hH _ hL.bel
  generalize hw0 : (((w.alloc (.cells #[.int .i64 4, .slice A sn cp] 31)).alloc (.cells (rc_rectA a b c d) 78)).alloc (.cells (rc_rectA 0 0 0 0) 87)) = w0 at *
  clear hw0
  go_upto_region 3 with (first
    | (go_at_call 114; (with_reducible refine hH.mono ?_); rintro e w2 ⟨u, v, s, t, rfl, hS, hb2⟩; have hL2 := hL.nx hb2; have hg2 := Bk.new w2 78 (rc_rectA 0 0 0 0))
    | (refine rc_stRect rfl _ _ rfl hg2 rfl rfl rfl ?_; intro w3 k3 hg3 hs3))
  have hL3 := hL2.put hg3 k3
  have k83 : Bk w3 (w.heap.size + 1 + 1) 87 (rc_rectA 0 0 0 0) := hL3.k 1 (by simp)
  obtain ⟨z0, z1, z2, z3⟩ := k3.cell4
  clear hL hH hb2 hg2 hg3 hs3 k3 hL2 y0 y1 y2 y3 x0 x1
  go_wp2_with (first
    | (refine stB (ty := 87) rfl _ _ rfl k83 (rc_rectA u v s t) rfl rfl bx37_sizeD rfl (by simp [Value.oneCell']) ?_; intro w4 k84 hg4 hs4))
  refine bodyPost_ret (res_cell rfl k84 rfl Tryz.underlying87 rfl bx37_sizeD) rfl ?_
  exact ⟨u, v, s, t, rfl, hS, below_of_gb hL3.bel hg4 (by omega) hL3.sz⟩
theorem ca_part : Tryz.prog.cellsOf 80 = 7 := by kernel_rfl
theorem ca_rect : Tryz.prog.cellsOf 78 = 4 := by kernel_rfl
theorem ca_int37 : Tryz.prog.cellsOf 3 = 1 := by kernel_rfl
set_option maxRecDepth 100000 in
theorem open_rect4 {w : World} {cs : List Value} (h : Rv Tryz.prog w 78 cs) : ∃ a b c d : Int, cs = [.int .i64 a, .int .i64 b, .int .i64 c, .int .i64 d] := by
  obtain ⟨hl, hf⟩ := rv_struct Tryz.underlying78 h
  rw [ca_rect] at hl
  match cs, hl with
  | [v0, v1, v2, v3], _ =>
    have g0 : Rv Tryz.prog w 3 (([v0, v1, v2, v3].drop 0).take (Tryz.prog.cellsOf 3)) := hf 0 _ rfl
    have g1 : Rv Tryz.prog w 3 (([v0, v1, v2, v3].drop 1).take (Tryz.prog.cellsOf 3)) := hf 1 _ rfl
    have g2 : Rv Tryz.prog w 3 (([v0, v1, v2, v3].drop 2).take (Tryz.prog.cellsOf 3)) := hf 2 _ rfl
    have g3 : Rv Tryz.prog w 3 (([v0, v1, v2, v3].drop 3).take (Tryz.prog.cellsOf 3)) := hf 3 _ rfl
    rw [ca_int37] at g0 g1 g2 g3
    obtain ⟨a, e0, _⟩ := rv_int Tryz.underlying3 g0
    obtain ⟨b, e1, _⟩ := rv_int Tryz.underlying3 g1
    obtain ⟨c, e2, _⟩ := rv_int Tryz.underlying3 g2
    obtain ⟨d, e3, _⟩ := rv_int Tryz.underlying3 g3
    simp at e0 e1 e2 e3
    subst e0 e1 e2 e3
    exact ⟨a, b, c, d, rfl⟩
set_option maxRecDepth 100000 in
theorem open_part {w : World} {cs : List Value} (h : Rv Tryz.prog w 80 cs) : ∃ W H a b c d n : Int, cs = (ptA W H a b c d n).toList := by
  obtain ⟨hl, hf⟩ := rv_struct Tryz.underlying80 h
  rw [ca_part] at hl
  match cs, hl with
  | [v0, v1, v2, v3, v4, v5, v6], _ =>
    have g0 : Rv Tryz.prog w 3 (([v0, v1, v2, v3, v4, v5, v6].drop 0).take (Tryz.prog.cellsOf 3)) := hf 0 _ rfl
    have g1 : Rv Tryz.prog w 3 (([v0, v1, v2, v3, v4, v5, v6].drop 1).take (Tryz.prog.cellsOf 3)) := hf 1 _ rfl
    have g2 : Rv Tryz.prog w 78 (([v0, v1, v2, v3, v4, v5, v6].drop 2).take (Tryz.prog.cellsOf 78)) := hf 2 _ rfl
    have g3 : Rv Tryz.prog w 3 (([v0, v1, v2, v3, v4, v5, v6].drop 6).take (Tryz.prog.cellsOf 3)) := hf 3 _ rfl
    rw [ca_int37] at g0 g1 g3
    rw [ca_rect] at g2
    obtain ⟨W, e0, _⟩ := rv_int Tryz.underlying3 g0
    obtain ⟨H, e1, _⟩ := rv_int Tryz.underlying3 g1
    obtain ⟨a, b, c, d, e2⟩ := open_rect4 g2
    obtain ⟨n, e3, _⟩ := rv_int Tryz.underlying3 g3
    simp at e0 e1 e2 e3
    obtain ⟨f0, f1, f2, f3⟩ := e2
    subst e0 e1 f0 f1 f2 f3 e3
    exact ⟨W, H, a, b, c, d, n, rfl⟩
/-- What a code of 0 tells. -/
structure BxOk (k : Int) (l : List Int) (W H a b c d n : Int) : Prop where
  x : xC k l W H = 0
  e : ¬ rc_emptyR a b c d
  a0 : 0 ≤ a
  b0 : 0 ≤ b
  c0 : c ≤ W
  d0 : d ≤ H
  n0 : 0 ≤ n ∧ n ≤ 8
theorem bxOk {k : Int} {l : List Int} {W H a b c d n : Int} (h : bxC (xC k l W H) a b c d W H n = 0) : BxOk k l W H a b c d n := by
  rcases bx_cases (xC k l W H) a b c d W H n with ⟨h0, HE⟩ | ⟨h0, h1, HE⟩ | ⟨h0, h1, h2, HE⟩ | ⟨h0, h1, h2, h3⟩
  · exact absurd (HE.out.symm.trans h) h0
  · exact absurd (HE.out.symm.trans h) (by decide)
  · exact absurd (HE.out.symm.trans h) (by decide)
  · have hn : 0 ≤ n ∧ n ≤ 8 := by
      rcases h3 with ⟨_, HE⟩ | ⟨_, _, HE⟩ | ⟨a, b, HE⟩
      · exact absurd (HE.out.symm.trans h) (by decide)
      · exact absurd (HE.out.symm.trans h) (by decide)
      · exact ⟨a, b⟩
    unfold bothR at h2
    split at h2
    · simp only [Prod.mk.injEq] at h2
      obtain ⟨rfl, rfl, rfl, rfl⟩ := h2
      exact absurd (by simp [rc_emptyR]) h1
    · simp only [Prod.mk.injEq] at h2
      exact ⟨h0, h1, by omega, by omega, by omega, by omega, hn⟩
theorem BxOk.rg {k : Int} {l : List Int} {W H a b c d n : Int} (h : BxOk k l W H a b c d n) : ((1 ≤ W ∧ W ≤ 32768) ∧ (1 ≤ H ∧ H ≤ 32768)) ∧ a < c ∧ b < d := by
  refine ⟨szH_iff.1 (xC_zero h.x).2.1, ?_⟩
  have := h.e
  simp only [rc_emptyR, rc_rightR, rc_inR] at this
  have := h.a0
  have := h.b0
  have := h.c0
  have := h.d0
  have := szH_iff.1 (xC_zero h.x).2.1
  omega
/-- Each place of a part lies within the image, and half a pixel around it. -/
theorem BxOk.inn {k : Int} {l : List Int} {W H a b c d n : Int} (h : BxOk k l W H a b c d n) (X Y : Int) (x0 : paF n a ≤ X) (x1 : X ≤ paL n (c - 1)) (y0 : paF n b ≤ Y) (y1 : Y ≤ paL n (d - 1)) :
    rightH X Y (plD n) = true ∧ -plD n ≤ 2 * X ∧ 2 * X ≤ (2 * W - 1) * plD n ∧ -plD n ≤ 2 * Y ∧ 2 * Y ≤ (2 * H - 1) * plD n := by
  obtain ⟨⟨hW, hH⟩, _⟩ := h.rg
  obtain ⟨⟨g1, g2⟩, g3⟩ := ax_in h.n0 h.a0 h.c0 hW x0 x1
  obtain ⟨⟨g4, g5⟩, g6⟩ := ax_in h.n0 h.b0 h.d0 hH y0 y1
  exact ⟨rightH_iff.2 ⟨g3, g6, (plD_bd h.n0).1, (plD_bd h.n0).2⟩, g1, g2, g4, g5⟩
theorem als_in {s x0 y0 X Y x y : Int} (h : AlS s x0 y0 X Y x y) : (x0 ≤ x ∧ x ≤ X) ∧ (y0 ≤ y ∧ y ≤ Y) := ⟨⟨h.1.1.1, h.1.2⟩, h.2.1.1, h.2.2⟩
theorem pa_on {n a c : Int} (hn : 0 ≤ n ∧ n ≤ 8) (h : a < c) : On (stp n) (paF n a) (paL n (c - 1)) := by
  refine ⟨pa_le hn h, ?_⟩
  unfold stp paF paL
  by_cases h0 : n = 0
  · subst h0; simp
  · rw [if_neg h0, if_neg h0, if_pos (by omega)]
    have e1 : 2 * n * (c - 1) = 2 * (n * (c - 1)) := by grind
    have e2 : 2 * n * a = 2 * (n * a) := by grind
    omega
theorem BxOk.bd {k : Int} {l : List Int} {W H a b c d n : Int} (h : BxOk k l W H a b c d n) (X Y : Int) (hS : PxS n a b c d X Y) :
    xE k l X Y (plD n) = 0 ∧ (-70368744177664 ≤ xF k l X Y (plD n) ∧ xF k l X Y (plD n) ≤ 70368744177664) ∧ (-70368744177664 ≤ xG k l X Y (plD n) ∧ xG k l X Y (plD n) ≤ 70368744177664) := by
  obtain ⟨⟨g1, g2⟩, g3, g4⟩ := als_in ((px_al h.n0).1 hS)
  obtain ⟨i1, i2, i3, i4, i5⟩ := h.inn X Y g1 g2 g3 g4
  exact in_plain h.x i1 i2 i3 i4 i5
/-- The boxes that are told. -/
def BxQ (k : Int) (l : List Int) (a b c d n u v s t : Int) : Prop := if k = 4 then Bxd (KnR l a b c d) (knX l) (knY l) u v s t else Bxd (PxS n a b c d) (fun X Y => xF k l X Y (plD n)) (fun X Y => xG k l X Y (plD n)) u v s t
set_option maxHeartbeats 1000000 in
theorem bof_ok (k : Int) (l : List Int) (A : Option Addr) (sn cp : Nat) (W H a b c d n : Int) (w : World) (h : BxOk k l W H a b c d n) (hl : l.length = sn) (hcp : sn ≤ cp) (hcm : cp ≤ maxLen) (hr : Rd w w.heap.size A (l.map (Value.int .i64))) :
    Calls Tryz.prog 48 #[xfV k A sn cp, .int .i64 W, .int .i64 H, rc_rect4 a b c d, .int .i64 n] w fun e w' => ∃ u v s t, e = .returned (.tuple #[rc_rect4 u v s t, .int .i64 0]) ∧ BxQ k l a b c d n u v s t ∧ Below w.heap.size w w' := by
  have hN := newIs_any k l A sn cp W H w hl hcp hcm hr
  rw [h.x] at hN
  obtain ⟨⟨hW, hH⟩, hac, hbd⟩ := h.rg
  by_cases h4 : k = 4
  · subst h4
    refine (bof_mesh l A sn cp W H a b c d n _ _ _ w hN hl hcp hcm hr (xC_zero h.x).2.2 hW hH h.e h.a0 h.b0 h.c0 h.d0 h.n0).mono ?_
    rintro e w' ⟨u, v, s, t, rfl, hS, hb⟩
    exact ⟨u, v, s, t, rfl, by unfold BxQ; rw [if_pos rfl]; exact hS, hb⟩
  · by_cases h35 : k = 3 ∨ k = 5
    · refine (bof_all k A sn cp W H a b c d n _ _ _ w hN h35 hW hH h.e h.a0 h.b0 h.c0 h.d0 h.n0).mono ?_
      rintro e w' ⟨u, v, s, t, rfl, hS, hb⟩
      refine ⟨u, v, s, t, rfl, ?_, hb⟩
      unfold BxQ
      rw [if_neg h4, plD_eq h.n0.1]
      exact hS.ext (fun X Y => (px_al h.n0).symm)
    · refine (bof_corner k A sn cp W H a b c d n _ _ _ w hN ⟨fun e => h35 (.inl e), h4, fun e => h35 (.inr e)⟩ hW hH h.e h.a0 h.b0 h.c0 h.d0 h.n0).mono ?_
      rintro e w' ⟨rfl, hb⟩
      refine ⟨_, _, _, _, rfl, ?_, hb⟩
      unfold BxQ
      rw [if_neg h4, ← plD_eq h.n0.1]
      have hk := (xC_zero h.x).1
      obtain ⟨m1, m2⟩ := mid_kind h.x (by omega) (plD_bd h.n0) (pa_le h.n0 hac) (pa_le h.n0 hbd) (fun X Y a b c d => h.inn X Y a b c d)
      have o1 := pa_on h.n0 hac
      have o2 := pa_on h.n0 hbd
      have s1 := @on_start (stp n) (paF n a)
      have s2 := @on_start (stp n) (paF n b)
      have l1 := pa_le h.n0 hac
      have l2 := pa_le h.n0 hbd
      exact (bxd_corner m1 m2 (fun X Y hS => als_in hS) ⟨⟨s1, l1⟩, s2, l2⟩ ⟨⟨o1, Int.le_refl _⟩, s2, l2⟩ ⟨⟨s1, l1⟩, o2, Int.le_refl _⟩ ⟨⟨o1, Int.le_refl _⟩, o2, Int.le_refl _⟩).ext (fun X Y => (px_al h.n0).symm)
theorem rof_ok (k : Int) (l : List Int) (A : Option Addr) (sn cp : Nat) (W H a b c d n : Int) (w : World) (h : BxOk k l W H a b c d n) (hl : l.length = sn) (hr : Rd w w.heap.size A (l.map (Value.int .i64))) :
    Calls Tryz.prog 51 #[xfV k A sn cp, rc_rect4 a b c d, .int .i64 n] w fun e w' => ∃ u v s t, e = .returned (rc_rect4 u v s t) ∧ BxQ k l a b c d n u v s t ∧ Below w.heap.size w w' := by
  obtain ⟨⟨hW, hH⟩, hac, hbd⟩ := h.rg
  have a0 := h.a0
  have b0 := h.b0
  have c0 := h.c0
  have d0 := h.d0
  by_cases h4 : k = 4
  · subst h4
    have hz : meC l W H = 0 := (xC_zero h.x).2.2
    refine (rof37_mesh l A sn cp a b c d n w (meC_F hz) hl (meC_zero.1 hz).2.2.1 hr ⟨a0, hac, by omega⟩ ⟨b0, hbd, by omega⟩).mono ?_
    rintro e w' ⟨u, v, s, t, rfl, hS, hb⟩
    exact ⟨u, v, s, t, rfl, by unfold BxQ; rw [if_pos rfl]; exact hS, hb⟩
  · refine (rof37_any k A sn cp a b c d n (fun X Y => xF k l X Y (plD n)) (fun X Y => xG k l X Y (plD n)) (fun X Y => xE k l X Y (plD n)) w h4 h.n0 ⟨a0, hac, by omega⟩ ⟨b0, hbd, by omega⟩ (fun X Y w' hb => rat24 k l A sn cp W H X Y (plD n) w' hl (hr.below hb) hb.size h.x) (fun X Y hS => by obtain ⟨_, g1, g2⟩ := h.bd X Y hS; omega)).mono ?_
    rintro e w' ⟨u, v, s, t, rfl, hS, hb⟩
    exact ⟨u, v, s, t, rfl, by unfold BxQ; rw [if_neg h4]; exact hS, hb⟩
theorem bxQ_uniq (k : Int) (l : List Int) (a b c d n u v s t u' v' s' t' : Int) (h : BxQ k l a b c d n u v s t) (h' : BxQ k l a b c d n u' v' s' t') : u = u' ∧ v = v' ∧ s = s' ∧ t = t' := by
  unfold BxQ at h h'
  split at h
  · rename_i h4; rw [if_pos h4] at h'; exact h.uniq h'
  · rename_i h4; rw [if_neg h4] at h'; exact h.uniq h'
theorem lawBoxOf (cs0 cs1 : Array Value) (w : World) (h0 : Rv Tryz.prog w 31 cs0.toList) (h1 : Rv Tryz.prog w 80 cs1.toList) :
    Calls Tryz.prog 9 #[.agg cs0, .agg cs1] w fun e w' => e = .returned (.bool true) ∧ Below w.heap.size w w' := by
  obtain ⟨k, A, sn, cp, l, e0, _, hl, hn, hcm, hok, hr⟩ := open_xform h0
  obtain rfl : cs0 = #[.int .i64 k, .slice A sn cp] := by cases cs0; simp at e0; simp [e0]
  obtain ⟨W, H, a, b, c, d, n, e1⟩ := open_part h1
  obtain rfl : cs1 = ptA W H a b c d n := Array.toList_inj.1 e1
  have hn63 : sn ≤ 9223372036854775807 := by simp [maxLen] at hcm; omega
  have hr' := fun (w' : World) (hb : Below w.heap.size w w') => ((hr.below hb).more hb.size : Rd w' w'.heap.size A (l.map (Value.int .i64)))
  exact walkBoxOf k A sn cp W H a b c d n (bxC (xC k l W H) a b c d W H n) (BxQ k l a b c d n) w
    (fun _ hz w' hb => bof_bad k A sn cp W H a b c d n (xC k l W H) _ _ _ w' (newIs_any k l A sn cp W H w' hl hn hcm (hr' w' hb)) hz)
    (fun _ hz w' hb => bof_ok k l A sn cp W H a b c d n w' (bxOk hz) hl hn hcm (hr' w' hb))
    (fun _ w' hb => rcheck37_any k A sn cp W H a b c d n (xC k l W H) w' (fun w'' hb' => rcheck24 k l A sn cp W H w'' hl hn63 ((hr' w' hb).below hb') hb'.size hok) (fun hz => szH_iff.1 (xC_zero hz).2.1))
    (fun _ hz w' hb => rof_ok k l A sn cp W H a b c d n w' (bxOk hz) hl (hr' w' hb))
    (bxQ_uniq k l a b c d n) alive37
end Go.Proofs.YtlbiiljncacdoaaGreat
end
