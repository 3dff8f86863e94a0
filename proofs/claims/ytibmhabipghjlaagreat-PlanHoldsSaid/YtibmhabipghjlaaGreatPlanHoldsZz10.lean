/- Several texts in one: plan's reference: the tiles of an image. plan's reference: what is wrong with a job. plan: the tiles told so far, run by run. Where the sort of ints, and their compacting, lie (printed by wip/tools/genpls.sh at this seat). plan: the sort of ints, and their compacting, at a row of one's own. plan: what compacting leaves of a rising list. plan: compacting a row of ints of one's own. plan: where the tiles of an image are told from (region 1 printed by wip/tools/genpl17.py, the rest by hand). -/
import Derived.Test.YtibmhabipghjlaaGreatPlanHoldsZz9
import Derived.Test.YtibmhabipghjlaaGreatPlanHoldsZz1
import Derived.Test.YtibmhabipghjlaaGreatPlanHoldsZz3
import Derived.Test.YtibmhabipghjlaaGreatPlanHoldsZz2
import Derived.Shelf.Lays
import Derived.Shelf.Lays2
import Derived.Shelf.Sort.AssemblyIn
import Derived.Shelf.Slices.In.SortNone
import Derived.Shelf.Slices.In.CompactI
import Derived.Sort.OwnSortedInts
import Derived.Lib.RowBridge
import Derived.Test.YtibmhabipghjlaaGreatPlanHoldsZz8
section
set_option linter.unusedVariables false
namespace Go.Proofs.YtibmhabipghjlaaGreat
open Go.RowKit
/-- The tiles told so far. -/
def lvq (tb : Nat → Bool) (q : Nat) : List Int := ((List.range q).filter tb).map fun (i : Nat) => (i : Int)
theorem lvq_yes {tb : Nat → Bool} {q : Nat} (h : tb q = true) : lvq tb (q + 1) = lvq tb q ++ [(q : Int)] := by
  unfold lvq; rw [List.range_succ, List.filter_append, List.map_append]; simp [h]
theorem lvq_no {tb : Nat → Bool} {q : Nat} (h : tb q = false) : lvq tb (q + 1) = lvq tb q := by
  unfold lvq; rw [List.range_succ, List.filter_append, List.map_append]; simp [h]
theorem lvq_len (tb : Nat → Bool) (q : Nat) : (lvq tb q).length ≤ q := by
  unfold lvq; rw [List.length_map]; exact Nat.le_trans (List.length_filter_le _ _) (by simp)
theorem lvq_fit {q N l : Nat} (hN : N ≤ 2000000000) (hq : q ≤ N) (hl : l ≤ q) : (l + 1) * 8 ≤ 140737488355328 ∧ l + 1 ≤ 9223372036854775807 ∧ wrap64 ((q : Int) + 1) = (q : Int) + 1 :=
  ⟨by omega, by omega, IntWalk.wrap64_in _ ⟨by omega, by omega⟩⟩
theorem dec_i {q N : Nat} (hz : wrap64 ((q : Int) + 1) = (q : Int) + 1) (h : q < N) : ((N : Int) - intOf (.int .i64 (wrap64 ((q : Int) + 1)))).toNat < ((N : Int) - intOf (.int .i64 (q : Int))).toNat := by
  rw [hz]
  clear hz
  show ((N : Int) - ((q : Int) + 1)).toNat < ((N : Int) - (q : Int)).toNat
  omega
set_option maxRecDepth 100000 in
set_option maxHeartbeats 4000000 in
theorem rlevel39 (j : Jb) (k : Nat) (W H : Nat) (cs rs : List Rn) (w : World) (h0 : grC W H j.TW j.TH = 0) (hW4 : W ≤ 32768) (hH4 : H ≤ 32768)
    (hSz : ∀ w', Calls Tryz.prog 29 #[.int .i64 j.W, .int .i64 j.H, .int .i64 k] w' fun e w'' => e = .returned (.tuple #[.int .i64 (W : Int), .int .i64 (H : Int)]) ∧ w' = w'')
    (hMc : ∀ w', Calls Tryz.prog 30 #[.agg j.cells, .int .i64 k, .int .i64 j.U0, .int .i64 j.U1, .int .i64 (W : Int)] w' fun e w'' => ∃ v bs, e = .returned v ∧ bs.length = W ∧ w''.ownsRow w'.heap.size 4 1 v W (bs.map Value.bool) ∧ Below w'.heap.size w' w'' ∧ Marks bs cs)
    (hMr : ∀ w', Calls Tryz.prog 30 #[.agg j.cells, .int .i64 k, .int .i64 j.V0, .int .i64 j.V1, .int .i64 (H : Int)] w' fun e w'' => ∃ v bs, e = .returned v ∧ bs.length = H ∧ w''.ownsRow w'.heap.size 4 1 v H (bs.map Value.bool) ∧ Below w'.heap.size w' w'' ∧ Marks bs rs) :
    Calls Tryz.prog 12 #[.agg j.cells, .int .i64 k] w fun e w' => ∃ v, e = .returned v ∧ w'.ownsRow w.heap.size 3 1 v (levL W H j.TW j.TH cs rs).length ((levL W H j.TW j.TH cs rs).map fun i => Value.int .i64 i) ∧ Below w.heap.size w w' := by
  have hTi := fun w' => rtiles_any W H j.TW j.TH w' h0
  have hN : ∀ q : Nat, q < (grN W j.TW * grN H j.TH).toNat → (0 ≤ tlX W j.TW q ∧ tlX W j.TW q < W) ∧ (0 ≤ tlY W j.TW j.TH q ∧ tlY W j.TW j.TH q < H) := fun q hq => ⟨(tl_xy h0 ⟨by omega, by omega⟩).1, (tl_xy h0 ⟨by omega, by omega⟩).2.1⟩
  have hNb : (grN W j.TW * grN H j.TH).toNat ≤ 2000000000 := by
    obtain ⟨⟨_, _⟩, ⟨_, _⟩, hTW, hTH⟩ := grC_zero.1 h0
    obtain ⟨g0, g1, _⟩ := grN_bd (W := (W : Int)) (by omega) hTW
    obtain ⟨g2, g3, _⟩ := grN_bd (W := (H : Int)) (by omega) hTH
    have : grN W j.TW * grN H j.TH ≤ 36864 * 36864 := Int.mul_le_mul g1 g3 (by omega) (by omega)
    omega
  have hend : lvq (tileB W H j.TW j.TH cs rs) (grN W j.TW * grN H j.TH).toNat = levL W H j.TW j.TH cs rs := rfl
  have HE := Lib.hid hend
  have hyes := fun (q : Nat) => @lvq_yes (tileB W H j.TW j.TH cs rs) q
  have hno := fun (q : Nat) => @lvq_no (tileB W H j.TW j.TH cs rs) q
  have hlen := fun (q : Nat) => @lvq_len (tileB W H j.TW j.TH cs rs) q
  have htb : ∀ q : Nat, tileB W H j.TW j.TH cs rs q = (hitB cs (tlX W j.TW q) (min (tlX W j.TW q + j.TW) W) && hitB rs (tlY W j.TW j.TH q) (min (tlY W j.TW j.TH q + j.TH) H)) := fun q => rfl
  have hrd := fun (wr : World) (B : Nat) (A : Option Addr) (hR : Rd wr B A (encG W H j.TW j.TH (grN W j.TW * grN H j.TH).toNat)) (q : Nat) (hq : q < (grN W j.TW * grN H j.TH).toNat) => rd_tlR hR q hq
  have hlv0 : lvq (tileB W H j.TW j.TH cs rs) 0 = [] := rfl
  generalize encG W H j.TW j.TH (grN W j.TW * grN H j.TH).toNat = EL at *
  generalize lvq (tileB W H j.TW j.TH cs rs) = lf at *
  generalize levL W H j.TW j.TH cs rs = LL at *
  generalize (grN W j.TW * grN H j.TH).toNat = N at *
  generalize tileB W H j.TW j.TH cs rs = tb at *
  have HH := Lib.hid (And.intro hyes (And.intro hno (And.intro hlen (And.intro htb hN))))
  clear hyes hno hlen htb hN hend h0
  have hL := (Lie.start w).alloc j.cells 31
  have k0 : Bk _ w.heap.size 31 j.cells := hL.k 0 (by simp)
  have hb0 := hL.bel
  obtain ⟨y0, y1, y2, y3, y4, y5, y6, y7, y8, y9, y10, y11, y12, y13, y14⟩ := k0.cellJ
  clear hL
  go_enter Tryz.func12, Tryz.ntmps12
  clear y4 y5 y6 y7 y8 y9 y12
  go_wp2_with (first
    | (go_at_call 29; (with_reducible refine (hSz _).mono ?_); rintro e w1 ⟨rfl, rfl⟩)
    | (go_at_call 30; (with_reducible refine (hMc _).mono ?_); rintro e w2 ⟨v1, bs1, rfl, hl1, ho1, hb1, hm1⟩; have k1 := k0.nx hb1; obtain ⟨z0, z1, z2, z3, z4, z5, z6, z7, z8, z9, z10, z11, z12, z13, z14⟩ := k1.cellJ; have s1 := (hb0.trans (hb1.mono hb0.size)))
    | (go_at_call 30; (with_reducible refine (hMr _).mono ?_); rintro e w3 ⟨v2, bs2, rfl, hl2, ho2, hb2, hm2⟩; have k2 := k1.nx hb2; obtain ⟨u0, u1, u2, u3, u4, u5, u6, u7, u8, u9, u10, u11, u12, u13, u14⟩ := k2.cellJ; have s2 := (s1.trans (hb2.mono s1.size)))
    | (go_at_call 31; (with_reducible refine (hTi _).mono ?_); rintro e w4 ⟨v3, rfl, ho3, hb3⟩; have s3 := (s2.trans (hb3.mono s2.size)); obtain ⟨A3, c3, rfl, -, -, hr3, -⟩ := own_form ho3))
  clear hSz hMc hMr hTi y0 y1 y2 y3 y10 y11 y13 y14 z0 z1 z2 z3 z4 z5 z6 z7 z8 z9 z10 z11 z12 z13 z14 u0 u1 u2 u3 u4 u5 u6 u7 u8 u9 u10 u11 u12 u13 u14
  obtain ⟨A1, c1, rfl, -, -, hr1, -⟩ := own_form ho1
  obtain ⟨A2, c2, rfl, -, -, hr2, -⟩ := own_form ho2
  have z2 := hb2.size
  have z3 := hb3.size
  have R1 : Rd w4 w2.heap.size A1 (bs1.map Value.bool) := (hr1.below hb2).below' hb3 z2
  have R2 : Rd w4 w3.heap.size A2 (bs2.map Value.bool) := hr2.below hb3
  clear hr1 hr2 ho1 ho2 ho3 hb2 hb3 s1 s2 k1 k2 k0 hb0 hb1
  have z4 := s3.size
  have z24 : w2.heap.size ≤ w4.heap.size := by omega
  have z34 : w3.heap.size ≤ w4.heap.size := z3
  have hrd' := fun (wr : World) (hb : Below w4.heap.size w4 wr) (q : Nat) (hq : q < N) => hrd wr _ _ (hr3.below hb) q hq
  have HRD := Lib.hid hrd'
  clear hrd' hrd hr3
  go_loopw [9, 50] (fun v i wr => ∃ q : Nat, q ≤ N ∧ i = .int .i64 (q : Int) ∧ wr.ownsRow w4.heap.size 3 1 v (lf q).length ((lf q).map (Value.int .i64)) ∧ Below w4.heap.size w4 wr) (fun _ i _ => (N - intOf i).toNat)
  case atStart => exact ⟨0, by omega, rfl, by rw [hlv0]; simpa using World.ownsRow_nil _ _ _ _, Below.refl _ _⟩
  case round =>
    obtain ⟨q, hq, rfl, hown, hbel⟩ := hrel
    have hbz := hbel.size
    by_cases hlt : (q : Int) < (N : Int)
    · obtain ⟨hyes, hno, hlen, htb, hN⟩ := HH.out
      obtain ⟨b3, o3, rfl, hb3, e0, e1, e2, e3⟩ := HRD.out wr hbel q (by omega)
      obtain ⟨⟨x0, x1⟩, y0, y1⟩ := hN q (by omega)
      have ht := htb q
      have hy := hyes q
      have hn := hno q
      have hl := hlen q
      clear hyes hno hlen htb hN HRD
      have v1 := (lvq_fit hNb hq (Nat.zero_le q)).2.2
      have hx2 : min (tlX W j.TW q + j.TW) W ≤ W := by omega
      have hy2 : min (tlY W j.TW j.TH q + j.TH) H ≤ H := by omega
      generalize min (tlX W j.TW q + j.TW) W = X1 at *
      generalize min (tlY W j.TW j.TH q + j.TH) H = Y1 at *
      generalize tlX W j.TW q = X0 at *
      generalize tlY W j.TW j.TH q = Y0 at *
      have hA1 := fun w' (hb : Below w4.heap.size w4 w') => rany39 bs1 cs hm1 A1 W c1 X0 X1 w' hl1 (by omega) (R1.below' hb z24) x0 hx2
      have hA2 := fun w' (hb : Below w4.heap.size w4 w') => rany39 bs2 rs hm2 A2 H c2 Y0 Y1 w' hl2 (by omega) (R2.below' hb z34) y0 hy2
      generalize hitB cs X0 X1 = b1 at *
      generalize hitB rs Y0 Y1 = b2 at *
      generalize hg : tb q = tq at *
      clear hg
      subst ht
      have k11 := Bk.new wr 84 (rc_rectA 0 0 0 0)
      have hbA := (Below.refl wr.heap.size wr).alloc (Nat.le_refl _) (.cells (rc_rectA 0 0 0 0) 84)
      obtain ⟨hq81, hq82, -⟩ := lvq_fit hNb hq hl
      have HQ := Lib.hid (And.intro hq81 hq82)
      clear hq81 hq82 hNb
      have HY := Lib.hid (And.intro hy hn)
      clear hy hn hm1 hm2 HH HE hl R1 R2
      go_upto_region 8 with (refine stB (ty := 84) (cells := rc_rectA X0 Y0 X1 Y1) rfl _ _ rfl k11 rfl rfl rc_rect_size rfl (by simp [Value.oneCell']) ?_; intro w5 k5 hg5 hs5)
      have hB5 := below_of_gb hbA hg5 (Nat.le_refl _) (by simp)
      have hbel5 := hbel.trans (hB5.mono hbz)
      have hown5 := own_below hown hB5 (Nat.le_refl _)
      have hz5 := hbel5.size
      obtain ⟨f0, f1, f2, f3⟩ := k5.cell4
      clear hown hbel e0 e1 e2 e3 k11 hbA hg5 hs5 hB5
      have hA1' := hA1 _ hbel5
      have hA2' := hA2 _ hbel5
      clear hA1 hA2
      cases b1
      · have hn := HY.out.2 rfl
        go_wp2_with (go_at_call 32; (with_reducible refine hA1'.mono ?_); rintro e w6 ⟨rfl, rfl⟩)
        have V1 := Lib.hid v1
        clear v1
        exact ⟨⟨q + 1, by omega, (by rw [V1.out]; simp), by rw [hn]; exact hown5, hbel5⟩, dec_i V1.out (by omega)⟩
      · cases b2
        · have hn := HY.out.2 rfl
          go_wp2_with (first
            | (go_at_call 32; (with_reducible refine hA1'.mono ?_); rintro e w6 ⟨rfl, rfl⟩)
            | (go_at_call 32; (with_reducible refine hA2'.mono ?_); rintro e w6 ⟨rfl, rfl⟩))
          have V1 := Lib.hid v1
          clear v1
          exact ⟨⟨q + 1, by omega, (by rw [V1.out]; simp), by rw [hn]; exact hown5, hbel5⟩, dec_i V1.out (by omega)⟩
        · have hy := HY.out.1 rfl
          go_wp2_with (first
            | (go_at_call 32; (with_reducible refine hA1'.mono ?_); rintro e w6 ⟨rfl, rfl⟩)
            | (go_at_call 32; (with_reducible refine hA2'.mono ?_); rintro e w6 ⟨rfl, rfl⟩)
            | (at_builtin; refine app1 rfl _ _ _ rfl Tryz.underlying41 int_infoP rfl (by omega) rfl rfl hown5 hbel5 (Nat.le_refl _) hz5 rfl (by simp [Value.oneCell']) HQ.out.1 HQ.out.2 ?_; intro v' w' hown' hbel' _ _ _; clear hown5))
          have V1 := Lib.hid v1
          clear v1
          exact ⟨⟨q + 1, by omega, (by rw [V1.out]; simp), by rw [hy, List.length_append, List.map_append]; exact hown', hbel'⟩, dec_i V1.out (by omega)⟩
    · have hqN : q = N := by omega
      subst hqN
      have hend := HE.out
      go_wp2_with fail
      go_returns
      exact ⟨_, rfl, by rw [← hend]; exact own_base hown z4, s3.trans (hbel.mono z4)⟩
end Go.Proofs.YtibmhabipghjlaaGreat
end
section
set_option linter.unusedVariables false
namespace Go.Proofs.YtibmhabipghjlaaGreat
open Go.RowKit
theorem dec_j {q N : Nat} (h : q < N) : ((N : Int) - intOf (.int .i64 ((q : Int) + 1))).toNat < ((N : Int) - intOf (.int .i64 (q : Int))).toNat := by
  show ((N : Int) - ((q : Int) + 1)).toNat < ((N : Int) - (q : Int)).toNat
  omega
theorem rbox_size37 : (Tryz.prog.info? 29).map (·.size) = some 4 := by kernel_rfl
set_option maxRecDepth 100000 in
set_option maxHeartbeats 4000000 in
theorem rchk_bad (j : Jb) (w : World) (h : j.K < 0 ∨ (0 ≤ j.K ∧ 3 < j.K) ∨ (0 ≤ j.K ∧ j.K ≤ 3 ∧ j.mo < 0) ∨ (0 ≤ j.K ∧ j.K ≤ 3 ∧ 0 ≤ j.mo ∧ 3 < j.mo)) : Calls Tryz.prog 6 #[.agg j.cells] w fun e w' => e = .returned (.int .i64 10) ∧ Below w.heap.size w w' := by
  have hL := (Lie.start w).alloc j.cells 31
  have k0 : Bk _ w.heap.size 31 j.cells := hL.k 0 (by simp)
  have hb0 := hL.bel
  obtain ⟨y0, y1, y2, y3, y4, y5, y6, y7, y8, y9, y10, y11, y12, y13, y14⟩ := k0.cellJ
  clear y0 y1 y2 y3 y6 y7 y8 y9 y10 y11 y12 y13 y14 hL
  rcases h with h1 | ⟨h1, h2⟩ | ⟨h1, h2, h3⟩ | ⟨h1, h2, h3, h4⟩
  all_goals
    go_enter Tryz.func6, Tryz.ntmps6
    go_wp2_with fail
    go_returns
    exact ⟨rfl, hb0⟩
set_option maxRecDepth 100000 in
set_option maxHeartbeats 4000000 in
theorem rchk_ok (j : Jb) (w : World) (GC cnt : Int) (hK1 : 0 ≤ j.K) (hK2 : j.K ≤ 3) (hm1 : 0 ≤ j.mo) (hm2 : j.mo ≤ 3)
    (hC : ∀ w', Calls Tryz.prog 19 #[grV j.W j.H j.TW j.TH] w' fun e w'' => e = .returned (.int .i64 GC) ∧ Below w'.heap.size w' w'')
    (hCnt : GC = 0 → ∀ w', Calls Tryz.prog 20 #[.int .i64 j.W, .int .i64 j.H, .int .i64 15] w' fun e w'' => e = .returned (.int .i64 cnt) ∧ w' = w'') :
    Calls Tryz.prog 6 #[.agg j.cells] w fun e w' => e = .returned (.int .i64 (if GC ≠ 0 then GC else if j.L < 1 ∨ cnt < j.L then 11 else if farL j = true ∨ j.U1 < j.U0 ∨ j.V1 < j.V0 then 11 else 0)) ∧ Below w.heap.size w w' := by
  have hL := (Lie.start w).alloc j.cells 31
  have k0 : Bk _ w.heap.size 31 j.cells := hL.k 0 (by simp)
  have hb0 := hL.bel
  obtain ⟨y0, y1, y2, y3, y4, y5, y6, y7, y8, y9, y10, y11, y12, y13, y14⟩ := k0.cellJ
  clear y0 y1 y2 y3 y6 y7 y8 y9 y12 hL
  obtain ⟨cv, hcv⟩ : ∃ cv, (if GC ≠ 0 then GC else if j.L < 1 ∨ cnt < j.L then 11 else if farL j = true ∨ j.U1 < j.U0 ∨ j.V1 < j.V0 then 11 else 0) = cv := ⟨_, rfl⟩
  rw [hcv]
  have HCV := Lib.hid hcv
  clear hcv
  by_cases hG0 : GC ≠ 0
  · have hb : (GC != 0) = true := by simpa using hG0
    have hcv : Hid (cv = GC) := by show _ = _; rw [← HCV.out, if_pos hG0]
    clear hG0 hCnt
    go_enter Tryz.func6, Tryz.ntmps6
    go_wp2_with (go_at_call 19; (with_reducible refine (hC _).mono ?_); rintro e w1 ⟨rfl, hb1⟩)
    go_returns
    exact ⟨by rw [hcv.out]; rfl, hb0.trans (hb1.mono hb0.size)⟩
  have hG0 : GC = 0 := Decidable.not_not.1 hG0
  have hCnt2 := hCnt hG0
  have hcv0 := HCV.out
  rw [if_neg (by simpa using hG0)] at hcv0
  have HCV2 := Lib.hid hcv0
  clear hcv0 hCnt HCV
  subst hG0
  have hCnt := hCnt2
  have HCV := HCV2
  clear hCnt2 HCV2
  go_enter Tryz.func6, Tryz.ntmps6
  go_upto_region 6 with (go_at_call 19; (with_reducible refine (hC _).mono ?_); rintro e w1 ⟨rfl, hb1⟩)
  have k1 := k0.nx hb1
  have hb01 := hb0.trans (hb1.mono hb0.size)
  clear y4 y5 y10 y11 y13 y14 k0 hb0 hb1 hC hK1 hK2 hm1 hm2
  obtain ⟨y0, y1, y2, y3, -, -, -, -, -, -, y10, y11, y12, -, -⟩ := k1.cellJ
  have z10 := fun (n : Nat) (os : Array Obj) => cell_regrown y10 n os
  have z11 := fun (n : Nat) (os : Array Obj) => cell_regrown y11 n os
  have z12 := fun (n : Nat) (os : Array Obj) => cell_regrown y12 n os
  have hCb := fun w' => (hCnt w').mono (R' := fun e w'' => e = .returned (.int .i64 cnt) ∧ Below w'.heap.size w' w'') fun e w'' ⟨q1, q2⟩ => ⟨q1, q2 ▸ Below.refl _ _⟩
  clear hCnt
  by_cases hL1 : j.L < 1
  · have hcv : Hid (cv = 11) := by show _ = _; rw [← HCV.out, if_pos (.inl hL1)]
    have hdL : decide (j.L < 1) = true := decide_eq_true hL1
    refine wp_region_quiet_below (by kernel_rfl) (by kernel_rfl) ?_
    repeat (first
      | go_big_quiet_step ((fail))
      | quiet_step ((fail)))
    refine wpQuiet_nil ?_
    intro _ hw'
    obtain ⟨⟨d9, os⟩, hw''⟩ := hw'
    subst hw''
    have hbx := hb01.trans ((below_regrown w1 d9 os).mono hb01.size)
    generalize Go.Sort.grow (redrawn w1 d9) os = w6 at *
    go_wp2_with fail
    go_returns
    exact ⟨by rw [hcv.out]; rfl, hbx⟩
  by_cases hL2 : j.L > cnt
  · have hcv : Hid (cv = 11) := by show _ = _; rw [← HCV.out, if_pos (.inr hL2)]
    have hdL : decide (j.L < 1) = false := decide_eq_false hL1
    have hdL2 : decide (j.L > cnt) = true := decide_eq_true hL2
    refine wp_region_quiet_below (by kernel_rfl) (by kernel_rfl) ?_
    repeat (first
      | go_big_quiet_step ((with_reducible exact quiet_below (hCb _)))
      | quiet_step ((with_reducible exact quiet_below (hCb _))))
    refine wpQuiet_nil ?_
    intro _ hw'
    obtain ⟨⟨d9, os⟩, hw''⟩ := hw'
    subst hw''
    have hbx := hb01.trans ((below_regrown w1 d9 os).mono hb01.size)
    generalize Go.Sort.grow (redrawn w1 d9) os = w6 at *
    go_wp2_with fail
    go_returns
    exact ⟨by rw [hcv.out]; rfl, hbx⟩
  have hcv0 := HCV.out
  rw [if_neg (by omega)] at hcv0
  have HCV := Lib.hid hcv0
  clear hcv0
  have hdL : decide (j.L < 1) = false := decide_eq_false hL1
  have hdL2 : decide (j.L > cnt) = false := decide_eq_false hL2
  refine wp_region_quiet_below (by kernel_rfl) (by kernel_rfl) ?_
  repeat (first
    | go_big_quiet_step ((with_reducible exact quiet_below (hCb _)))
    | quiet_step ((with_reducible exact quiet_below (hCb _))))
  refine wpQuiet_nil ?_
  intro _ hw'
  obtain ⟨⟨d9, os⟩, hw''⟩ := hw'
  subst hw''
  have hbx := below_regrown w1 d9 os
  have k2 := k1.nx hbx
  have hb2 := hb01.trans (hbx.mono hb01.size)
  clear y0 y1 y2 y3 y10 y11 y12 z10 z11 z12 hCb hL1 hL2 hdL hdL2 k1 hb01 hbx
  generalize Go.Sort.grow (redrawn w1 d9) os = w2 at *
  obtain ⟨y0, y1, y2, y3, -, -, -, -, -, -, -, -, -, -, -⟩ := k2.cellJ
  have kn := Bk.new w2 29 #[.int .i64 0, .int .i64 0, .int .i64 0, .int .i64 0]
  have hbA := (Below.refl w2.heap.size w2).alloc (Nat.le_refl _) (.cells #[.int .i64 0, .int .i64 0, .int .i64 0, .int .i64 0] 29)
  go_upto_region 9 with (refine stB (ty := 29) (cells := #[.int .i64 j.U0, .int .i64 j.V0, .int .i64 j.U1, .int .i64 j.V1]) rfl _ _ rfl kn rfl rfl rbox_size37 rfl (by simp [Value.oneCell']) ?_; intro w3 k3 hg3 hs3)
  have hb23 := below_of_gb hbA hg3 (Nat.le_refl _) hbA.size
  have hb3 := hb2.trans (hb23.mono hb2.size)
  generalize w2.heap.size = g4 at *
  clear y0 y1 y2 y3 kn hbA hg3 hs3 k2 hb2 hb23
  obtain ⟨y0, y1, y2, y3⟩ := k3.cell4
  go_wp2_with fail
  have hkn := Bk.new w3 2 #[.int .i64 j.U0, .int .i64 j.V0, .int .i64 j.U1, .int .i64 j.V1]
  have hR := Rd.of_own (own_of_Bk (base := 0) hkn 4 rfl (by decide) (Nat.zero_le _))
  have k4 := k3.alloc (.cells #[.int .i64 j.U0, .int .i64 j.V0, .int .i64 j.U1, .int .i64 j.V1] 2)
  have hb4 := hb3.alloc hb3.size (.cells #[.int .i64 j.U0, .int .i64 j.V0, .int .i64 j.U1, .int .i64 j.V1] 2)
  have hll : ([j.U0, j.V0, j.U1, j.V1] : List Int).length = 4 := rfl
  have hR2 : Rd _ _ _ (([j.U0, j.V0, j.U1, j.V1] : List Int).map (Value.int .i64)) := hR
  have hfar : farL j = ([j.U0, j.V0, j.U1, j.V1] : List Int).any fun u => !inF u := rfl
  rw [hfar] at HCV
  generalize w3.alloc (.cells #[.int .i64 j.U0, .int .i64 j.V0, .int .i64 j.U1, .int .i64 j.V1] 2) = w4 at *
  have HLL := Lib.hid hll
  generalize ([j.U0, j.V0, j.U1, j.V1] : List Int) = l at *
  generalize w3.heap.size = g6 at *
  clear hkn hR k3 hb3 y0 y1 y2 y3 hll hfar
  go_loopw [6, 65] (fun _ i wr => ∃ q : Nat, q ≤ 4 ∧ i = .int .i64 (q : Int) ∧ Below w4.heap.size w4 wr ∧ Hid (∀ k (hk : k < l.length), k < q → inF l[k] = true)) (fun _ i _ => (((4 : Nat) : Int) - intOf i).toNat)
  case atStart => exact ⟨0, by omega, rfl, Below.refl _ _, fun k hk h => by omega⟩
  case round =>
    obtain ⟨q, hq, rfl, hbel, hall⟩ := hrel
    have hbx := hb4.trans (hbel.mono hb4.size)
    by_cases hlt : (q : Int) < 4
    · have hq4 : q < 4 := by omega
      have hql : q < l.length := by rw [HLL.out]; exact hq4
      obtain ⟨gb, ob, hgo, _, e0⟩ := (hR2.below hbel).get q (by simpa using hql)
      injection hgo with hgo
      injection hgo with hg1 hg2
      subst hg1; subst hg2
      simp only [List.getElem_map, Nat.zero_add] at e0
      obtain ⟨x, hx⟩ : ∃ x, x = l[q] := ⟨_, rfl⟩
      rw [← hx] at e0
      have hxm : x ∈ l := hx ▸ List.getElem_mem hql
      have HX := Lib.hid hx
      clear hx
      have hin := fun w' => rin18 x w'
      have v1 : wrap64 ((q : Int) + 1) = (q : Int) + 1 := (lvq_fit (l := 0) (show q ≤ 2000000000 from Nat.le_trans hq (by decide)) (Nat.le_refl q) (Nat.zero_le _)).2.2
      have V1 := Lib.hid v1
      have HQ4 := Lib.hid hq4
      have HQL := Lib.hid hql
      cases hb : inF x
      · have hcv : Hid (cv = 11) := by
          show _ = _
          rw [← HCV.out, if_pos (.inl (List.any_eq_true.2 ⟨x, hxm, by rw [hb]; rfl⟩))]
        rw [hb] at hin
        clear hb hq4 hql hxm HX v1
        go_wp2_with (go_at_call 16; (with_reducible refine (hin _).mono ?_); rintro e w5 ⟨rfl, hb5⟩)
        go_returns
        exact ⟨by rw [hcv.out]; rfl, hbx.trans (hb5.mono hbx.size)⟩
      · have hnx : Hid (∀ k (hk : k < l.length), k < q + 1 → inF l[k] = true) := fun k hk h => by
          by_cases e : k = q
          · subst e; rw [← HX.out]; exact hb
          · exact hall.out k hk (by omega)
        rw [hb] at hin
        clear hb hq4 hql hxm HX v1
        have v1 := V1.out
        go_wp2_with (go_at_call 16; (with_reducible refine (hin _).mono ?_); rintro e w5 ⟨rfl, hb5⟩)
        clear v1
        exact ⟨⟨q + 1, HQ4.out, (by simp), hbel.trans (hb5.mono hbel.size), hnx⟩, dec_j HQ4.out⟩
    · have hqe : q = 4 := by omega
      have hfr : (l.any fun u => !inF u) = false := by
        rw [List.any_eq_false]
        intro x hx
        obtain ⟨k, hk, rfl⟩ := List.getElem_of_mem hx
        rw [hall.out k hk (by rw [hqe, ← HLL.out]; exact hk)]
        simp
      have hcv0 := HCV.out
      rw [hfr] at hcv0
      have HCV := Lib.hid hcv0
      clear hcv0 hfr
      have k5 := k4.nx hbel
      obtain ⟨y0, y1, y2, y3⟩ := k5.cell4
      by_cases h1 : j.U0 > j.U1
      · have hcv : Hid (cv = 11) := by show _ = _; rw [← HCV.out, if_pos (.inr (.inl h1))]
        go_wp2_with fail
        go_returns
        exact ⟨by rw [hcv.out]; rfl, hbx⟩
      · by_cases h2 : j.V0 > j.V1
        · have hcv : Hid (cv = 11) := by show _ = _; rw [← HCV.out, if_pos (.inr (.inr h2))]
          go_wp2_with fail
          go_returns
          exact ⟨by rw [hcv.out]; rfl, hbx⟩
        · have hcv : Hid (cv = 0) := by
            show _ = _
            rw [← HCV.out, if_neg]
            rintro (h | h | h)
            · cases h
            · exact h1 h
            · exact h2 h
          go_wp2_with fail
          go_returns
          exact ⟨by rw [hcv.out]; rfl, hbx⟩
end Go.Proofs.YtibmhabipghjlaaGreat
end
section
set_option linter.unusedVariables false
namespace Go.Proofs.YtibmhabipghjlaaGreat
open Go.RowKit
def ovX (g TW TH : Int) (x y : Rn) : List Int := ovR g TW TH x.1 y.1 x.2 y.2
def accT (g TW TH : Int) (cs rs : List Rn) (q p : Nat) : List Int :=
  ((rs.take q).flatMap fun y => cs.flatMap fun x => ovX g TW TH x y) ++ (match rs[q]? with | none => [] | some y => (cs.take p).flatMap fun x => ovX g TW TH x y)
theorem accT_0 (g TW TH : Int) (cs rs : List Rn) : accT g TW TH cs rs 0 0 = [] := by
  unfold accT
  cases rs[0]? <;> simp
theorem accT_p {g TW TH : Int} {cs rs : List Rn} {q p : Nat} (hq : q < rs.length) (hp : p < cs.length) : accT g TW TH cs rs q (p + 1) = accT g TW TH cs rs q p ++ ovX g TW TH cs[p] rs[q] := by
  unfold accT
  rw [List.getElem?_eq_getElem hq]
  simp only
  rw [List.take_succ_eq_append_getElem hp, List.flatMap_append, List.append_assoc]
  simp
theorem accT_q {g TW TH : Int} {cs rs : List Rn} {q : Nat} (hq : q < rs.length) : accT g TW TH cs rs q cs.length = accT g TW TH cs rs (q + 1) 0 := by
  unfold accT
  rw [List.getElem?_eq_getElem hq]
  simp only
  rw [List.take_succ_eq_append_getElem hq, List.flatMap_append]
  cases rs[q + 1]? <;> simp
theorem accT_end (g TW TH : Int) (cs rs : List Rn) : accT g TW TH cs rs rs.length 0 = allT g TW TH cs rs := by
  unfold accT allT ovX
  rw [List.getElem?_eq_none (Nat.le_refl _)]
  simp
theorem flat_len {α : Type} (f : α → List Int) (M : Nat) : ∀ (l : List α), (∀ x ∈ l, (f x).length ≤ M) → (l.flatMap f).length ≤ l.length * M
  | [], _ => by simp
  | x :: l, h => by
    have h1 := h x (by simp)
    have h2 := flat_len f M l fun y hy => h y (by simp [hy])
    rw [List.flatMap_cons, List.length_append, List.length_cons, Nat.succ_mul]
    omega
theorem ovX_len {g TW TH W H : Int} (hTW : 1 ≤ TW) (hTH : 1 ≤ TH) (hW : W ≤ 32768) (hH : H ≤ 32768) {x y : Rn} (hx : 0 ≤ x.1 ∧ x.1 < x.2 ∧ x.2 ≤ W) (hy : 0 ≤ y.1 ∧ y.1 < y.2 ∧ y.2 ≤ H) : (ovX g TW TH x y).length ≤ 1073741824 := by
  have hl : (ovX g TW TH x y).length = ((y.2 - 1) / TH - y.1 / TH + 1).toNat * ((x.2 - 1) / TW - x.1 / TW + 1).toNat := by
    unfold ovX ovR ovL
    rw [List.length_flatMap]
    simp only [List.length_map, List.length_range, List.map_const', List.sum_replicate_nat]
  have e1 : (y.2 - 1) / TH ≤ 32767 := Int.le_trans (Int.ediv_le_self TH (by omega)) (by omega)
  have e2 : 0 ≤ y.1 / TH := Int.ediv_nonneg hy.1 (by omega)
  have e3 : (x.2 - 1) / TW ≤ 32767 := Int.le_trans (Int.ediv_le_self TW (by omega)) (by omega)
  have e4 : 0 ≤ x.1 / TW := Int.ediv_nonneg hx.1 (by omega)
  rw [hl]
  exact Nat.le_trans (Nat.mul_le_mul (show _ ≤ 32768 by omega) (show _ ≤ 32768 by omega)) (by decide)
theorem accT_len {g TW TH W H : Int} {cs rs : List Rn} (hTW : 1 ≤ TW) (hTH : 1 ≤ TH) (hW : W ≤ 32768) (hH : H ≤ 32768) (hc : ∀ r ∈ cs, 0 ≤ r.1 ∧ r.1 < r.2 ∧ r.2 ≤ W) (hr : ∀ r ∈ rs, 0 ≤ r.1 ∧ r.1 < r.2 ∧ r.2 ≤ H) (h3 : cs.length ≤ 3) (h4 : rs.length ≤ 3) (q p : Nat) : (accT g TW TH cs rs q p).length ≤ 12884901888 := by
  have hrow : ∀ y ∈ rs, ∀ l : List Rn, (∀ x ∈ l, x ∈ cs) → l.length ≤ 3 → (l.flatMap fun x => ovX g TW TH x y).length ≤ 3 * 1073741824 := fun y hy l hl h5 =>
    Nat.le_trans (flat_len _ 1073741824 l fun x hx => ovX_len hTW hTH hW hH (hc x (hl x hx)) (hr y hy)) (Nat.mul_le_mul_right _ h5)
  have h1 : ((rs.take q).flatMap fun y => cs.flatMap fun x => ovX g TW TH x y).length ≤ 3 * (3 * 1073741824) :=
    Nat.le_trans (flat_len _ (3 * 1073741824) _ fun y hy => hrow y (List.mem_of_mem_take hy) cs (fun _ h => h) h3) (Nat.mul_le_mul_right _ (Nat.le_trans (List.length_take_le' q rs) h4))
  have h2 : (match rs[q]? with | none => [] | some y => (cs.take p).flatMap fun x => ovX g TW TH x y : List Int).length ≤ 3 * 1073741824 := by
    cases e : rs[q]? with
    | none => simp
    | some y => exact hrow y (List.mem_of_getElem? e) _ (fun x hx => List.mem_of_mem_take hx) (Nat.le_trans (List.length_take_le' p cs) h3)
  unfold accT
  rw [List.length_append]
  exact Nat.le_trans (Nat.add_le_add h1 h2) (by decide)
/-- Rows of different kinds lie in different blocks. -/
theorem own_ne_own {w : World} {base base' : Nat} {e e' : TypeId} {size size' n n' : Nat} {v v' : Value} {xs xs' : List Value} (h : w.ownsRow base e size v n xs) (h' : w.ownsRow base' e' size' v' n' xs') (hne : e ≠ e') : ∀ b, v.ownBlock = some b → some b ≠ v'.ownBlock := by
  rintro b hb hb'
  rcases h.2 with ⟨h1, _⟩ | ⟨g, cap, cur, hv, _, hh, _⟩
  · subst h1; cases hb
  · subst hv
    have : g = b := by simpa [Value.ownBlock] using hb
    subst this
    exact Bk.ne_own (t := e) (cs := cur) (hh : Bk w g e cur) h' hne g hb'.symm rfl
theorem own_gbr {w w' : World} {base : Nat} {e : TypeId} {size n : Nat} {v : Value} {xs : List Value} {row : Option Nat} (h : w.ownsRow base e size v n xs) (hg : w.grownBy w' row) (hne : ∀ b, v.ownBlock = some b → some b ≠ row) : w'.ownsRow base e size v n xs := by
  refine ⟨h.1, ?_⟩
  rcases h.2 with h2 | ⟨g, cap, cur, hv, hg2, hh, r⟩
  · exact .inl h2
  · exact .inr ⟨g, cap, cur, hv, hg2, by rw [hg.block g (Bk.lt hh) (hne g (by rw [hv]; rfl))]; exact hh, r⟩
end Go.Proofs.YtibmhabipghjlaaGreat
end
section
set_option linter.unusedVariables false
namespace Go.Proofs.YtibmhabipghjlaaGreat
open Go.Shelf
def sortI_ren : Go.Shelf.Ren := ⟨fun | 189 => 47 | 125 => 71 | 257 => 70 | 128 => 108 | 129 => 109 | 294 => 99 | 295 => 100 | 296 => 101 | 297 => 102 | 298 => 103 | 299 => 104 | 216 => 105 | 300 => 106 | 301 => 107 | 328 => 133 | 329 => 134 | 330 => 135 | 331 => 136 | 332 => 137 | 215 => 138 | 343 => 156 | n => n, fun | 28 => 41 | 3 => 3 | 46 => 123 | 0 => 0 | 51 => 178 | 53 => 180 | 4 => 4 | 183 => 171 | 182 => 170 | 131 => 120 | 5 => 5 | 9 => 9 | 218 => 197 | 222 => 200 | 228 => 213 | 229 => 77 | n => n, fun | n => n⟩
theorem sortI : Go.Proofs.Lays.n189 Tryz.prog sortI_ren := {
  mixed := by kernel_rfl
  f125 := Tryz.func71.trans (congrArg some (by kernel_rfl))
  f128 := Tryz.func108.trans (congrArg some (by kernel_rfl))
  f129 := Tryz.func109.trans (congrArg some (by kernel_rfl))
  f189 := Tryz.func47.trans (congrArg some (by kernel_rfl))
  f215 := Tryz.func138.trans (congrArg some (by kernel_rfl))
  f216 := Tryz.func105.trans (congrArg some (by kernel_rfl))
  f257 := Tryz.func70.trans (congrArg some (by kernel_rfl))
  f294 := Tryz.func99.trans (congrArg some (by kernel_rfl))
  f295 := Tryz.func100.trans (congrArg some (by kernel_rfl))
  f296 := Tryz.func101.trans (congrArg some (by kernel_rfl))
  f297 := Tryz.func102.trans (congrArg some (by kernel_rfl))
  f298 := Tryz.func103.trans (congrArg some (by kernel_rfl))
  f299 := Tryz.func104.trans (congrArg some (by kernel_rfl))
  f300 := Tryz.func106.trans (congrArg some (by kernel_rfl))
  f301 := Tryz.func107.trans (congrArg some (by kernel_rfl))
  f328 := Tryz.func133.trans (congrArg some (by kernel_rfl))
  f329 := Tryz.func134.trans (congrArg some (by kernel_rfl))
  f330 := Tryz.func135.trans (congrArg some (by kernel_rfl))
  f331 := Tryz.func136.trans (congrArg some (by kernel_rfl))
  f332 := Tryz.func137.trans (congrArg some (by kernel_rfl))
  f343 := Tryz.func156.trans (congrArg some (by kernel_rfl))
  t0 := Tryz.underlying0
  a0 := Tryz.isAgg0
  z0 := Tryz.sizeOf0
  v0 := Tryz.zeroValue0
  t3 := Tryz.underlying3
  a3 := Tryz.isAgg3
  z3 := Tryz.sizeOf3
  v3 := Tryz.zeroValue3
  t4 := Tryz.underlying4
  a4 := Tryz.isAgg4
  z4 := Tryz.sizeOf4
  v4 := Tryz.zeroValue4
  t5 := Tryz.underlying5
  a5 := Tryz.isAgg5
  z5 := Tryz.sizeOf5
  v5 := Tryz.zeroValue5
  t9 := Tryz.underlying9
  a9 := Tryz.isAgg9
  z9 := Tryz.sizeOf9
  v9 := Tryz.zeroValue9
  t28 := Tryz.underlying41
  a28 := Tryz.isAgg41
  z28 := Tryz.sizeOf41
  v28 := Tryz.zeroValue41
  t46 := Tryz.underlying123
  a46 := Tryz.isAgg123
  z46 := Tryz.sizeOf123
  v46 := Tryz.zeroValue123
  t51 := Tryz.underlying178
  a51 := Tryz.isAgg178
  z51 := Tryz.sizeOf178
  v51 := Tryz.zeroValue178
  t53 := Tryz.underlying180
  a53 := Tryz.isAgg180
  z53 := Tryz.sizeOf180
  v53 := Tryz.zeroValue180
  t131 := Tryz.underlying120
  a131 := Tryz.isAgg120
  z131 := Tryz.sizeOf120
  v131 := Tryz.zeroValue120
  t182 := Tryz.underlying170
  a182 := Tryz.isAgg170
  z182 := Tryz.sizeOf170
  v182 := Tryz.zeroValue170
  t183 := Tryz.underlying171
  a183 := Tryz.isAgg171
  z183 := Tryz.sizeOf171
  v183 := Tryz.zeroValue171
  t218 := Tryz.underlying197
  a218 := Tryz.isAgg197
  z218 := Tryz.sizeOf197
  v218 := Tryz.zeroValue197
  t222 := Tryz.underlying200
  a222 := Tryz.isAgg200
  z222 := Tryz.sizeOf200
  v222 := Tryz.zeroValue200
  t228 := Tryz.underlying213
  a228 := Tryz.isAgg213
  z228 := Tryz.sizeOf213
  v228 := Tryz.zeroValue213
  t229 := Tryz.underlying77
  a229 := Tryz.isAgg77
  z229 := Tryz.sizeOf77
  v229 := Tryz.zeroValue77 }

def compI_ren : Go.Shelf.Ren := ⟨fun | 20 => 48 | n => n, fun | 22 => 41 | 3 => 3 | 4 => 4 | 0 => 0 | n => n, fun | n => n⟩
theorem compI : Go.Proofs.Lays2.n20 Tryz.prog compI_ren := {
  mixed := by kernel_rfl
  f20 := Tryz.func48.trans (congrArg some (by kernel_rfl))
  t0 := Tryz.underlying0
  a0 := Tryz.isAgg0
  z0 := Tryz.sizeOf0
  v0 := Tryz.zeroValue0
  t3 := Tryz.underlying3
  a3 := Tryz.isAgg3
  z3 := Tryz.sizeOf3
  v3 := Tryz.zeroValue3
  t4 := Tryz.underlying4
  a4 := Tryz.isAgg4
  z4 := Tryz.sizeOf4
  v4 := Tryz.zeroValue4
  t22 := Tryz.underlying41
  a22 := Tryz.isAgg41
  z22 := Tryz.sizeOf41
  v22 := Tryz.zeroValue41
  i3 := by kernel_rfl }

end Go.Proofs.YtibmhabipghjlaaGreat
end
section
set_option linter.unusedVariables false
namespace Go.Proofs.YtibmhabipghjlaaGreat
open Go.RowKit Go.Sort
theorem calls_of_all {L : List FuncId} {n : Nat} {P : Program} {f : FuncId} {args : Array Value} {w : World} {R : Ending → World → Prop} (h : ∀ D, CallsIn (Fence.list L (some D)) n P f args w R) : Calls P f args w R :=
  fun cs => let ⟨e, w', fr, r, s, x⟩ := (h (cs.length + n + 1)).2 cs (fun d hd => by cases hd; omega); ⟨e, w', fr, r, s.comes, x⟩
def srt (S : List Int) : List Int := S.mergeSort fun x y => decide (x ≤ y)
theorem srt_mem (S : List Int) (i : Int) : i ∈ srt S ↔ i ∈ S := by unfold srt; exact List.mem_mergeSort
theorem srt_len (S : List Int) : (srt S).length = S.length := by unfold srt; exact List.length_mergeSort S
theorem srt_rise (S : List Int) : (srt S).Pairwise (· ≤ ·) := by
  have h := List.pairwise_mergeSort (le := fun x y : Int => decide (x ≤ y)) (by intro a b c h1 h2; simp at *; omega) (by intro a b; simp; omega) S
  exact h.imp fun h => by simpa using h
theorem sorti_own (S : List Int) (v : Value) (w : World) (base : Nat) (ho : w.ownsRow base 3 1 v S.length (S.map (Value.int .i64))) (hs : S.length < 4611686018427387904) :
    Calls Tryz.prog 47 #[v] w fun e w' => e = .returned (.tuple #[]) ∧ w'.ownsRow base 3 1 v S.length ((srt S).map (Value.int .i64)) ∧ w.grownBy w' v.ownBlock := by
  rcases ho.2 with ⟨h1, h2⟩ | ⟨g, cap, cur, hv, hb, hh, hle, hcap, hsz, hx⟩
  · have hS : S = [] := List.eq_nil_of_length_eq_zero h2
    subst h1 hS
    refine (calls_of_all fun D => AnyS.slices_Sort_int_none_in sortI D none 0 w).mono ?_
    rintro e w' ⟨rfl, rfl⟩
    exact ⟨rfl, by simpa [srt] using ho, ⟨rfl, rfl, rfl, Nat.le_refl _, fun _ _ _ => rfl⟩⟩
  · subst hv
    have hg : g < w.heap.size := (Array.getElem?_eq_some_iff.1 hh).1
    refine (calls_of_all fun D => AnyS.slices_Sort_int_in sortI D g 0 cap S w (holds_of_blockI hh (by rw [Nat.mul_one] at hx; exact hx)) hg hs).mono ?_
    rintro e w' ⟨rfl, n, os, rfl⟩
    refine ⟨rfl, ownsRow_sortedI (srt_len S) hb hh hle hcap hsz, grownBy_sortedI _⟩
end Go.Proofs.YtibmhabipghjlaaGreat
end
section
set_option linter.unusedVariables false
namespace Go.Proofs.YtibmhabipghjlaaGreat
open Go.RowKit Go.Sort
theorem cut_law (d : Array Int) (hd : ∀ a b : Nat, a ≤ b → b < d.size → d[a]! ≤ d[b]!) : ∀ m, m ≤ d.size → (Lib.compactUpTo d m).Pairwise (· < ·) ∧ ∀ i, i ∈ Lib.compactUpTo d m ↔ ∃ j, j < m ∧ d[j]! = i
  | 0, _ => by
    have e : Lib.compactUpTo d 0 = [] := rfl
    rw [e]
    exact ⟨.nil, fun i => by simp⟩
  | m + 1, hm => by
    obtain ⟨h1, h2⟩ := cut_law d hd m (by omega)
    rw [Lib.compactUpTo_succ]
    by_cases hk : Lib.keeps d m = true
    · rw [if_pos hk]
      refine ⟨List.pairwise_append.2 ⟨h1, by simp, fun x hx y hy => ?_⟩, fun i => ?_⟩
      · rw [List.mem_singleton.1 hy]
        obtain ⟨j, hj, rfl⟩ := (h2 x).1 hx
        have a1 := hd j (m - 1) (by omega) (by omega)
        have a2 := hd (m - 1) m (by omega) (by omega)
        have a3 : d[m]! ≠ d[m - 1]! := fun e => by
          rw [Lib.keeps_neg (by omega) e] at hk; cases hk
        omega
      · rw [List.mem_append, h2, List.mem_singleton]
        constructor
        · rintro (⟨j, hj, rfl⟩ | rfl)
          · exact ⟨j, by omega, rfl⟩
          · exact ⟨m, by omega, rfl⟩
        · rintro ⟨j, hj, rfl⟩
          by_cases e : j = m
          · subst e; exact .inr rfl
          · exact .inl ⟨j, by omega, rfl⟩
    · rw [if_neg hk, List.append_nil]
      refine ⟨h1, fun i => ?_⟩
      rw [h2]
      have hm0 : m ≠ 0 := fun e => hk (Lib.keeps_lt_one d m (by omega))
      have he : d[m]! = d[m - 1]! := Classical.byContradiction fun e => hk (Lib.keeps_pos e)
      constructor
      · rintro ⟨j, hj, rfl⟩
        exact ⟨j, by omega, rfl⟩
      · rintro ⟨j, hj, rfl⟩
        by_cases e : j = m
        · subst e; exact ⟨j - 1, by omega, he.symm⟩
        · exact ⟨j, by omega, rfl⟩
theorem compact_law {S : List Int} (hS : S.Pairwise (· ≤ ·)) : (Lib.compact S).Pairwise (· < ·) ∧ ∀ i, i ∈ Lib.compact S ↔ i ∈ S := by
  have hd : ∀ a b : Nat, a ≤ b → b < S.toArray.size → S.toArray[a]! ≤ S.toArray[b]! := fun a b hab hb => by
    simp only [List.size_toArray] at hb
    have ea : S.toArray[a]! = S[a] := by simp [show a < S.length by omega]
    have eb : S.toArray[b]! = S[b] := by simp [hb]
    rw [ea, eb]
    rcases Nat.lt_or_ge a b with h | h
    · exact List.pairwise_iff_getElem.1 hS a b (by omega) hb h
    · obtain rfl : a = b := by omega
      exact Int.le_refl _
  obtain ⟨h1, h2⟩ := cut_law S.toArray hd S.length (by simp)
  refine ⟨h1, fun i => ?_⟩
  show i ∈ Lib.compactUpTo S.toArray S.length ↔ _
  rw [h2, List.mem_iff_getElem]
  constructor
  · rintro ⟨j, hj, rfl⟩
    exact ⟨j, hj, by simp [hj]⟩
  · rintro ⟨j, hj, rfl⟩
    exact ⟨j, hj, by simp [hj]⟩
end Go.Proofs.YtibmhabipghjlaaGreat
end
section
set_option linter.unusedVariables false
namespace Go.Proofs.YtibmhabipghjlaaGreat
open Go.RowKit Go.Sort
theorem own_take {w : World} {base g cap n n' : Nat} {e : TypeId} {xs : List Value} (h : w.ownsRow base e 1 (.slice (some ⟨g, 0, none⟩) n cap) n xs) (hn : n' ≤ n) : w.ownsRow base e 1 (.slice (some ⟨g, 0, none⟩) n' cap) n' (xs.take n') := by
  rcases h.2 with ⟨h1, h2⟩ | ⟨g', cap', cur, hv, hb, hh, hle, hcap, hsz, hx⟩
  · cases h1
  · injection hv with e1 e2 e3
    injection e1 with e1
    injection e1 with e1
    subst e1 e3
    have hl := h.1
    refine ⟨by rw [List.length_take, hl]; omega, .inr ⟨g, cap, cur, rfl, hb, hh, by omega, hcap, hsz, ?_⟩⟩
    rw [← hx, List.take_take]
    congr 1
    omega
theorem compi_own (S : List Int) (v : Value) (w : World) (base : Nat) (ho : w.ownsRow base 3 1 v S.length (S.map (Value.int .i64))) (hs : S.length < 4611686018427387904) :
    Calls Tryz.prog 48 #[v] w fun e w' => ∃ v', e = .returned v' ∧ w'.ownsRow base 3 1 v' (Lib.compact S).length ((Lib.compact S).map (Value.int .i64)) ∧ w.grownBy w' v.ownBlock := by
  rcases ho.2 with ⟨h1, h2⟩ | ⟨g, cap, cur, hv, hb, hh, hle, hcap, hsz, hx⟩
  · have hS : S = [] := List.eq_nil_of_length_eq_zero h2
    subst h1 hS
    refine (calls_of_all fun D => AnyS.slices_Compact_int_empty_in compI D none 0 w).mono ?_
    rintro e w' ⟨rfl, rfl⟩
    exact ⟨_, rfl, ho, ⟨rfl, rfl, rfl, Nat.le_refl _, fun _ _ _ => rfl⟩⟩
  · subst hv
    have hg : g < w.heap.size := (Array.getElem?_eq_some_iff.1 hh).1
    refine (calls_of_all fun D => AnyS.slices_Compact_int_in compI D g 0 cap S w (holds_of_blockI hh (by rw [Nat.mul_one] at hx; exact hx)) (by omega) hle).mono ?_
    rintro e w' ⟨rfl, q, rfl⟩
    have hcl := Lib.compact_length_le S
    have h1 := ownsRow_sortedI (w := w) (base := base) (g := g) (cap := cap) (n := q) (os := #[]) (ss := S) (ts := Lib.compact S ++ List.replicate (S.length - (Lib.compact S).length) 0) (by simp; omega) hb hh hle hcap hsz
    rw [grow_empty] at h1
    refine ⟨_, rfl, ?_, ?_⟩
    · have h2 := own_take h1 hcl
      rw [List.map_append, List.take_append_of_le_length (by simp), List.take_of_length_le (by simp)] at h2
      exact h2
    · have h3 := grownBy_sortedI (w := w) (g := g) (n := q) (os := #[]) (Lib.compact S ++ List.replicate (S.length - (Lib.compact S).length) 0).toArray
      rw [grow_empty] at h3
      exact h3
end Go.Proofs.YtibmhabipghjlaaGreat
end
section
set_option linter.unusedVariables false
namespace Go.Proofs.YtibmhabipghjlaaGreat
open Go.RowKit
/-- The frame of (plan.Job).tiles within its first region. -/
abbrev tiA (j : Jb) (k : Int) (g0 : Nat) (x5 x6 x12 x13 x14 x15 x16 x17 x18 : Value) : Act := { tmps := #[.agg j.cells, .int .i64 k, .pointer (some ⟨g0, 0, none⟩), undef, .slice none 0 0, x5, x6, undef, undef, undef, undef, undef, x12, x13, x14, x15, x16, x17, x18, undef, undef, undef, undef, undef, undef, undef, undef, undef, undef, undef, undef, undef, undef, undef, undef, undef, undef, undef, undef, undef, undef, undef, undef, undef, undef, undef, undef, undef, undef, undef, undef, undef, undef, undef, undef, undef, undef, undef, undef, undef, undef, undef, undef, undef], defers := [] }
theorem fit_app {n m : Nat} (h : n ≤ 12884901888) (h' : m ≤ 12884901888) : (n + m) * 8 ≤ 140737488355328 ∧ n + m ≤ 9223372036854775807 := ⟨by omega, by omega⟩
theorem run_size2 : (Tryz.prog.info? 111).map (·.size) = some 2 := by kernel_rfl
/-- What is so of that region, whatever of it has been done. -/
def TInv (j : Jb) (k : Int) (g0 : Nat) (W H TW TH a b c d : Int) (w1 : World) (ls : Array Bool) (A : Act) (wr : World) : Prop :=
  ∃ (b0 b1 b2 b3 b4 b5 b6 b7 b8 b9 b10 : Bool) (x5 x6 x12 x13 x14 x15 x16 x17 x18 : Value), ls = #[b0, b1, b2, b3, b4, b5, b6, b7, b8, b9, b10] ∧ A = tiA j k g0 x5 x6 x12 x13 x14 x15 x16 x17 x18 ∧ Below w1.heap.size w1 wr ∧ (b0 = true → x12 = .agg j.cells) ∧ (b1 = true → x13 = .int .i64 k) ∧ (b2 = true → x14 = grV W H TW TH) ∧ (b3 = true → x15 = .pointer (some ⟨g0, 0, none⟩)) ∧ (b4 = true → x16 = .agg (bxA4 j.U0 j.V0 j.U1 j.V1)) ∧ (b5 = true → x17 = .int .i64 k) ∧ (b6 = true → x18 = .agg (bxA4 a b c d)) ∧ (b7 = true → ∃ g, x5 = .pointer (some ⟨g, 0, none⟩) ∧ w1.heap.size ≤ g ∧ ∃ cs, cs.size = 4 ∧ Bk wr g 71 cs ∧ (b9 = true → cs = grA W H TW TH)) ∧ (b8 = true → ∃ g, x6 = .pointer (some ⟨g, 0, none⟩) ∧ w1.heap.size ≤ g ∧ ∃ cs, cs.size = 4 ∧ Bk wr g 23 cs ∧ (b10 = true → cs = bxA4 a b c d)) ∧ (b9 = true → b7 = true) ∧ (b10 = true → b8 = true)
set_option maxRecDepth 100000 in
set_option maxHeartbeats 4000000 in
theorem tiles_any (j : Jb) (k : Int) (W H TW TH a b c d : Int) (cs rs : List Rn) (w : World) (h0 : grC W H TW TH = 0) (hcs : ∀ r ∈ cs, 0 ≤ r.1 ∧ r.1 < r.2 ∧ r.2 ≤ W) (hrs : ∀ r ∈ rs, 0 ≤ r.1 ∧ r.1 < r.2 ∧ r.2 ≤ H) (h3 : cs.length ≤ 3) (h4 : rs.length ≤ 3)
    (hRv : ∀ w', Calls Tryz.prog 45 #[.agg j.cells, .int .i64 b, .int .i64 d, .int .i64 H] w' fun e w'' => ∃ v, e = .returned v ∧ w''.ownsRow w'.heap.size 111 2 v rs.length (encR rs) ∧ Below w'.heap.size w' w'')
    (hRu : ∀ w', Calls Tryz.prog 45 #[.agg j.cells, .int .i64 a, .int .i64 c, .int .i64 W] w' fun e w'' => ∃ v, e = .returned v ∧ w''.ownsRow w'.heap.size 111 2 v cs.length (encR cs) ∧ Below w'.heap.size w' w'')
    (hG : ∀ w', Calls Tryz.prog 24 #[.agg j.cells, .int .i64 k] w' fun e w'' => e = .returned (grV W H TW TH) ∧ Below w'.heap.size w' w'')
    (hT : ∀ w', Calls Tryz.prog 44 #[.agg (bxA4 j.U0 j.V0 j.U1 j.V1), .int .i64 k] w' fun e w'' => e = .returned (.agg (bxA4 a b c d)) ∧ Below w'.heap.size w' w'') :
    Calls Tryz.prog 28 #[.agg j.cells, .int .i64 k] w fun e w' => ∃ v, e = .returned v ∧ w'.ownsRow w.heap.size 3 1 v (levL W H TW TH cs rs).length ((levL W H TW TH cs rs).map (Value.int .i64)) ∧ Below w.heap.size w w' := by
  obtain ⟨hW, hH, hTW, hTH⟩ := grC_zero.1 h0
  have hlen := accT_len (g := grN W TW) hTW.1 hTH.1 hW.2 hH.2 hcs hrs h3 h4
  have hA0 := accT_0 (grN W TW) TW TH cs rs
  have hAp := fun q p => @accT_p (grN W TW) TW TH cs rs q p
  have hAq := fun q => @accT_q (grN W TW) TW TH cs rs q
  have hAe := accT_end (grN W TW) TW TH cs rs
  have hov := fun (x y : Rn) (hx : x ∈ cs) (hy : y ∈ rs) w' => gover_in W H TW TH x.1 y.1 x.2 y.2 w' h0 (hcs x hx) (hrs y hy)
  have hlev := fun (F : List Int) h1 h2 => lev_eq (F := F) h0 hcs hrs h1 h2
  generalize accT (grN W TW) TW TH cs rs = T at *
  have HH := Lib.hid (And.intro hlen (And.intro hA0 (And.intro hAp (And.intro hAq (And.intro hAe (And.intro hov hlev))))))
  clear hlen hA0 hAp hAq hAe hov hlev h0 hcs hrs hW hH hTW hTH
  have hL := (Lie.start w).alloc j.cells 28
  have k0 : Bk _ w.heap.size 28 j.cells := hL.k 0 (by simp)
  have hb0 := hL.bel
  clear hL
  go_enter Tryz.func28, Tryz.ntmps28
  go_upto_region 1 with fail
  generalize w.alloc (.cells j.cells 28) = w1 at *
  generalize hg0 : w.heap.size = g0 at *
  have HG0 := Lib.hid hg0
  clear hg0
  refine wp_region_inv (TInv j k g0 W H TW TH a b c d w1) (by kernel_rfl) (by kernel_rfl) ?_ ?_ ?_ ?_
  case refine_1 =>
    intro ls A wr hI
    obtain ⟨b0, b1, b2, b3, b4, b5, b6, b7, b8, b9, b10, x5, x6, x12, x13, x14, x15, x16, x17, x18, rfl, rfl, hB, h0, h1, h2, h3', h4', h5, h6, h7, h8, h9, h10⟩ := hI
    rfl
  case refine_2 =>
    exact ⟨false, false, false, false, false, false, false, false, false, false, false, _, _, _, _, _, _, _, _, _, rfl, rfl, (below_drewN (Below.refl _ _) 1), (fun e => by cases e), (fun e => by cases e), (fun e => by cases e), (fun e => by cases e), (fun e => by cases e), (fun e => by cases e), (fun e => by cases e), (fun e => by cases e), (fun e => by cases e), (fun e => by cases e), (fun e => by cases e)⟩
  case refine_3 =>
    intro ls A wr i o hI ho hls hall
    obtain ⟨b0, b1, b2, b3, b4, b5, b6, b7, b8, b9, b10, x5, x6, x12, x13, x14, x15, x16, x17, x18, rfl, rfl, hB, h0, h1, h2, h3', h4', h5, h6, h7, h8, h9, h10⟩ := hI
    have kj := k0.nx hB
    rcases i with _ | i
    · obtain rfl : _ = o := Option.some.inj ho
      obtain rfl : b0 = false := hls
      unfold StepTo
      refine ldB rfl _ _ rfl kj rfl Tryz.underlying28 rfl job_size ?_
      exact ⟨rfl, true, b1, b2, b3, b4, b5, b6, b7, b8, b9, b10, x5, x6, _, x13, x14, x15, x16, x17, x18, rfl, rfl, hB, (fun _ => rfl), h1, h2, h3', h4', h5, h6, h7, h8, h9, h10⟩
    rcases i with _ | i
    · obtain rfl : _ = o := Option.some.inj ho
      obtain rfl : b1 = false := hls
      unfold StepTo
      go_wp2_with fail
      exact ⟨b0, true, b2, b3, b4, b5, b6, b7, b8, b9, b10, x5, x6, x12, _, x14, x15, x16, x17, x18, rfl, rfl, hB, h0, (fun _ => rfl), h2, h3', h4', h5, h6, h7, h8, h9, h10⟩
    rcases i with _ | i
    · obtain rfl : _ = o := Option.some.inj ho
      obtain rfl : b2 = false := hls
      unfold StepTo
      have p0 : b0 = true := hall { on := 0, ground := .data } (by simp) rfl
      have p1 : b1 = true := hall { on := 1, ground := .data } (by simp) rfl
      obtain rfl := h0 p0
      obtain rfl := h1 p1
      subst p0
      subst p1
      go_wp2_with (go_at_call 24; (with_reducible refine (hG _).mono ?_); rintro e w2 ⟨rfl, hb⟩)
      exact ⟨true, true, true, b3, b4, b5, b6, b7, b8, b9, b10, x5, x6, _, _, _, x15, x16, x17, x18, rfl, rfl, (hB.trans (hb.mono hB.size)), (fun _ => rfl), (fun _ => rfl), (fun _ => rfl), h3', h4', h5, h6, (fun e => by obtain ⟨g, q1, q2, cs, q3, q4, q5⟩ := h7 e; exact ⟨g, q1, q2, cs, q3, q4.nx hb, q5⟩), (fun e => by obtain ⟨g, q1, q2, cs, q3, q4, q5⟩ := h8 e; exact ⟨g, q1, q2, cs, q3, q4.nx hb, q5⟩), h9, h10⟩
    rcases i with _ | i
    · obtain rfl : _ = o := Option.some.inj ho
      obtain rfl : b3 = false := hls
      unfold StepTo
      go_wp2_with fail
      exact ⟨b0, b1, b2, true, b4, b5, b6, b7, b8, b9, b10, x5, x6, x12, x13, x14, _, x16, x17, x18, rfl, rfl, hB, h0, h1, h2, (fun _ => rfl), h4', h5, h6, h7, h8, h9, h10⟩
    rcases i with _ | i
    · obtain rfl : _ = o := Option.some.inj ho
      obtain rfl : b4 = false := hls
      unfold StepTo
      have p3 : b3 = true := hall { on := 3, ground := .data } (by simp) rfl
      obtain rfl := h3' p3
      subst p3
      obtain ⟨y0, y1, y2, y3, -, -, -, -, -, -, -, -, -, -, -⟩ := kj.cellJ
      go_wp2_with fail
      exact ⟨b0, b1, b2, true, true, b5, b6, b7, b8, b9, b10, x5, x6, x12, x13, x14, _, _, x17, x18, rfl, rfl, hB, h0, h1, h2, (fun _ => rfl), (fun _ => rfl), h5, h6, h7, h8, h9, h10⟩
    rcases i with _ | i
    · obtain rfl : _ = o := Option.some.inj ho
      obtain rfl : b5 = false := hls
      unfold StepTo
      go_wp2_with fail
      exact ⟨b0, b1, b2, b3, b4, true, b6, b7, b8, b9, b10, x5, x6, x12, x13, x14, x15, x16, _, x18, rfl, rfl, hB, h0, h1, h2, h3', h4', (fun _ => rfl), h6, h7, h8, h9, h10⟩
    rcases i with _ | i
    · obtain rfl : _ = o := Option.some.inj ho
      obtain rfl : b6 = false := hls
      unfold StepTo
      have p4 : b4 = true := hall { on := 4, ground := .data } (by simp) rfl
      have p5 : b5 = true := hall { on := 5, ground := .data } (by simp) rfl
      obtain rfl := h4' p4
      obtain rfl := h5 p5
      subst p4
      subst p5
      go_wp2_with (go_at_call 44; (with_reducible refine (hT _).mono ?_); rintro e w2 ⟨rfl, hb⟩)
      exact ⟨b0, b1, b2, b3, true, true, true, b7, b8, b9, b10, x5, x6, x12, x13, x14, x15, _, _, _, rfl, rfl, (hB.trans (hb.mono hB.size)), h0, h1, h2, h3', (fun _ => rfl), (fun _ => rfl), (fun _ => rfl), (fun e => by obtain ⟨g, q1, q2, cs, q3, q4, q5⟩ := h7 e; exact ⟨g, q1, q2, cs, q3, q4.nx hb, q5⟩), (fun e => by obtain ⟨g, q1, q2, cs, q3, q4, q5⟩ := h8 e; exact ⟨g, q1, q2, cs, q3, q4.nx hb, q5⟩), h9, h10⟩
    rcases i with _ | i
    · obtain rfl : _ = o := Option.some.inj ho
      obtain rfl : b7 = false := hls
      unfold StepTo
      go_wp2_with fail
      exact ⟨b0, b1, b2, b3, b4, b5, b6, true, b8, b9, b10, _, x6, x12, x13, x14, x15, x16, x17, x18, rfl, rfl, (hB.alloc hB.size _), h0, h1, h2, h3', h4', h5, h6, (fun _ => ⟨_, rfl, hB.size, _, rfl, Bk.new _ _ _, fun e => absurd (h9 e) (by simp)⟩), (fun e => by obtain ⟨g, q1, q2, cs, q3, q4, q5⟩ := h8 e; exact ⟨g, q1, q2, cs, q3, q4.alloc _, q5⟩), (fun _ => rfl), h10⟩
    rcases i with _ | i
    · obtain rfl : _ = o := Option.some.inj ho
      obtain rfl : b8 = false := hls
      unfold StepTo
      go_wp2_with fail
      exact ⟨b0, b1, b2, b3, b4, b5, b6, b7, true, b9, b10, x5, _, x12, x13, x14, x15, x16, x17, x18, rfl, rfl, (hB.alloc hB.size _), h0, h1, h2, h3', h4', h5, h6, (fun e => by obtain ⟨g, q1, q2, cs, q3, q4, q5⟩ := h7 e; exact ⟨g, q1, q2, cs, q3, q4.alloc _, q5⟩), (fun _ => ⟨_, rfl, hB.size, _, rfl, Bk.new _ _ _, fun e => absurd (h10 e) (by simp)⟩), h9, (fun _ => rfl)⟩
    rcases i with _ | i
    · obtain rfl : _ = o := Option.some.inj ho
      obtain rfl : b9 = false := hls
      unfold StepTo
      have p7 : b7 = true := hall { on := 7, ground := .data } (by simp) rfl
      have p2 : b2 = true := hall { on := 2, ground := .data } (by simp) rfl
      obtain rfl := h2 p2
      subst p2
      obtain ⟨g, rfl, z2, cs, z3, z4, z5⟩ := h7 p7
      refine stB (ty := 71) (cells := grA W H TW TH) rfl _ _ rfl z4 rfl rfl gr_size (by simpa using z3) (by simp [Value.oneCell']) ?_
      intro w2 hk hg hs
      have hb2 := below_of_gb hB hg z2 hB.size
      exact ⟨rfl, b0, b1, true, b3, b4, b5, b6, b7, b8, true, b10, _, x6, x12, x13, _, x15, x16, x17, x18, rfl, rfl, hb2, h0, h1, (fun _ => rfl), h3', h4', h5, h6, (fun _ => ⟨g, rfl, z2, _, rfl, hk, fun _ => rfl⟩), (fun e => by obtain ⟨g8, q1, q2, cs8, q3, q4, q5⟩ := h8 e; exact ⟨g8, q1, q2, cs8, q3, q4.grown hg (fun e => by injection e with e; exact absurd e (q4.ne_Bk z4 (by decide))), q5⟩), (fun _ => p7), h10⟩
    rcases i with _ | i
    · obtain rfl : _ = o := Option.some.inj ho
      obtain rfl : b10 = false := hls
      unfold StepTo
      have p8 : b8 = true := hall { on := 8, ground := .data } (by simp) rfl
      have p6 : b6 = true := hall { on := 6, ground := .data } (by simp) rfl
      obtain rfl := h6 p6
      subst p6
      obtain ⟨g, rfl, z2, cs, z3, z4, z5⟩ := h8 p8
      refine stB (ty := 23) (cells := bxA4 a b c d) rfl _ _ rfl z4 rfl rfl box_size39 (by simpa using z3) (by simp [Value.oneCell']) ?_
      intro w2 hk hg hs
      have hb2 := below_of_gb hB hg z2 hB.size
      exact ⟨rfl, b0, b1, b2, b3, b4, b5, true, b7, b8, b9, true, x5, _, x12, x13, x14, x15, x16, x17, _, rfl, rfl, hb2, h0, h1, h2, h3', h4', h5, (fun _ => rfl), (fun e => by obtain ⟨g8, q1, q2, cs8, q3, q4, q5⟩ := h7 e; exact ⟨g8, q1, q2, cs8, q3, q4.grown hg (fun e => by injection e with e; exact absurd e (q4.ne_Bk z4 (by decide))), q5⟩), (fun _ => ⟨g, rfl, z2, _, rfl, hk, fun _ => rfl⟩), h9, (fun _ => p8)⟩
    cases ho
  case refine_4 =>
    intro ls A wz hI hall
    obtain ⟨b0, b1, b2, b3, b4, b5, b6, b7, b8, b9, b10, x5, x6, x12, x13, x14, x15, x16, x17, x18, rfl, rfl, hB, h0, h1, h2, h3', h4', h5, h6, h7, h8, h9, h10⟩ := hI
    have p0 : b0 = true := hall 0 (by decide)
    have p1 : b1 = true := hall 1 (by decide)
    have p2 : b2 = true := hall 2 (by decide)
    have p3 : b3 = true := hall 3 (by decide)
    have p4 : b4 = true := hall 4 (by decide)
    have p5 : b5 = true := hall 5 (by decide)
    have p6 : b6 = true := hall 6 (by decide)
    have p7 : b7 = true := hall 7 (by decide)
    have p8 : b8 = true := hall 8 (by decide)
    have p9 : b9 = true := hall 9 (by decide)
    have p10 : b10 = true := hall 10 (by decide)
    obtain rfl := h0 p0
    obtain rfl := h1 p1
    obtain rfl := h2 p2
    obtain rfl := h3' p3
    obtain rfl := h4' p4
    obtain rfl := h5 p5
    obtain rfl := h6 p6
    obtain ⟨g5, rfl, u5, cs5, -, K5, e5⟩ := h7 p7
    obtain rfl := e5 p9
    obtain ⟨g6, rfl, u6, cs6, -, K6, e6⟩ := h8 p8
    obtain rfl := e6 p10
    have kj := k0.nx hB
    have hbw := hb0.trans (hB.mono (Nat.le_of_lt k0.lt))
    clear h0 h1 h2 h3' h4' h5 h6 h7 h8 h9 h10 p0 p1 p2 p3 p4 p5 p6 p7 p8 p9 p10 e5 e6 hG hT k0 hb0 hB u5 u6
    obtain ⟨f0, f1, f2, f3⟩ := K6.cell4
    obtain ⟨g0', g1', g2', g3'⟩ := K5.cell4
    go_wp2_with (first
      | (refine ldB rfl _ _ rfl kj rfl Tryz.underlying28 rfl job_size ?_)
      | (go_at_call 45; (with_reducible refine (hRv _).mono ?_); rintro e w2 ⟨v2, rfl, ho2, hb2⟩; obtain ⟨A2, c2, rfl, -, -, hr2, -⟩ := own_form ho2))
    have kj2 := kj.nx hb2
    have K52 := K5.nx hb2
    have K62 := K6.nx hb2
    have hz0 : g0 ≤ w2.heap.size := Nat.le_of_lt kj2.lt
    have hbw2 := hbw.trans (hb2.mono (Nat.le_of_lt kj.lt))
    clear hall f0 f1 f2 f3 g0' g1' g2' g3' kj K5 K6 hb2 ho2 hbw hRv
    obtain ⟨hlen, hA0, hAp, hAq, hAe, hov, hlev⟩ := HH.out
    have HE := Lib.hid (And.intro hAe hlev)
    have HO := Lib.hid hov
    have HL := Lib.hid hlen
    clear HH hAe hlev hov hlen
    have hAq := Lib.hid hAq
    have hAp := Lib.hid hAp
    have h30 := Lib.hid h3
    have h40 := Lib.hid h4
    clear h3 h4
    go_loopw [7, 28] (fun v i ws => ∃ q : Nat, q ≤ rs.length ∧ i = .int .i64 (q : Int) ∧ ws.ownsRow w2.heap.size 3 1 v (T q 0).length ((T q 0).map (Value.int .i64)) ∧ Below w2.heap.size w2 ws) (fun _ i _ => (rs.length - intOf i).toNat)
    case atStart => exact ⟨0, by omega, rfl, by rw [hA0]; simpa using World.ownsRow_nil _ _ _ _, Below.refl _ _⟩
    case round =>
      obtain ⟨q, hq, rfl, hown, hbel⟩ := hrel
      have hbz := hbel.size
      by_cases hlt : (q : Int) < (rs.length : Int)
      · have hq1 : q < rs.length := by omega
        obtain ⟨bR, oR, rfl, hbR, r0, r1⟩ := rd_run (hr2.below hbel) q hq1
        have hAp1 := fun p hp => hAp.out q p hq1 hp
        have hOv := fun p (hp : p < cs.length) w' => HO.out cs[p] rs[q] (List.getElem_mem hp) (List.getElem_mem hq1) w'
        have hAq1 := Lib.hid (hAq.out q hq1)
        have hlen1 := Lib.hid (fun p => HL.out q p)
        have v1 : wrap64 ((q : Int) + 1) = (q : Int) + 1 := (lvq_fit (l := 0) (show q ≤ 2000000000 from Nat.le_trans hq (Nat.le_trans h40.out (by decide))) (Nat.le_refl q) (Nat.zero_le _)).2.2
        have V1 := Lib.hid v1
        have HQ1 := Lib.hid hq1
        clear hAp hAq HO HL
        generalize rs[q] = y at *
        obtain ⟨y1, y2⟩ := y
        have HOV := Lib.hid hOv
        have HAP := Lib.hid hAp1
        clear hOv hAp1 v1 hq1
        have k9 := Bk.new wr 111 #[.int .i64 0, .int .i64 0]
        have hbA := (Below.refl wr.heap.size wr).alloc (Nat.le_refl _) (.cells #[.int .i64 0, .int .i64 0] 111)
        go_upto_region 6 with (refine stB (ty := 111) (cells := #[.int .i64 y1, .int .i64 y2]) rfl _ _ rfl k9 rfl rfl run_size2 rfl (by simp [Value.oneCell']) ?_; intro w5 k5 hg5 hs5)
        have hB5 := below_of_gb hbA hg5 (Nat.le_refl _) (by simp)
        have hbel5 := hbel.trans (hB5.mono hbz)
        have hown5 := own_below hown hB5 (Nat.le_refl _)
        have kj5 := kj2.nx hbel5
        have K65 := K62.nx hbel5
        have K55 := K52.nx hbel5
        obtain ⟨f0, f1, f2, f3⟩ := K65.cell4
        obtain ⟨d0, d1, d2, d3⟩ := K55.cell4
        generalize wr.heap.size = g9 at *
        clear hown hbel r0 r1 k9 hbA hg5 hs5 hB5 hbz
        go_wp2_with (first
          | (refine ldB rfl _ _ rfl kj5 rfl Tryz.underlying28 rfl job_size ?_)
          | (go_at_call 45; (with_reducible refine (hRu _).mono ?_); rintro e w6 ⟨v6, rfl, ho6, hb6⟩; obtain ⟨A6, c6, rfl, -, -, hr6, -⟩ := own_form ho6))
        have hz5 := hbel5.size
        have k96 := k5.nx hb6
        have hown6 := own_below hown5 hb6 (Nat.le_refl _)
        have hbel6 := hbel5.trans (hb6.mono hz5)
        have ho6 := own_base ho6 hz5
        clear f0 f1 f2 f3 d0 d1 d2 d3 hr6 k5 hown5 hbel5 kj5 K65 K55 hb6 hz5
        go_loopw [7, 41] (fun v i ws => ∃ p : Nat, p ≤ cs.length ∧ i = .int .i64 (p : Int) ∧ ws.ownsRow w2.heap.size 3 1 v (T q p).length ((T q p).map (Value.int .i64)) ∧ ws.ownsRow w2.heap.size 111 2 (.slice A6 cs.length c6) cs.length (encR cs) ∧ Bk ws g9 111 #[.int .i64 y1, .int .i64 y2] ∧ Below w2.heap.size w2 ws) (fun _ i _ => (cs.length - intOf i).toNat)
        case atStart => exact ⟨0, by omega, rfl, hown6, ho6, k96, hbel6⟩
        case round =>
          clear hown6 ho6 k96 hbel6
          obtain ⟨p, hp, rfl, hown, hcw, k9, hbel⟩ := hrel
          have hbz := hbel.size
          by_cases hlt2 : (p : Int) < (cs.length : Int)
          · have hp1 : p < cs.length := by omega
            obtain ⟨b6, o6, rfl, hb6, r0, r1⟩ := rd_run (Rd.of_own hcw) p hp1
            have hAp1 := HAP.out p hp1
            have hOv := HOV.out p hp1
            have hln := hlen1.out p
            generalize cs[p] = x at *
            obtain ⟨x1, x2⟩ := x
            have u1 : wrap64 ((p : Int) + 1) = (p : Int) + 1 := (lvq_fit (l := 0) (show p ≤ 2000000000 from Nat.le_trans hp (Nat.le_trans h30.out (by decide))) (Nat.le_refl p) (Nat.zero_le _)).2.2
            have U1 := Lib.hid u1
            have HP1 := Lib.hid hp1
            have HAP1 := Lib.hid hAp1
            have hov1 : (ovX (grN W TW) TW TH (x1, x2) (y1, y2)).length ≤ 12884901888 := by
              have := hlen1.out (p + 1)
              rw [hAp1, List.length_append] at this
              omega
            unfold ovX at hov1 HAP1
            simp only at hov1 HAP1 hOv
            generalize ovR (grN W TW) TW TH x1 y1 x2 y2 = N at *
            have hfit := fit_app hln hov1
            generalize T q p = L0 at *
            clear HOV HAP hAp1 u1 hp1 hov1 hln
            have kn := Bk.new wr 111 #[.int .i64 0, .int .i64 0]
            have hbA := (Below.refl wr.heap.size wr).alloc (Nat.le_refl _) (.cells #[.int .i64 0, .int .i64 0] 111)
            go_upto_region 9 with (refine stB (ty := 111) (cells := #[.int .i64 x1, .int .i64 x2]) rfl _ _ rfl kn rfl rfl run_size2 rfl (by simp [Value.oneCell']) ?_; intro w7 k7 hg7 hs7)
            have hB7 := below_of_gb hbA hg7 (Nat.le_refl _) (by simp)
            have hbel7 := hbel.trans (hB7.mono hbz)
            have hown7 := own_below hown hB7 (Nat.le_refl _)
            have hcw7 := own_below hcw hB7 (Nat.le_refl _)
            have k97 := k9.nx hB7
            have K57 := K52.nx hbel7
            obtain ⟨f0, f1⟩ := k97.cell2
            obtain ⟨d0, d1⟩ := k7.cell2
            have hz7 := hbel7.size
            clear hown hbel hcw k9 r0 r1 kn hbA hg7 hs7 hB7
            go_wp2_with (first
              | (refine ldB rfl _ _ rfl K57 rfl Tryz.underlying71 rfl gr_size ?_)
              | (go_at_call 46; (with_reducible refine (hOv _).mono ?_); rintro e w8 ⟨v8, rfl, ho8, hb8⟩; obtain ⟨A8, c8, rfl, -, -, hr8, -⟩ := own_form ho8; have hown8 := own_below hown7 hb8 (Nat.le_refl _); have hcw8 := own_below hcw7 hb8 (Nat.le_refl _); have k98 := k97.nx hb8; have hbel8 := hbel7.trans (hb8.mono hz7); have hz8 := hbel8.size)
              | (at_builtin; refine appR rfl _ _ _ rfl Tryz.underlying41 int_infoP rfl Nat.one_pos rfl rfl hown8 hbel8 (Nat.le_refl _) hz8 hr8 (by simp) (intsL _) hfit.1 hfit.2 ?_; intro v' w' hown' hbel' hsz' hg' hor'))
            have hcw' := own_gbr hcw8 hg' (own_ne_own hcw8 hown8 (by decide))
            have k9' := k98.grown hg' (fun e => Bk.ne_own k98 hown8 (by decide) g9 e.symm rfl)
            exact ⟨⟨p + 1, HP1.out, (by rw [U1.out]; simp), by rw [HAP1.out, List.length_append, List.map_append]; exact hown', hcw', k9', hbel'⟩, dec_i U1.out HP1.out⟩
          · have hpe : p = cs.length := by omega
            subst hpe
            have hAqq := hAq1.out
            go_wp2_with fail
            exact ⟨⟨q + 1, HQ1.out, (by rw [V1.out]; simp), by rw [← hAqq]; exact hown, hbel⟩, dec_i V1.out HQ1.out⟩
      · have hqe : q = rs.length := by omega
        subst hqe
        obtain ⟨hAe, hlev⟩ := HE.out
        have hln := HL.out rs.length 0
        rw [hAe] at hown hln
        have hmem := fun i => srt_mem (allT (grN W TW) TW TH cs rs) i
        generalize allT (grN W TW) TW TH cs rs = S at *
        obtain ⟨hc1, hc2⟩ := compact_law (srt_rise S)
        have hF := hlev _ hc1 (fun i => (hc2 i).trans (hmem i))
        have hsl := srt_len S
        have hs1 : S.length < 4611686018427387904 := Nat.lt_of_le_of_lt hln (by decide)
        go_wp2_with (first
          | (go_at_call 47; (with_reducible refine (sorti_own S _ _ _ hown hs1).mono ?_); rintro e w3 ⟨rfl, ho3, hg3⟩)
          | (go_at_call 48; (with_reducible refine (compi_own (srt S) _ _ _ (by rw [hsl]; exact ho3) (by rw [hsl]; exact hs1)).mono ?_); rintro e w4 ⟨v4, rfl, ho4, hg4⟩))
        go_returns
        rw [hF] at ho4
        have hb3 := hbel.grown hg3 hbz (fun k e => own_ge hown k e)
        have hb4 := hb3.grown hg4 hb3.size (fun k e => own_ge ho3 k e)
        rw [HG0.out]
        exact ⟨_, rfl, own_base ho4 hz0, hbw2.trans (hb4.mono hz0)⟩
end Go.Proofs.YtibmhabipghjlaaGreat
end
