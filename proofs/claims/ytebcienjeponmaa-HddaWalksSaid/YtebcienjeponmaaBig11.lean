/- The reference's adjugates and determinants. -/
import Derived.Test.YtebcienjeponmaaBig10
set_option linter.unusedVariables false
namespace Go.Proofs.Ytebcienjeponmaa
open Go.RowKit
def detK (zs : List Int) (k : Nat) : Int := (if k = 1 then -1 else 1) * (zs.getD k 0 * minorZ zs 0 k)
def detSB (zs : List Int) : Nat → Int
  | 0 => 0
  | k + 1 => detSB zs k + detK zs k
def detZ (zs : List Int) : Int := detSB zs 3
theorem detK_lt {zs : List Int} (h : ∀ k, En (zs.getD k 0)) (k : Nat) : ((zs.getD k 0 * minorZ zs 0 k).natAbs : Int) < Bp 28 := by
  have h1 : ((zs.getD k 0).natAbs : Int) < Bp 9 := h k
  have h2 := minor_lt h 0 k
  have h3 : ((minorZ zs 0 k).natAbs : Int) < Bp 19 := by have := Bp1s 18; simp only [Nat.reduceAdd] at this; have := Bp_pos 18; omega
  exact natAbs_mul_lt h1 h3
theorem detSB_lt {zs : List Int} (h : ∀ k, En (zs.getD k 0)) (k : Nat) : ((detSB zs k).natAbs : Int) ≤ k * Bp 28 := by
  induction k with
  | zero => simp [detSB]
  | succ k ih =>
    have := detK_lt h k
    have e : ((k + 1 : Nat) : Int) * Bp 28 = k * Bp 28 + Bp 28 := by rw [Int.natCast_add, Int.add_mul]; simp
    unfold detSB detK
    rw [e]
    split <;> omega
theorem Off.same {g : Option Nat} {s s' : Value} {A : Option Addr} {n c : Nat} (h : Off g (.agg #[s, .slice A n c])) : Off g (.agg #[s', .slice A n c]) := by
  intro s2 a n2 c2 e hn
  injection e with e
  have e2 := congrArg (fun x : Array Value => x[1]?) e
  simp at e2
  obtain ⟨rfl, rfl, rfl⟩ := e2
  exact h _ _ _ _ rfl hn
/-- Neg hands the digits on. -/
theorem neg_same (s : Bool) (A : Option Addr) (n c : Nat) (x : Int) (w : World) {lo : Nat} (ha : BigN lo w (.agg #[.bool s, .slice A n c]) x) (hs : Sm x) :
    Calls Try.prog 38 #[.agg #[.bool s, .slice A n c]] w fun e w' => ∃ s', e = .returned (.agg #[.bool s', .slice A n c]) ∧ BigN lo w' (.agg #[.bool s', .slice A n c]) (-x) ∧ Below w.heap.size w w' := by
  obtain ⟨A', c', l, e, h2, h3, h4, h5, h6, h7⟩ := ha
  have e2 := congrArg (fun x : Value => match x with | .agg a => a[0]? | _ => none) e
  have e3 := congrArg (fun x : Value => match x with | .agg a => a[1]? | _ => none) e
  simp at e2 e3
  obtain ⟨rfl, rfl, rfl⟩ := e3
  subst e2
  clear e
  generalize hsx : decide (x < 0) = sx
  have HSX := Lib.hid hsx
  clear hsx
  go_enter Try.func38, Try.ntmps38
  go_wp2_with fail
  refine (made_big (!sx) A l.length c _).mono ?_
  rintro e w1 ⟨rfl, hb⟩
  have hz := hb.size
  simp only [World.size_alloc] at hz
  have hK := (Bk.new (w.alloc (.cells #[.bool sx, .slice A l.length c] 42)) 42 #[.bool false, .slice none 0 0]).nx hb
  simp only [World.size_alloc] at hK
  go_wp2_with (refine stBig rfl _ _ rfl hK rfl rfl rfl ?_; intro w6 hK6 hg6 hs6)
  refine bodyPost_ret (res_big rfl hK6 rfl) rfl ?_
  have hbz : Below w.heap.size w w1 := (((Below.refl _ w).alloc (Nat.le_refl _) _).alloc (by simp) _).trans (hb.mono (by simp; omega))
  have hneg : (!sx && decide (0 < l.length)) = decide (-x < 0) := by
    rw [← HSX.out]
    have := norm_zero h6
    rw [h7] at this
    by_cases hl : l = []
    · have := this.1 hl; subst hl; simp; omega
    · have hn : ¬ (x.natAbs : Int) = 0 := fun e => hl (this.2 e)
      have hp := List.length_pos_iff.2 hl
      rw [Bool.eq_iff_iff]; simp [hp]; omega
  have hb6 := below_grown hbz hg6 (by simp) (by omega)
  exact ⟨_, rfl, ⟨A, c, l, by rw [← hneg], h2, h3, h4, h5.below hb6 (Nat.le_refl _), h6, by rw [h7]; omega⟩, hb6⟩
theorem keepD {w w' : World} {B b p q : Nat} {u v : Value} (h1 : w.cell? ⟨b, p, none⟩ = some u) (h2 : w.cell? ⟨b, q, none⟩ = some v) (hb : b < B) (h : Below B w w') :
    w'.cell? ⟨b, p, none⟩ = some u ∧ w'.cell? ⟨b, q, none⟩ = some v ∧ Below B w w' := ⟨(h.cell hb).trans h1, (h.cell hb).trans h2, h⟩
set_option maxRecDepth 100000 in
set_option maxHeartbeats 2000000 in
theorem det_any (v : Value) (zs : List Int) (w : World) {lo : Nat} (hv : Bigs lo w v zs) (hl : zs.length = 9) (hz : ∀ k, En (zs.getD k 0)) :
    Calls Try.prog 35 #[v] w fun e w' => ∃ u, e = .returned u ∧ BigN w.heap.size w' u (detZ zs) ∧ Below w.heap.size w w' := by
  obtain ⟨A, cp, rfl, hcp1, hcp2⟩ := hv.form
  have HZ := Lib.hid hz
  have hl9 : 9 ≤ zs.length := by omega
  have hv' : Bigs lo w (.slice A 9 cp) zs := hl ▸ hv
  rw [hl]
  have HL := Lib.hid hl
  clear hl hz hv hcp1
  have hK0 := Bk.new w 42 #[.bool false, .slice none 0 0]
  have hb00 : Below w.heap.size w (w.alloc (.cells #[.bool false, .slice none 0 0] 42)) := by go_grown
  go_enter Try.func35, Try.ntmps35
  go_wp2_with fail
  refine (of_any 0 _ (by omega) (by omega)).mono ?_
  rintro e w1 ⟨v1, rfl, hN1, hb1⟩
  obtain ⟨s1, A1, n1, c1, rfl⟩ := hN1.shape
  have hz1 := hb1.size
  simp only [World.size_alloc] at hz1
  have hoff1 := hN1.off (g := some w1.heap.size) (fun k hk => by injection hk; omega)
  go_wp2_with fail
  go_loopw [4] (fun iv wr => ∃ (k : Nat) (s : Bool) (A : Option Addr) (n c : Nat), k ≤ 3 ∧ iv = .int .i64 k ∧ Bk wr w.heap.size 42 #[.bool false, .slice none 0 0] ∧ Bk wr w1.heap.size 42 #[.bool s, .slice A n c] ∧
      BigN (w.heap.size + 1) wr (.agg #[.bool s, .slice A n c]) (detSB zs k) ∧ Off (some w1.heap.size) (.agg #[.bool s, .slice A n c]) ∧ Below w.heap.size w wr) (fun iv _ => 3 - (intOf iv).toNat)
  case atStart =>
    refine ⟨0, s1, A1, n1, c1, by omega, rfl, (hK0.nx hb1).alloc _, Bk.new w1 _ _, (hN1.alloc _).less (by simp), hoff1, ?_⟩
    exact (hb00.trans (hb1.mono (by simp))).alloc (by omega) _
  case round =>
    obtain ⟨k, s, A3, n3, c3, hk, rfl, hK2, hK3, hN, hoff, hb⟩ := hrel
    have hl3 := hK3.lt
    rcases Nat.lt_or_ge k 3 with hlt | hge
    · obtain ⟨b, o, s4, A4, n4, c4, rfl, b1, b2, d1, d2, hNw, hNz⟩ := hv'.get2 hb k (by omega)
      have hvr := hv'.nx hb
      have hk1 : (k : Int) < 9 := by omega
      have hk0 : (0 : Int) ≤ (k : Int) := by omega
      have hzk := en_sm (HZ.out k)
      have hdl := detK_lt HZ.out k
      have hml := minor_lt HZ.out 0 k
      have hsm : Sm (minorZ zs 0 k) := by
        have h1 := Bp1s 18
        have h2 := Bp_mono (show 19 ≤ 40 by omega)
        have h3 := Bp_pos 18
        simp only [Nat.reduceAdd] at h1
        show ((minorZ zs 0 k).natAbs : Int) < Bp 40
        omega
      have hz9 := HZ.out
      have HZ9 := Lib.hid hz9
      clear hz9 hdl hml
      have hHL := HL.out
      have HHL := Lib.hid hHL
      clear hHL
      have d1' : wr.drew.cell? ⟨b, o + k * 2, none⟩ = some (.bool s4) := d1
      have d2' : wr.drew.cell? ⟨b, o + k * 2 + 1, none⟩ = some (.slice A4 n4 c4) := d2
      have hvd := hvr.drew
      have hNzd := hNz.drew
      have hb3 : b < wr.drew.heap.size := Nat.lt_of_lt_of_le b2 hb.size
      have hK2d := hK2.drew
      have hK3d := hK3.drew
      have hNd := hN.drew
      have hbd := hb.drew
      have hbw : b < wr.heap.size := hb3
      go_upto_region 5 with fail
      go_cut [5] (fun p wx => ∃ (g : Nat) (s : Bool) (A : Option Addr) (n c : Nat), p = .pointer (some ⟨g, 0, none⟩) ∧ wr.heap.size ≤ g ∧ Bk wx g 42 #[.bool s, .slice A n c] ∧ BigN wr.heap.size wx (.agg #[.bool s, .slice A n c]) (zs.getD k 0 * minorZ zs 0 k) ∧ Off (some g) (.agg #[.bool s, .slice A n c]) ∧ Below wr.heap.size wr wx)
      case first =>
       go_region_held3 (fun w' => w'.cell? ⟨b, o + k * 2, none⟩ = some (.bool s4) ∧ w'.cell? ⟨b, o + k * 2 + 1, none⟩ = some (.slice A4 n4 c4) ∧ Below wr.heap.size wr w')
        (first
        | exact keepD d1 d2 hbw hBb
        | exact keepD d1 d2 hbw hBa
        | (refine keepD d1 d2 hbw ?_; (first | done | exact Below.alloc hBb hzbb _ | exact Below.alloc hBa hzaa _ | go_grown)))
        (first
        | (go_at_call 37; (with_reducible refine (minor_any _ zs 0 k _ (hvr.nx (by go_grown)) HHL.out (by omega) (by omega) HZ9.out).mono ?_); rintro e wa ⟨va, rfl, hNa, hba⟩; obtain ⟨sa, Aa, na, ca, rfl⟩ := hNa.shape; have hza := hba.size; have hzaa : wr.heap.size ≤ wa.heap.size := Nat.le_trans (by simp) hza; have hBa : Below wr.heap.size wr wa := Below.trans (by go_grown) (hba.mono (by simp)))
        | (go_at_call 41; (with_reducible refine (mul_any _ _ _ _ _ (hNz.nx (by first | exact hBa | exact Below.alloc hBa hzaa _)) (hNa.nx (by first | exact Below.refl _ _ | go_grown)) hzk hsm).mono ?_); rintro e wb ⟨vb, rfl, hNb, hbb⟩; obtain ⟨sb, Ab, nb, cb, rfl⟩ := hNb.shape; have hzb := hbb.size; have hzbb : wr.heap.size ≤ wb.heap.size := Nat.le_trans (by first | exact hzaa | (simp; omega)) hzb; have hBb : Below wr.heap.size wr wb := Below.trans (by first | exact hBa | exact Below.alloc hBa hzaa _) (hbb.mono (by first | exact hzaa | (simp; omega))); (try (have hK5 : Bk wb wr.heap.size 42 #[.bool false, .slice none 0 0] := ((Bk.new wr.drew 42 #[.bool false, .slice none 0 0]).nx hba).nx hbb; obtain ⟨c50, c51⟩ := hK5.cell2; have f50 := hK5.frozen 0; have f51 := hK5.frozen 1)); (try (have hK6 := (Bk.new wa 42 #[.bool false, .slice none 0 0]).nx hbb; obtain ⟨c60, c61⟩ := hK6.cell2; have f60 := hK6.frozen 0; have f61 := hK6.frozen 1))))
       · go_wp2_with fail
         go_meet
         exact ⟨_, _, _, _, _, rfl, hzbb, Bk.new wb _ _, (hNb.alloc _).less hzaa, hNb.off (fun k hk => by injection hk; omega), Below.alloc hBb hzbb _⟩
       · go_wp2_with fail
         go_meet
         simp only [World.size_alloc] at hzb
         exact ⟨_, _, _, _, _, rfl, hzaa, hK6.set2 _ _, (hNb.grown (gb2 wb _ _ _) (.inl (by simp))).less (by simp; omega), hNb.off (fun k hk => .inl (by injection hk; simp; omega)), below_of_gb hBb (gb2 wb _ _ _) hzaa hzbb⟩
       · go_wp2_with fail
         go_meet
         have hza2 : wr.heap.size + 1 ≤ wa.heap.size := by simpa using hza
         exact ⟨_, _, _, _, _, rfl, Nat.le_refl _, hK5.set2 _ _, (hNb.grown (gb2 wb _ _ _) (.inl (by omega))).less hzaa, hNb.off (fun k hk => .inl (by injection hk; omega)), below_of_gb hBb (gb2 wb _ _ _) (Nat.le_refl _) hzbb⟩
      case rest =>
       obtain ⟨g, sx, Ax, nx, cx, rfl, hg, hK5, hNx, hoffx, hBx⟩ := hcut
       have hK2x := hK2.below hBx hK2.lt
       have hK3x := hK3.below hBx hl3
       have hNax := hN.keep hBx (Nat.le_refl _)
       have hoffg := hN.off (g := some g) (fun k hk => .inr (by injection hk; omega))
       have hbx := hb.trans (hBx.mono (by have := hb.size; omega))
       have hzx := hBx.size
       have hgx := hK5.lt
       have hdl := detSB_lt HZ.out k
       have hkl := detK_lt HZ.out k
       have hsa : Sm (detSB zs k) := by
         have h1 := Bp_mono (show 29 ≤ 40 by omega)
         have h2 := Bp1s 28
         have h3 := Bp_pos 28
         have hk2 : (k : Int) * Bp 28 ≤ 2 * Bp 28 := Int.mul_le_mul_of_nonneg_right (by omega) (by omega)
         simp only [Nat.reduceAdd] at h2
         show ((detSB zs k).natAbs : Int) < Bp 40
         omega
       have hsp : Sm (zs.getD k 0 * minorZ zs 0 k) := sm_38 (by have := Bp_mono (show 28 ≤ 38 by omega); omega)
       have hspn : Sm (-(zs.getD k 0 * minorZ zs 0 k)) := by
         show ((-(zs.getD k 0 * minorZ zs 0 k)).natAbs : Int) < Bp 40
         rw [Int.natAbs_neg]; exact hsp
       have HDK := Lib.hid (show detSB zs (k + 1) = detSB zs k + detK zs k from rfl)
       have HDK2 := Lib.hid (show detK zs k = (if k = 1 then -1 else 1) * (zs.getD k 0 * minorZ zs 0 k) from rfl)
       generalize zs.getD k 0 * minorZ zs 0 k = pr at *
       clear hdl hkl hK2 hK3 hN hb hvr hNz d1 d2 d1' d2' hvd hNzd hK2d hK3d hNd hbd HZ9
       by_cases hk1' : k = 1
       · obtain rfl : k = 1 := hk1'
         go_wp2_with (first
           | (refine ldBig rfl _ rfl hK5 rfl ?_)
           | (go_at_call 38; (with_reducible refine (neg_same _ _ _ _ pr _ hNx hsp).mono ?_); rintro e wn ⟨sn, rfl, hNn, hbn⟩; have hzn := hbn.size; have hK5n := hK5.nx hbn; have hNan := hNax.nx hbn)
           | (refine stBig rfl _ _ rfl hK5n rfl rfl rfl ?_; intro wo hK5o hgo hso; have hNno := hNn.kept hoffx.same hgo; have hNao := hNan.kept hoffg hgo)
           | (refine ldBig rfl _ rfl (hK3x.nx hbn |>.grown hgo (by intro e; injection e; omega)) rfl ?_)
           | (refine ldBig rfl _ rfl hK5o rfl ?_)
           | (go_at_call 42; go_loud (with_reducible refine (add_any _ _ _ _ _ hNao hNno hsa hspn).mono ?_); rintro e wd ⟨vd, rfl, hNd, hbd⟩; obtain ⟨sd, Ad, nd, cd, rfl⟩ := hNd.shape; have hzd := hbd.size)
           | (refine stBig rfl _ _ rfl (((hK3x.nx hbn).grown hgo (by intro e; injection e; omega)).nx hbd) rfl rfl rfl ?_; intro we hKe hge hse))
         have hd : detSB zs (1 + 1) = detSB zs 1 + -pr := by rw [HDK.out, HDK2.out]; simp
         rw [← hd] at hNd
         refine ⟨⟨1 + 1, sd, Ad, nd, cd, by omega, rfl, ?_, hKe, (hNd.grown hge (.inl (by omega))).less (by omega), hNd.off (fun k hk => .inl (by injection hk; omega)), ?_⟩, by simp only [intOf]; omega⟩
         · exact (((hK2x.nx hbn).grown hgo (by intro e; injection e; omega)).nx hbd).grown hge (by intro e; injection e; omega)
         · exact below_grown ((below_grown (hbx.trans (hbn.mono (by omega))) hgo (by omega) (by omega)).trans (hbd.mono (by omega))) hge (by omega) (by omega)
       · have hne : ((k : Int) == 1) = false := by simp; omega
         go_wp2_with (first
           | (refine ldBig rfl _ rfl hK3x rfl ?_)
           | (refine ldBig rfl _ rfl hK5 rfl ?_)
           | (go_at_call 42; (with_reducible refine (add_any _ _ _ _ _ hNax hNx hsa hsp).mono ?_); rintro e wd ⟨vd, rfl, hNd, hbd⟩; obtain ⟨sd, Ad, nd, cd, rfl⟩ := hNd.shape; have hzd := hbd.size)
           | (refine stBig rfl _ _ rfl (hK3x.nx hbd) rfl rfl rfl ?_; intro we hKe hge hse))
         have hd : detSB zs (k + 1) = detSB zs k + pr := by rw [HDK.out, HDK2.out, if_neg hk1']; simp
         rw [← hd] at hNd
         refine ⟨⟨k + 1, sd, Ad, nd, cd, by omega, by go_num, ?_, hKe, (hNd.grown hge (.inl (by omega))).less (by omega), hNd.off (fun k hk => .inl (by injection hk; omega)), ?_⟩, by simp only [intOf]; omega⟩
         · exact (hK2x.nx hbd).grown hge (by intro e; injection e; omega)
         · exact below_grown (hbx.trans (hbd.mono (by omega))) hge (by omega) (by omega)
    · obtain rfl : k = 3 := by omega
      go_wp2_with (first
        | (refine ldBig rfl _ rfl hK3 rfl ?_)
        | (refine stBig rfl _ _ rfl hK2 rfl rfl rfl ?_; intro we hKe hge hse))
      refine bodyPost_ret (res_big rfl hKe rfl) rfl ?_
      exact ⟨_, rfl, (hN.grown hge (.inl (by omega))).less (by omega), below_grown hb hge (by omega) hb.size⟩
end Go.Proofs.Ytebcienjeponmaa
