/- Several texts in one: The reference's numbers beyond a row: what is left, once and twice. Borders, of the program. Where a place beyond a row stands. -/
import Derived.Test.YtjbelhpgbcnlmaaGreatSamplePixelsZz5
import Derived.Deep.RegionHeld3
import Derived.Deep.DeepCutAuto
import Derived.RegionTactic
section
set_option linter.unusedVariables false
namespace Go.Proofs.YtjbelhpgbcnlmaaGreat
open Go.RowKit
theorem flo_mul {i n:Int} (h0:-9223372036854775808≤i) (h1:i≤9223372036854775807) (hn:1≤n) (hn2:n≤4294967296) :
 flo i n=i/n∧i-flo i n*n=i%n∧-9223372041149743104≤flo i n*n∧flo i n*n≤9223372036854775807∧0≤i%n∧i%n<n∧-9223372041149743104≤flo i n∧flo i n≤9223372036854775807:=by
 have e:=flo_pos i (show 0<n by omega)
 have h2:=Int.mul_ediv_add_emod i n
 have h3:=Int.emod_nonneg i (show n≠0 by omega)
 have h4:=Int.emod_lt_of_pos i (show 0<n by omega)
 have h5:flo i n*n=i-i%n:=by rw [e,Int.mul_comm];omega
 refine ⟨e,by omega,by omega,by omega,h3,h4,?_,?_⟩
 ·rw [e]
  rcases Int.le_total 0 i with hi|hi
  ·have:=Int.ediv_nonneg hi (show 0≤n by omega);omega
  ·have h6:0≤(i/n)*(1-n)∨0<i/n:=by
    rcases Int.le_total (i/n) 0 with h|h
    ·left;exact Int.mul_nonneg_of_nonpos_of_nonpos h (by omega)
    ·rcases Int.lt_or_le 0 (i/n) with h'|h'
     ·right;exact h'
     ·left;have:i/n=0:=by omega
      rw [this];simp
   rcases h6 with h6|h6
   ·rw [Int.mul_sub,Int.mul_one] at h6;rw [e] at h5;omega
   ·omega
 ·rw [e]
  rcases Int.le_total 0 i with hi|hi
  ·have:=Int.ediv_le_self (b:=n) (a:=i) hi;omega
  ·have:i/n≤0:=by
    rcases Int.lt_or_le 0 (i/n) with h|h
    ·have:=Int.mul_pos (show 0<n by omega) h;omega
    ·exact h
   omega
theorem keepDx {w w':World} {B b p q:Nat} {u v:Value} (h1:w.cell? ⟨b,p,none⟩=some u) (h2:w.cell? ⟨b,q,none⟩=some v) (hb:b<B) (h:Below B w w') :
 w'.cell? ⟨b,p,none⟩=some u∧w'.cell? ⟨b,q,none⟩=some v∧Below B w w' :=
 ⟨(h.cell (by exact hb)).trans h1,(h.cell (by exact hb)).trans h2,h⟩
theorem keep22 {w w':World} {B b b':Nat} {u v u' v':Value} (h1:w.cell? ⟨b,0,none⟩=some u) (h2:w.cell? ⟨b,1,none⟩=some v) (h3:w.cell? ⟨b',0,none⟩=some u') (h4:w.cell? ⟨b',1,none⟩=some v') (hb:b<B) (hb':b'<B) (h:Below B w w') :
 (w'.cell? ⟨b,0,none⟩=some u∧w'.cell? ⟨b,1,none⟩=some v)∧(w'.cell? ⟨b',0,none⟩=some u'∧w'.cell? ⟨b',1,none⟩=some v')∧Below B w w' :=
 ⟨⟨(h.cell (by exact hb)).trans h1,(h.cell (by exact hb)).trans h2⟩,⟨(h.cell (by exact hb')).trans h3,(h.cell (by exact hb')).trans h4⟩,h⟩
theorem keep22' {w w' W:World} {B B' b b':Nat} {u v u' v':Value} (h1:w.cell? ⟨b,0,none⟩=some u) (h2:w.cell? ⟨b,1,none⟩=some v) (h3:w.cell? ⟨b',0,none⟩=some u') (h4:w.cell? ⟨b',1,none⟩=some v') (hb:b<B) (hb':b'<B) (h:Below B w w') (h':Below B' W w') :
 (w'.cell? ⟨b,0,none⟩=some u∧w'.cell? ⟨b,1,none⟩=some v)∧(w'.cell? ⟨b',0,none⟩=some u'∧w'.cell? ⟨b',1,none⟩=some v')∧Below B' W w' :=
 ⟨⟨(h.cell (by exact hb)).trans h1,(h.cell (by exact hb)).trans h2⟩,⟨(h.cell (by exact hb')).trans h3,(h.cell (by exact hb')).trans h4⟩,h'⟩
theorem keep22s {w' W:World} {b b':Nat} {u v u' v':Value} (h:(w'.cell? ⟨b,0,none⟩=some u∧w'.cell? ⟨b,1,none⟩=some v)∧(w'.cell? ⟨b',0,none⟩=some u'∧w'.cell? ⟨b',1,none⟩=some v')∧Below W.heap.size W w') (hb:b≠W.heap.size) (hb':b'≠W.heap.size) (x y:Value) :
 ((((w'.setCell ⟨W.heap.size,0,none⟩ x).setCell ⟨W.heap.size,1,none⟩ y)).cell? ⟨b,0,none⟩=some u∧(((w'.setCell ⟨W.heap.size,0,none⟩ x).setCell ⟨W.heap.size,1,none⟩ y)).cell? ⟨b,1,none⟩=some v)∧((((w'.setCell ⟨W.heap.size,0,none⟩ x).setCell ⟨W.heap.size,1,none⟩ y)).cell? ⟨b',0,none⟩=some u'∧(((w'.setCell ⟨W.heap.size,0,none⟩ x).setCell ⟨W.heap.size,1,none⟩ y)).cell? ⟨b',1,none⟩=some v')∧Below W.heap.size W ((w'.setCell ⟨W.heap.size,0,none⟩ x).setCell ⟨W.heap.size,1,none⟩ y):=by
 obtain ⟨⟨a1,a2⟩,⟨a3,a4⟩,a5⟩:=h
 have e:∀ (q:Addr),q.block≠W.heap.size→(((w'.setCell ⟨W.heap.size,0,none⟩ x).setCell ⟨W.heap.size,1,none⟩ y)).cell? q=w'.cell? q:=fun q hq=>by
  show ((w'.setCell ⟨W.heap.size,0,none⟩ x).setCell ⟨W.heap.size,1,none⟩ y).cell? q=_
  rw [World.cell?_setCell_other _ _ _ _ (fun e=>hq (by rw [← e])),World.cell?_setCell_other _ _ _ _ (fun e=>hq (by rw [← e]))]
 refine ⟨⟨(e _ hb).trans a1,(e _ hb).trans a2⟩,⟨(e _ hb').trans a3,(e _ hb').trans a4⟩,?_⟩
 exact ((a5.setCell (p:=⟨W.heap.size,0,none⟩) (Nat.le_refl _) x).setCell (p:=⟨W.heap.size,1,none⟩) (Nat.le_refl _) y)
theorem bp38 {n:Int} (hn:1≤n) (hn2:n≤4294967296):(n.natAbs:Int)<Bp 38:=by
 have h1:=Bp_mono (show 4≤38 by omega)
 have h2:=Bp4
 omega
set_option maxRecDepth 100000 in
set_option maxHeartbeats 2000000 in
theorem left_any (i n:Int) (w:World) (h0:-9223372036854775808≤i) (h1:i≤9223372036854775807) (hn:1≤n) (hn2:n≤4294967296) :
 Calls Tryz.prog 129 #[.int .i64 i,.int .i64 n] w fun e w'=>e=.returned (.int .i64 (i%n))∧Below w.heap.size w w':=by
 obtain ⟨e1,e2,e3,e4,e5,e6,e7,e8⟩:=flo_mul h0 h1 hn hn2
 have hn3:=bp38 hn hn2
 have sn:Sm n:=sm_of (by omega) (by omega)
 have si:Sm i:=sm_of (by omega) (by omega)
 have sf:Sm (flo i n):=sm_of (by omega) (by omega)
 have sp:Sm (flo i n*n):=sm_of (by omega) (by omega)
 have hr1:-9223372036854775808≤i-flo i n*n:=by omega
 have hr2:i-flo i n*n≤9223372036854775807:=by omega
 have HE:=Lib.hid e2
 have hn0:n≠0:=by omega
 clear e1 e2 e3 e4 e5 e6 e7 e8
 go_enter Tryz.func129,Tryz.ntmps129
 go_wp2_with fail
 refine (of_any i _ h0 h1).mono ?_
 rintro e w1 ⟨v1,rfl,hN1,hb1⟩
 obtain ⟨s1,A1,n1,c1,rfl⟩:=hN1.shape
 go_wp2_with fail
 refine (of_any n _ (by omega) (by omega)).mono ?_
 rintro e w2 ⟨v2,rfl,hN2,hb2⟩
 obtain ⟨s2,A2,n2,c2,rfl⟩:=hN2.shape
 have hK1:=((Bk.new w1 166 #[.bool s1,.slice A1 n1 c1]).nx hb2).alloc (.cells #[.bool s2,.slice A2 n2 c2] 166)
 have hK2:=Bk.new w2 166 #[.bool s2,.slice A2 n2 c2]
 have hN1a:=((hN1.alloc (.cells #[.bool s1,.slice A1 n1 c1] 166)).nx hb2).alloc (.cells #[.bool s2,.slice A2 n2 c2] 166)
 have hN2a:=hN2.alloc (.cells #[.bool s2,.slice A2 n2 c2] 166)
 have hz1:=hb1.size
 have hz2:=hb2.size
 simp only [World.size_alloc] at hz2
 have hbz:=((hb1.alloc hz1 (.cells #[.bool s1,.slice A1 n1 c1] 166)).trans (hb2.mono (by simp;omega))).alloc (by omega) (.cells #[.bool s2,.slice A2 n2 c2] 166)
 go_upto_region 3 with fail
 clear hN1 hb1 hN2 hb2
 generalize w2.alloc (.cells #[.bool s2,.slice A2 n2 c2] 166)=w3 at *
 obtain ⟨c10,c11⟩:=hK1.cell2
 obtain ⟨c20,c21⟩:=hK2.cell2
 have hl1:=hK1.lt
 have hl2:=hK2.lt
 go_region_held3 (fun w'=>(w'.cell? ⟨w1.heap.size,0,none⟩=some (.bool s1)∧w'.cell? ⟨w1.heap.size,1,none⟩=some (.slice A1 n1 c1))∧(w'.cell? ⟨w2.heap.size,0,none⟩=some (.bool s2)∧w'.cell? ⟨w2.heap.size,1,none⟩=some (.slice A2 n2 c2))∧Below w3.heap.size w3 w')
  (first
    | exact keep22 c10 c11 c20 c21 hl1 hl2 hBs
    | exact keep22 c10 c11 c20 c21 hl1 hl2 hBp
    | exact keep22 c10 c11 c20 c21 hl1 hl2 hBm
    | exact keep22 c10 c11 c20 c21 hl1 hl2 hBf
    | (refine keep22 c10 c11 c20 c21 hl1 hl2 ?_;go_grown))
  (first
    | (go_at_call 194;(with_reducible refine (floor_any _ _ i n _ hN1a.drew hN2a.drew hn0 si hn3).mono ?_);rintro e wf ⟨vf,rfl,hNf,hbf⟩;obtain ⟨qf,Af,nf,cf,rfl⟩:=hNf.shape;have hzf:=hbf.size;have hBf:Below w3.heap.size w3 wf:=Below.trans (by go_grown) hbf)
    | (go_at_call 181;(with_reducible refine (mul_any _ _ (flo i n) n _ hNf (hN2a.nx hBf) sf sn).mono ?_);rintro e wm ⟨vm,rfl,hNm,hbm⟩;obtain ⟨qm,Am,nm,cm,rfl⟩:=hNm.shape;have hzm:=hbm.size;have hBm:Below w3.heap.size w3 wm:=Below.trans hBf (hbm.mono hBf.size))
    | (go_at_call 134;(with_reducible refine (sub_any _ _ i (flo i n*n) _ (hN1a.nx hBm) hNm si sp).mono ?_);rintro e wp ⟨vp,rfl,hNp,hbp⟩;obtain ⟨qp,Ap,np,cp,rfl⟩:=hNp.shape;have hzp:=hbp.size;have hBp:Below w3.heap.size w3 wp:=Below.trans hBm (hbp.mono hBm.size))
    | (go_at_call 133;(with_reducible refine (small_any _ (i-flo i n*n) _ hNp hr1 hr2).mono ?_);rintro e ws ⟨rfl,hbs⟩;have hBs:Below w3.heap.size w3 ws:=Below.trans hBp (hbs.mono hBp.size)))
 all_goals
  go_wp2_with fail
  go_returns
  exact ⟨ret_int HE.out,hbz.trans (hBs.mono (by have:=hbz.size;omega))⟩
set_option maxRecDepth 100000 in
set_option maxHeartbeats 2000000 in
theorem twice_any (i n:Int) (w:World) (h0:-9223372036854775808≤i) (h1:i≤9223372036854775807) (hn:1≤n) (hn2:n≤2147483648) :
 Calls Tryz.prog 130 #[.int .i64 i,.int .i64 n] w fun e w'=>∃ v,e=.returned v∧BigN w.heap.size w' v (i%(2*n))∧Below w.heap.size w w':=by
 obtain ⟨e1,e2,e3,e4,e5,e6,e7,e8⟩:=flo_mul (n:=2*n) h0 h1 (by omega) (by omega)
 have hn3:=bp38 (n:=2*n) (by omega) (by omega)
 have sn1:Sm n:=sm_of (by omega) (by omega)
 have sn:Sm (2*n):=sm_of (by omega) (by omega)
 have si:Sm i:=sm_of (by omega) (by omega)
 have sf:Sm (flo i (2*n)):=sm_of (by omega) (by omega)
 have sp:Sm (flo i (2*n)*(2*n)):=sm_of (by omega) (by omega)
 have HE:=Lib.hid e2
 have hn0:2*n≠0:=by omega
 clear e1 e2 e3 e4 e5 e6 e7 e8
 have hK4:=Bk.new w 166 #[.bool false,.slice none 0 0]
 have hbz0:Below w.heap.size w (w.alloc (.cells #[.bool false,.slice none 0 0] 166)):=by go_grown
 go_enter Tryz.func130,Tryz.ntmps130
 go_wp2_with fail
 refine (of_any i _ h0 h1).mono ?_
 rintro e w1 ⟨v1,rfl,hN1,hb1⟩
 obtain ⟨s1,A1,n1,c1,rfl⟩:=hN1.shape
 have hz1:=hb1.size
 have hbz1:=hbz0.trans (hb1.mono (by simp))
 have hK41:=hK4.nx hb1
 go_wp2_with fail
 refine (of_any n _ (by omega) (by omega)).mono ?_
 rintro e w2 ⟨v2,rfl,hN2,hb2⟩
 obtain ⟨s2,A2,n2,c2,rfl⟩:=hN2.shape
 have hz2:=hb2.size
 simp only [World.size_alloc] at hz1 hz2
 go_wp2_with fail
 refine (of_any n _ (by omega) (by omega)).mono ?_
 rintro e w3 ⟨v3,rfl,hN3,hb3⟩
 obtain ⟨s3,A3,n3,c3,rfl⟩:=hN3.shape
 have hz3:=hb3.size
 go_wp2_with fail
 refine (add_any _ _ n n _ (hN2.nx hb3) hN3 sn1 sn1).mono ?_
 rintro e w4 ⟨v4,rfl,hN4,hb4⟩
 obtain ⟨s4,A4,n4,c4,rfl⟩:=hN4.shape
 have hz4:=hb4.size
 rw [show n+n=2*n by omega] at hN4
 have hb24:=(hb3.mono hz2).trans (hb4.mono (Nat.le_trans hz2 hz3))
 have hb14:Below (w1.heap.size+1) (w1.alloc (.cells #[.bool s1,.slice A1 n1 c1] 166)) w4:=by
  simp only [World.size_alloc] at hb2
  exact hb2.trans hb24
 have hK5:=((Bk.new w1 166 #[.bool s1,.slice A1 n1 c1]).below hb14 (by omega)).alloc (.cells #[.bool s4,.slice A4 n4 c4] 166)
 have hK6:=Bk.new w4 166 #[.bool s4,.slice A4 n4 c4]
 have hK42:=((hK41.alloc (.cells #[.bool s1,.slice A1 n1 c1] 166)).below hb14 (by omega)).alloc (.cells #[.bool s4,.slice A4 n4 c4] 166)
 have hN1a:=((hN1.alloc (.cells #[.bool s1,.slice A1 n1 c1] 166)).keep hb14 (by simp)).alloc (.cells #[.bool s4,.slice A4 n4 c4] 166)
 have hN4a:=hN4.alloc (.cells #[.bool s4,.slice A4 n4 c4] 166)
 have hbz:=((hbz1.alloc (by omega) (.cells #[.bool s1,.slice A1 n1 c1] 166)).trans (hb14.mono (by omega))).alloc (by omega) (.cells #[.bool s4,.slice A4 n4 c4] 166)
 go_upto_region 3 with fail
 clear hN1 hb1 hN2 hb2 hN3 hb3 hN4 hb4 hb24 hb14 hK4 hK41 hbz0 hbz1
 generalize w4.alloc (.cells #[.bool s4,.slice A4 n4 c4] 166)=w5 at *
 obtain ⟨c10,c11⟩:=hK5.cell2
 obtain ⟨c20,c21⟩:=hK6.cell2
 have hl1:=hK5.lt
 have hl2:=hK6.lt
 have hl4:=hK42.lt
 have hne1:w1.heap.size≠w.heap.size:=by omega
 have hne2:w4.heap.size≠w.heap.size:=by omega
 go_region_held3 (fun w'=>(w'.cell? ⟨w1.heap.size,0,none⟩=some (.bool s1)∧w'.cell? ⟨w1.heap.size,1,none⟩=some (.slice A1 n1 c1))∧(w'.cell? ⟨w4.heap.size,0,none⟩=some (.bool s4)∧w'.cell? ⟨w4.heap.size,1,none⟩=some (.slice A4 n4 c4))∧Below (w.heap.size) w w')
  (first
    | exact keep22' c10 c11 c20 c21 hl1 hl2 hBp (hbz.trans (hBp.mono (by omega)))
    | exact keep22' c10 c11 c20 c21 hl1 hl2 hBm (hbz.trans (hBm.mono (by omega)))
    | exact keep22' c10 c11 c20 c21 hl1 hl2 hBf (hbz.trans (hBf.mono (by omega)))
    | exact keep22' c10 c11 c20 c21 hl1 hl2 ((Below.refl _ w5).drew) (hbz.drew)
    | exact keep22s (keep22' c10 c11 c20 c21 hl1 hl2 hBp (hbz.trans (hBp.mono (by omega)))) hne1 hne2 _ _)
  (first
    | (go_at_call 194;(with_reducible refine (floor_any _ _ i (2*n) _ hN1a.drew hN4a.drew hn0 si hn3).mono ?_);rintro e wf ⟨vf,rfl,hNf,hbf⟩;obtain ⟨qf,Af,nf,cf,rfl⟩:=hNf.shape;have hzf:=hbf.size;have hBf:Below w5.heap.size w5 wf:=Below.trans (by go_grown) hbf)
    | (go_at_call 181;(with_reducible refine (mul_any _ _ (flo i (2*n)) (2*n) _ hNf (hN4a.nx hBf) sf sn).mono ?_);rintro e wm ⟨vm,rfl,hNm,hbm⟩;obtain ⟨qm,Am,nm,cm,rfl⟩:=hNm.shape;have hzm:=hbm.size;have hBm:Below w5.heap.size w5 wm:=Below.trans hBf (hbm.mono hBf.size))
    | (go_at_call 134;(with_reducible refine (sub_any _ _ i (flo i (2*n)*(2*n)) _ (hN1a.nx hBm) hNm si sp).mono ?_);rintro e wp ⟨vp,rfl,hNp,hbp⟩;obtain ⟨qp,Ap,np,cp,rfl⟩:=hNp.shape;have hzp:=hbp.size;have hBp:Below w5.heap.size w5 wp:=Below.trans hBm (hbp.mono hBm.size);have hK4p:=hK42.below hBp hl4;obtain ⟨k0,k1⟩:=hK4p.cell2;have f0:=hK4p.frozen 0;have f1:=hK4p.frozen 1))
 all_goals
  go_wp2_with fail
  rename_i hHeld
  have hz5:w.heap.size<wm.heap.size:=by have:=hBm.size;omega
  refine bodyPost_ret (res_big rfl (hK4p.set2 _ _) rfl) rfl ?_
  refine ⟨_,rfl,?_,hHeld.2.2⟩
  rw [← HE.out]
  exact (hNp.grown (gb2 wp _ _ _) (.inl (by omega))).less (by omega)
def idx (m i n:Int):Int × Bool :=
 if m<0∨3<m∨n<1 then (0,false) else if 0≤i∧i<n then (i,true) else if m=0 then (0,false) else if m=1 then (if i<0 then 0 else n-1,true)
 else if m=2 then (i%n,true) else if i%(2*n)<n then (i%(2*n),true) else (n-1-(i%(2*n)-n),true)
theorem idx_bd {m i n:Int} (h:(idx m i n).2=true):0≤(idx m i n).1∧(idx m i n).1<n:=by
 unfold idx at *
 split at h
 ·cases h
 ·rename_i h1
  rw [if_neg h1]
  split at h
  ·rename_i h2
   rw [if_pos h2];exact h2
  ·rename_i h2
   rw [if_neg h2]
   split at h
   ·cases h
   ·rename_i h3
    have a1:=Int.emod_nonneg i (show n≠0 by omega)
    have a2:=Int.emod_lt_of_pos i (show 0<n by omega)
    have a3:=Int.emod_nonneg i (show 2*n≠0 by omega)
    have a4:=Int.emod_lt_of_pos i (show 0<2*n by omega)
    rw [if_neg h3]
    repeat' split
    all_goals (dsimp only;omega)
abbrev ixV (p:Int × Bool):Value:=.tuple #[.int .i64 p.1,.bool p.2]
set_option maxRecDepth 100000 in
set_option maxHeartbeats 4000000 in
theorem rindex_any (m i n:Int) (w:World) (h0:-9223372036854775808≤i) (h1:i≤9223372036854775807) (hn2:n≤2147483648) :
 Calls Tryz.prog 70 #[.int .i64 m,.int .i64 i,.int .i64 n] w fun e w'=>e=.returned (ixV (idx m i n))∧Below w.heap.size w w':=by
 by_cases c1:m<0∨3<m∨n<1
 ·have HX:=Lib.hid (show idx m i n=(0,false) by unfold idx;rw [if_pos c1])
  rcases c1 with c|c|c
  all_goals
   go_enter Tryz.func70,Tryz.ntmps70
   go_wp2
   all_goals
    go_returns
    exact ⟨by rw [HX.out];rfl,by go_grown⟩
 ·obtain ⟨hm0,hm3,hn1⟩:0≤m∧m≤3∧1≤n:=by omega
  by_cases c2:0≤i∧i<n
  ·have HX:=Lib.hid (show idx m i n=(i,true) by unfold idx;rw [if_neg c1,if_pos c2])
   obtain ⟨c3,c4⟩:=c2
   clear c1
   go_enter Tryz.func70,Tryz.ntmps70
   go_wp2
   go_returns
   exact ⟨by rw [HX.out];rfl,by go_grown⟩
  ·have hcases:m=0∨m=1∨m=2∨m=3:=by omega
   rcases hcases with rfl|rfl|rfl|rfl
   ·have HX:=Lib.hid (show idx 0 i n=(0,false) by unfold idx;rw [if_neg c1,if_neg c2,if_pos rfl])
    clear c1
    rcases (show i<0∨n≤i by omega) with c|c
    all_goals
     go_enter Tryz.func70,Tryz.ntmps70
     go_wp2
     all_goals
      go_returns
      exact ⟨by rw [HX.out];rfl,by go_grown⟩
   ·rcases (show i<0∨n≤i by omega) with c|c
    ·have HX:=Lib.hid (show idx 1 i n=(0,true) by unfold idx;rw [if_neg c1,if_neg c2,if_neg (by omega),if_pos rfl,if_pos c])
     clear c1 c2
     go_enter Tryz.func70,Tryz.ntmps70
     go_wp2
     all_goals
      go_returns
      exact ⟨by rw [HX.out];rfl,by go_grown⟩
    ·have HX:=Lib.hid (show idx 1 i n=(n-1,true) by unfold idx;rw [if_neg c1,if_neg c2,if_neg (by omega),if_pos rfl,if_neg (by omega)])
     clear c1 c2
     go_enter Tryz.func70,Tryz.ntmps70
     go_wp2
     all_goals
      go_returns
      exact ⟨by rw [HX.out];rfl,by go_grown⟩
   ·have HX:=Lib.hid (show idx 2 i n=(i%n,true) by unfold idx;rw [if_neg c1,if_neg c2,if_neg (by omega),if_neg (by omega),if_pos rfl])
    rcases (show i<0∨n≤i by omega) with c|c
    all_goals
     clear c1 c2
     go_enter Tryz.func70,Tryz.ntmps70
     go_wp2_with (go_at_call 129;(with_reducible refine (left_any _ _ _ h0 h1 hn1 (by omega)).mono ?_);rintro e w1 ⟨rfl,hb1⟩)
     all_goals
      go_returns
      exact ⟨by rw [HX.out];rfl,hb1⟩
   ·have a3:=Int.emod_nonneg i (show 2*n≠0 by omega)
    have a4:=Int.emod_lt_of_pos i (show 0<2*n by omega)
    have HX:=Lib.hid (show idx 3 i n=if i%(2*n)<n then (i%(2*n),true) else (n-1-(i%(2*n)-n),true) by unfold idx;rw [if_neg c1,if_neg c2,if_neg (by omega),if_neg (by omega),if_neg (by omega)])
    generalize hT:i%(2*n)=T at *
    have HT:=Lib.hid hT
    clear hT
    have sT:Sm T:=sm_of (by omega) (by omega)
    have sn:Sm n:=sm_of (by omega) (by omega)
    rcases (show i<0∨n≤i by omega) with c|c
    all_goals
     clear c1 c2
     go_enter Tryz.func70,Tryz.ntmps70
     go_wp2_with fail
     refine (twice_any i n _ h0 h1 hn1 (by omega)).mono ?_
     rintro e w1 ⟨v1,rfl,hN1,hb1⟩
     rw [HT.out] at hN1
     obtain ⟨s1,A1,n1,c1,rfl⟩:=hN1.shape
     have hz1:=hb1.size
     have hK:=Bk.new w1 166 #[.bool s1,.slice A1 n1 c1]
     have hNa:=hN1.alloc (.cells #[.bool s1,.slice A1 n1 c1] 166)
     have hba:=hb1.alloc hz1 (.cells #[.bool s1,.slice A1 n1 c1] 166)
     go_upto_region 14 with fail
     clear hN1 hb1
     generalize w1.alloc (.cells #[.bool s1,.slice A1 n1 c1] 166)=w2 at *
     generalize w1.heap.size=g at *
     obtain ⟨d0,d1⟩:=hK.cell2
     have hl:=hK.lt
     have hcN:cmpI T n<0 ↔ T<n:=by unfold cmpI;split <;> (try split) <;> omega
     have hzz:=hba.size
     go_region_held3 (fun w'=>w'.cell? ⟨g,0,none⟩=some (.bool s1)∧w'.cell? ⟨g,1,none⟩=some (.slice A1 n1 c1)∧Below w2.heap.size w2 w')
      (first
        | exact keepDx d0 d1 hl hBb
        | exact keepDx d0 d1 hl hBa
        | (refine keepDx d0 d1 hl ?_;go_grown))
      (first
        | (go_at_call 132;(with_reducible refine (of_any n _ (by omega) (by omega)).mono ?_);rintro e wa ⟨va,rfl,hNa',hba'⟩;obtain ⟨qa,Aa,na,ca,rfl⟩:=hNa'.shape;have hBa:Below w2.heap.size w2 wa:=Below.trans (by go_grown) hba')
        | (go_at_call 131;(with_reducible refine (cmp_any _ _ T n _ (hNa.nx hBa) hNa' sT sn).mono ?_);rintro e wb ⟨rfl,hbb'⟩;have hBb:Below w2.heap.size w2 wb:=Below.trans hBa (hbb'.mono hBa.size)))
     all_goals
      rename_i hHeld
      clear hHeld
      have hKb:=hK.below hBb hl
      have hNb:=hNa.nx hBb
      have hzb:=hBb.size
      have hbz:=hba.trans (hBb.mono hzz)
      obtain ⟨k0,k1⟩:=hKb.cell2
      have hlb:=hKb.lt
      by_cases hT:T<n
      ·have hc:decide (cmpI T n<0)=true:=decide_eq_true (hcN.2 hT)
       go_wp2_with (first
        | (refine ldBig rfl _ rfl hKb rfl ?_)
        | (go_at_call 133;(with_reducible refine (small_any _ T _ hNb (by omega) (by omega)).mono ?_);rintro e ws ⟨rfl,hbs⟩))
       go_returns
       exact ⟨by rw [HX.out,if_pos hT];rfl,hbz.trans (hbs.mono (by omega))⟩
      ·have hc:decide (cmpI T n<0)=false:=decide_eq_false (fun h=>hT (hcN.1 h))
       have wn:wrap64 (n-1)=n-1:=IntWalk.wrap64_in _ ⟨by omega,by omega⟩
       have wn2:IntKind.i64.wrap (n-1)=n-1:=IntWalk.i64_in _ (by omega)
       have wr:wrap64 (n-1-(T-n))=n-1-(T-n):=IntWalk.wrap64_in _ ⟨by omega,by omega⟩
       have wr2:IntKind.i64.wrap (n-1-(T-n))=n-1-(T-n):=IntWalk.i64_in _ (by omega)
       go_upto_region 16 with fail
       go_region_held3 (fun w'=>w'.cell? ⟨g,0,none⟩=some (.bool s1)∧w'.cell? ⟨g,1,none⟩=some (.slice A1 n1 c1)∧Below wb.heap.size wb w')
        (first
          | exact keepDx k0 k1 hlb hBe
          | exact keepDx k0 k1 hlb hBd
          | exact keepDx k0 k1 hlb hBc
          | (refine keepDx k0 k1 hlb ?_;go_grown))
        (first
          | (go_at_call 132;(with_reducible refine (of_any n _ (by omega) (by omega)).mono ?_);rintro e wc ⟨vc,rfl,hNc,hbc⟩;obtain ⟨qc,Ac,nc,cc,rfl⟩:=hNc.shape;have hBc:Below wb.heap.size wb wc:=Below.trans (by go_grown) hbc)
          | (go_at_call 134;(with_reducible refine (sub_any _ _ T n _ (hNb.nx hBc) hNc sT sn).mono ?_);rintro e wd ⟨vd',rfl,hNd,hbd⟩;obtain ⟨qd,Ad,nd,cd,rfl⟩:=hNd.shape;have hBd:Below wb.heap.size wb wd:=Below.trans hBc (hbd.mono hBc.size))
          | (go_at_call 133;(with_reducible refine (small_any _ (T-n) _ hNd (by omega) (by omega)).mono ?_);rintro e we ⟨rfl,hbe⟩;have hBe:Below wb.heap.size wb we:=Below.trans hBd (hbe.mono hBd.size)))
       all_goals
        go_wp2_with fail
        go_returns
        exact ⟨by rw [HX.out,if_neg (show ¬T<n by omega)];first | rfl|(rw [wr];rfl)|(rw [wr2];rfl),hbz.trans (hBe.mono (by omega))⟩
end Go.Proofs.YtjbelhpgbcnlmaaGreat
end
section
set_option linter.unusedVariables false
namespace Go.Proofs.YtjbelhpgbcnlmaaGreat
open Go.RowKit
theorem fdiv_eqI (a b:Int) (hb:1≤b) (h:a.tmod b≠0) (ha:a<0):a/b=a.tdiv b-1:=by
 have h1:=Int.tdiv_eq_ediv (a:=a) (b:=b)
 have h2:=Int.tmod_eq_emod (a:=a) (b:=b)
 have h3:=Int.emod_nonneg a (show b≠0 by omega)
 have h4:=Int.emod_lt_of_pos a (show 0<b by omega)
 have h5:b.sign=1:=Int.sign_eq_one_of_pos (by omega)
 rw [h5] at h1
 by_cases hd:b ∣ a
 ·exact absurd (Int.tmod_eq_zero_of_dvd hd) h
 ·rw [if_neg (by omega)] at h1;omega
theorem fdiv_eq0I (a b:Int) (hb:1≤b) (h:a.tmod b=0):a/b=a.tdiv b:=by
 have h1:=Int.tdiv_eq_ediv (a:=a) (b:=b)
 rw [if_pos (.inr (Int.dvd_of_tmod_eq_zero h))] at h1;omega
theorem ediv_neg_bdI (a b:Int) (hb:1≤b) (h:a<0):a≤a/b∧a/b≤0:=by
 have h1:=Int.mul_ediv_add_emod a b
 have h2:=Int.emod_nonneg a (show b≠0 by omega)
 have h3:=Int.emod_lt_of_pos a (show 0<b by omega)
 constructor
 ·rcases Int.lt_or_le (a/b) a with h4|h4
  ·exfalso
   have h5:b*(a/b+1)≤1*(a/b+1):=Int.mul_le_mul_of_nonpos_right hb (by omega)
   rw [Int.mul_add] at h5
   omega
  ·exact h4
 ·rcases Int.lt_or_le 0 (a/b) with h4|h4
  ·exfalso
   have:0≤b*(a/b):=Int.mul_nonneg (by omega) (by omega)
   omega
  ·exact h4
theorem tmod_pos {a b:Int} (hb:1≤b) (h:a.tmod b≠0) (ha:a<0):a%b=a.tmod b+b:=by
 have h1:=fdiv_eqI a b hb h ha
 have h2:=Int.mul_ediv_add_emod a b
 have h3:=Int.mul_tdiv_add_tmod a b
 rw [h1,Int.mul_sub,Int.mul_one] at h2
 omega
theorem tmod_zero {a b:Int} (hb:1≤b) (h:a.tmod b=0):a%b=0:=Int.emod_eq_zero_of_dvd (Int.dvd_of_tmod_eq_zero h)
set_option maxHeartbeats 400000 in
theorem qmod_any (a b:Int) (w:World) (hb:1≤b) (hb2:b≤9223372036854775807) (ha:-9223372036854775808≤a∧a≤9223372036854775807) :
 Calls Tryz.prog 336 #[.int .i64 a,.int .i64 b] w fun e w'=>e=.returned (.tuple #[.int .i64 (a%b),.bool true])∧w=w':=by
 have hbn:decide (b<0)=false:=by simp;omega
 have hb0:decide (b=0)=false:=by simp;omega
 have hb1:(b==0)=false:=by simp;omega
 by_cases h0:a.tmod b=0
 ·have HX:=Lib.hid (tmod_zero hb h0)
  have h0':(a.tmod b != 0)=false:=by simpa using h0
  go_enter Tryz.func336,Tryz.ntmps336
  go_wp2
  all_goals
   go_returns
   exact ⟨by rw [HX.out];first | rfl|(rw [h0];rfl),rfl⟩
 ·have h0':(a.tmod b != 0)=true:=by simpa using h0
  by_cases h1:a<0
  ·have HX:=Lib.hid (tmod_pos hb h0 h1)
   have h3:=Int.emod_nonneg a (show b≠0 by omega)
   have h4:=Int.emod_lt_of_pos a (show 0<b by omega)
   have h5:a.tmod b<0:=by
    have:=tmod_pos hb h0 h1
    omega
   have h6:wrap64 (a.tmod b+b)=a.tmod b+b:=by
    have:=tmod_pos hb h0 h1
    exact IntWalk.wrap64_in _ ⟨by omega,by omega⟩
   clear h3 h4
   go_enter Tryz.func336,Tryz.ntmps336
   go_wp2
   all_goals
    go_returns
    exact ⟨by rw [HX.out];first | rfl|(rw [h6];rfl),rfl⟩
  ·have HX:=Lib.hid (Int.tmod_eq_emod_of_nonneg (b:=b) (show 0≤a by omega))
   have h5:0≤a.tmod b:=Int.tmod_nonneg b (by omega)
   have h7:0≤a%b:=Int.emod_nonneg a (by omega)
   go_enter Tryz.func336,Tryz.ntmps336
   go_wp2
   all_goals
    go_returns
    exact ⟨by first | rfl|(rw [← HX.out];rfl),rfl⟩
set_option maxHeartbeats 400000 in
theorem qfloor_anyI (a b:Int) (w:World) (hb:1≤b) (hb2:b≤9223372036854775807) (ha:-9223372036854775808<a∧a≤9223372036854775807) :
 Calls Tryz.prog 253 #[.int .i64 a,.int .i64 b] w fun e w'=>e=.returned (.tuple #[.int .i64 (a/b),.bool true])∧w=w':=by
 have hbn:decide (b<0)=false:=by simp;omega
 have hb0:decide (b=0)=false:=by simp;omega
 have hb1:(b==0)=false:=by simp;omega
 have hmn:(a==-9223372036854775808)=false:=by simp;omega
 have hb3:(b==-1)=false:=by simp;omega
 by_cases h1:a<0
 ·have hq:=ediv_neg_bdI a b hb h1
  have hq2:-9223372036854775808≤a/b:=by omega
  by_cases h0:a.tmod b=0
  ·have HE:=Lib.hid (fdiv_eq0I a b hb h0)
   have h0':(a.tmod b != 0)=false:=by simpa using h0
   go_enter Tryz.func253,Tryz.ntmps253
   go_wp2
   all_goals
    go_returns
    exact ⟨by rw [HE.out];rfl,rfl⟩
  ·have e:=fdiv_eqI a b hb h0 h1
   have HE:=Lib.hid e;rw [e] at hq hq2;clear e
   have h0':(a.tmod b != 0)=true:=by simpa using h0
   have hw:wrap64 (a.tdiv b-1)=a.tdiv b-1:=IntWalk.wrap64_in _ ⟨by omega,by omega⟩
   go_enter Tryz.func253,Tryz.ntmps253
   go_wp2
   all_goals
    go_returns
    exact ⟨by rw [HE.out];rfl,rfl⟩
 ·have HX:=Lib.hid (Int.tdiv_eq_ediv_of_nonneg (b:=b) (show 0≤a by omega))
  go_enter Tryz.func253,Tryz.ntmps253
  go_wp2
  all_goals
   go_returns
   exact ⟨by first | rfl|(rw [← HX.out];rfl),rfl⟩
theorem again_eq {i n:Int} (hn:1≤n):(if (i/n)%2=0 then i%n else n-1-i%n)=(if i%(2*n)<n then i%(2*n) else n-1-(i%(2*n)-n)):=by
 have h1:=Int.mul_ediv_add_emod i n
 have h2:=Int.emod_nonneg i (show n≠0 by omega)
 have h3:=Int.emod_lt_of_pos i (show 0<n by omega)
 have h4:=Int.mul_ediv_add_emod (i/n) 2
 generalize hq:i/n=q at *
 generalize hr:i%n=r at *
 have h5:q%2=0∨q%2=1:=by omega
 generalize hk:q/2=k at *
 rcases h5 with h5|h5
 ·have e:i%(2*n)=r:=by
   have:i=r+(2*n)*k:=by rw [← h1,show q=2*k by omega,Int.mul_comm 2 n,Int.mul_assoc];omega
   rw [this,Int.add_mul_emod_self_left]
   exact Int.emod_eq_of_lt h2 (by omega)
  rw [if_pos h5,e,if_pos h3]
 ·have e:i%(2*n)=n+r:=by
   have:i=(n+r)+(2*n)*k:=by rw [← h1,show q=2*k+1 by omega,Int.mul_add,← Int.mul_assoc,Int.mul_comm n 2];omega
   rw [this,Int.add_mul_emod_self_left]
   exact Int.emod_eq_of_lt (by omega) (by omega)
  rw [if_neg (by omega),e,if_neg (by omega)]
  omega
def lastV (n i:Int):Int:=if i<0 then 0 else n-1
def backV (n i:Int):Int:=if (i/n)%2=0 then i%n else n-1-i%n
abbrev row1 (n:Int):Value:=.agg #[.int .i64 n]
set_option maxHeartbeats 1000000 in
theorem rowlast_any (n i:Int) (w:World) (hn:1≤n) (hn2:n≤2147483648) :
 Calls Tryz.prog 302 #[row1 n,.int .i64 i] w fun e w'=>e=.returned (.tuple #[.int .i64 (lastV n i),.bool true])∧Below w.heap.size w w':=by
 have w1:wrap64 (n-1)=n-1:=IntWalk.wrap64_in _ ⟨by omega,by omega⟩
 by_cases h:i<0
 ·have HL:=Lib.hid (show lastV n i=0 by unfold lastV;rw [if_pos h])
  go_enter Tryz.func302,Tryz.ntmps302
  go_wp2
  all_goals
   go_returns
   exact ⟨by rw [HL.out];rfl,by go_grown⟩
 ·have HL:=Lib.hid (show lastV n i=n-1 by unfold lastV;rw [if_neg h])
  go_enter Tryz.func302,Tryz.ntmps302
  go_wp2
  all_goals
   go_returns
   exact ⟨by rw [HL.out];first | rfl|(rw [w1];rfl),by go_grown⟩
set_option maxHeartbeats 1000000 in
theorem rowagain_any (n i:Int) (w:World) (hn:1≤n) (hn2:n≤2147483648) (hi:-9223372036854775808≤i∧i≤9223372036854775807) :
 Calls Tryz.prog 303 #[row1 n,.int .i64 i] w fun e w'=>e=.returned (.tuple #[.int .i64 (i%n),.bool true])∧Below w.heap.size w w':=by
 go_enter Tryz.func303,Tryz.ntmps303
 go_wp2_with (go_at_call 336;(with_reducible refine (qmod_any _ _ _ hn (by omega) hi).mono ?_);rintro e w' ⟨rfl,rfl⟩)
 go_returns
 exact ⟨rfl,by go_grown⟩
set_option maxHeartbeats 1000000 in
theorem rowback_any (n i:Int) (w:World) (hn:1≤n) (hn2:n≤2147483648) (hi:-9223372036854775808<i∧i≤9223372036854775807) :
 Calls Tryz.prog 304 #[row1 n,.int .i64 i] w fun e w'=>e=.returned (.tuple #[.int .i64 (backV n i),.bool true])∧Below w.heap.size w w':=by
 have h2:=Int.emod_nonneg i (show n≠0 by omega)
 have h3:=Int.emod_lt_of_pos i (show 0<n by omega)
 have hi':-9223372036854775808≤i∧i≤9223372036854775807:=by omega
 have w1:wrap64 (n-1)=n-1:=IntWalk.wrap64_in _ ⟨by omega,by omega⟩
 have w2:wrap64 (n-1-i%n)=n-1-i%n:=IntWalk.wrap64_in _ ⟨by omega,by omega⟩
 have ht:(i/n).tmod 2=0 ↔ (i/n)%2=0:=by
  constructor
  ·intro h;exact Int.emod_eq_zero_of_dvd (Int.dvd_of_tmod_eq_zero h)
  ·intro h;exact Int.tmod_eq_zero_of_dvd (Int.dvd_of_emod_eq_zero h)
 by_cases hp:(i/n)%2=0
 ·have hp2:((i/n).tmod 2 != 0)=false:=by simpa using ht.2 hp
  have HP:=Lib.hid (show backV n i=_ from by unfold backV;first | rw [if_pos hp]|rw [if_neg hp])
  clear ht hp
  go_enter Tryz.func304,Tryz.ntmps304
  go_wp2_with (first
   | (go_at_call 253;(with_reducible refine (qfloor_anyI _ _ _ hn (by omega) hi).mono ?_);rintro e w' ⟨rfl,rfl⟩)
   | (go_at_call 336;(with_reducible refine (qmod_any _ _ _ hn (by omega) hi').mono ?_);rintro e w' ⟨rfl,rfl⟩))
  all_goals
   go_returns
   exact ⟨by rw [HP.out];rfl,by go_grown⟩
 ·have hp2:((i/n).tmod 2 != 0)=true:=by simpa using (fun h=>hp (ht.1 h))
  have HP:=Lib.hid (show backV n i=_ from by unfold backV;first | rw [if_pos hp]|rw [if_neg hp])
  clear ht hp
  go_enter Tryz.func304,Tryz.ntmps304
  go_wp2_with (first
   | (go_at_call 253;(with_reducible refine (qfloor_anyI _ _ _ hn (by omega) hi).mono ?_);rintro e w' ⟨rfl,rfl⟩)
   | (go_at_call 336;(with_reducible refine (qmod_any _ _ _ hn (by omega) hi').mono ?_);rintro e w' ⟨rfl,rfl⟩))
  all_goals
   go_returns
   exact ⟨by rw [HP.out];first | rfl|(rw [w2];rfl),by go_grown⟩
end Go.Proofs.YtjbelhpgbcnlmaaGreat
end
section
set_option linter.unusedVariables false
namespace Go.Proofs.YtjbelhpgbcnlmaaGreat
open Go.RowKit
theorem run_index1 {P:Program} {t e:TypeId} {n:Nat} {d:TypeDesc} (h:P.underlying t=some (.array n e)) (hd:P.underlying e=some d) (hn:(match d with|.struct _|.array _ _=>true|_=>false)=false) (hs:(P.info? e).map (·.size)=some 1)
 (cs:Array Value) (k:IntKind) (j:Nat) (hj:j<n) (v:Value) (hv:cs[j]?=some v) (w:World):(Instr.index t (.agg cs) (.int k j)).run P w=.ok v w:=by
 obtain ⟨i,hi,hz⟩:∃ i,P.info? e=some i∧i.size=1:=by
  cases hi:P.info? e with
  | none=>rw [hi] at hs;cases hs
  | some i=>rw [hi] at hs;exact ⟨i,rfl,by simpa using hs⟩
 have hagg:(isAgg e).run P w=.ok false w:=by
  unfold isAgg
  rw [Sem.run_bind,run_underlying hd w]
  cases d <;> simp_all
 have hj':(0:Int)≤(j:Int)∧(j:Int)<n:=by omega
 simp [Instr.index,asIntOf,run_underlying h,hj',sizeOf,typeInfo,hi,hz,part,Sem.run_bind,hagg,hv]
 intro h;omega
theorem fn_size:(Tryz.prog.info? 327).map (·.size)=some 1:=by kernel_rfl
@[go_sem] theorem idx_w0 (a b c d:Value) (w:World):(Instr.index 328 (.agg #[a,b,c,d]) (.int .i64 0)).run Tryz.prog w=.ok a w :=
  run_index1 (P:=Tryz.prog) (j:=0) Tryz.underlying328 Tryz.underlying327 rfl fn_size _ _ (by decide) _ rfl w
@[go_sem] theorem idx_w1 (a b c d:Value) (w:World):(Instr.index 328 (.agg #[a,b,c,d]) (.int .i64 1)).run Tryz.prog w=.ok b w :=
  run_index1 (P:=Tryz.prog) (j:=1) Tryz.underlying328 Tryz.underlying327 rfl fn_size _ _ (by decide) _ rfl w
@[go_sem] theorem idx_w2 (a b c d:Value) (w:World):(Instr.index 328 (.agg #[a,b,c,d]) (.int .i64 2)).run Tryz.prog w=.ok c w :=
  run_index1 (P:=Tryz.prog) (j:=2) Tryz.underlying328 Tryz.underlying327 rfl fn_size _ _ (by decide) _ rfl w
@[go_sem] theorem idx_w3 (a b c d:Value) (w:World):(Instr.index 328 (.agg #[a,b,c,d]) (.int .i64 3)).run Tryz.prog w=.ok d w :=
  run_index1 (P:=Tryz.prog) (j:=3) Tryz.underlying328 Tryz.underlying327 rfl fn_size _ _ (by decide) _ rfl w
set_option maxHeartbeats 1000000 in
theorem rownone_any (n i:Int) (w:World) :
 Calls Tryz.prog 301 #[row1 n,.int .i64 i] w fun e w'=>e=.returned (.tuple #[.int .i64 0,.bool false])∧Below w.heap.size w w':=by
 go_enter Tryz.func301,Tryz.ntmps301
 go_wp2
 go_returns
 exact ⟨rfl,by go_grown⟩
abbrev waysV:Value:=.agg #[.func (.func 301) #[] #[],.func (.func 302) #[] #[],.func (.func 303) #[] #[],.func (.func 304) #[] #[]]
theorem ways_size:(Tryz.prog.info? 328).map (·.size)=some 4:=by kernel_rfl
set_option maxHeartbeats 1000000 in
theorem ways_any (w:World) :
 Calls Tryz.prog 255 #[] w fun e w'=>e=.returned waysV∧Below w.heap.size w w':=by
 go_enter Tryz.func255,Tryz.ntmps255
 have hK:=Bk.new w 328 #[.nilFunc,.nilFunc,.nilFunc,.nilFunc]
 go_wp2_with (refine stB rfl _ _ _ rfl hK #[.func (.func 301) #[] #[],.func (.func 302) #[] #[],.func (.func 303) #[] #[],.func (.func 304) #[] #[]] rfl rfl ways_size rfl (by simp [Value.oneCell']) ?_;intro w6 hK6 hg6 _)
 refine bodyPost_ret (res_cell rfl hK6 rfl Tryz.underlying328 rfl ways_size) rfl ?_
 exact ⟨rfl,below_of_gb (by go_grown) hg6 (Nat.le_refl _) (by simp)⟩
set_option maxRecDepth 100000 in
set_option maxHeartbeats 4000000 in
theorem index_any (m i n:Int) (w:World) (h0:-9223372036854775808<i) (h1:i≤9223372036854775807) (hn2:n≤2147483648) :
 Calls Tryz.prog 178 #[.int .i64 m,.int .i64 i,.int .i64 n] w fun e w'=>e=.returned (ixV (idx m i n))∧Below w.heap.size w w':=by
 by_cases c1:m<0∨3<m∨n<1
 ·have HX:=Lib.hid (show idx m i n=(0,false) by unfold idx;rw [if_pos c1])
  rcases c1 with c|c|c
  all_goals
   go_enter Tryz.func178,Tryz.ntmps178
   go_wp2
   all_goals
    go_returns
    exact ⟨by rw [HX.out];rfl,by go_grown⟩
 ·obtain ⟨hm0,hm3,hn1⟩:0≤m∧m≤3∧1≤n:=by omega
  by_cases c2:0≤i∧i<n
  ·have HX:=Lib.hid (show idx m i n=(i,true) by unfold idx;rw [if_neg c1,if_pos c2])
   obtain ⟨c3,c4⟩:=c2
   clear c1
   go_enter Tryz.func178,Tryz.ntmps178
   go_wp2
   go_returns
   exact ⟨by rw [HX.out];rfl,by go_grown⟩
  ·have hcases:m=0∨m=1∨m=2∨m=3:=by omega
   rcases hcases with rfl|rfl|rfl|rfl
   ·have HX:=Lib.hid (show idx 0 i n=(0,false) by unfold idx;rw [if_neg c1,if_neg c2,if_pos rfl])
    clear c1
    rcases (show i<0∨n≤i by omega) with c|c
    all_goals
     go_enter Tryz.func178,Tryz.ntmps178
     go_wp2_with (first
      | (go_at_call 255;(with_reducible refine (ways_any _).mono ?_);rintro e w1 ⟨rfl,hb1⟩)
      | (go_at_call 301;(with_reducible refine (rownone_any _ _ _).mono ?_);rintro e w2 ⟨rfl,hb2⟩))
     all_goals
      go_returns
      exact ⟨by rw [HX.out];rfl,hb1.trans (hb2.mono hb1.size)⟩
   ·have HX:=Lib.hid (show idx 1 i n=(lastV n i,true) by
     unfold idx;rw [if_neg c1,if_neg c2,if_neg (by omega)]
     rw [if_pos rfl];rfl)
    clear c1
    rcases (show i<0∨n≤i by omega) with c|c
    all_goals
     go_enter Tryz.func178,Tryz.ntmps178
     go_wp2_with (first
      | (go_at_call 255;(with_reducible refine (ways_any _).mono ?_);rintro e w1 ⟨rfl,hb1⟩)
      | (go_at_call 302;(with_reducible refine (rowlast_any _ _ _ hn1 hn2).mono ?_);rintro e w2 ⟨rfl,hb2⟩))
     all_goals
      go_returns
      exact ⟨by rw [HX.out];rfl,hb1.trans (hb2.mono hb1.size)⟩
   ·have HX:=Lib.hid (show idx 2 i n=(i%n,true) by
     unfold idx;rw [if_neg c1,if_neg c2,if_neg (by omega)]
     rw [if_neg (by omega),if_pos rfl])
    clear c1
    rcases (show i<0∨n≤i by omega) with c|c
    all_goals
     go_enter Tryz.func178,Tryz.ntmps178
     go_wp2_with (first
      | (go_at_call 255;(with_reducible refine (ways_any _).mono ?_);rintro e w1 ⟨rfl,hb1⟩)
      | (go_at_call 303;(with_reducible refine (rowagain_any _ _ _ hn1 hn2 (by omega)).mono ?_);rintro e w2 ⟨rfl,hb2⟩))
     all_goals
      go_returns
      exact ⟨by rw [HX.out];rfl,hb1.trans (hb2.mono hb1.size)⟩
   ·have HX:=Lib.hid (show idx 3 i n=(backV n i,true) by
     unfold idx;rw [if_neg c1,if_neg c2,if_neg (by omega)]
     rw [if_neg (by omega),if_neg (by omega)];unfold backV;rw [again_eq hn1];split <;> rfl)
    clear c1
    rcases (show i<0∨n≤i by omega) with c|c
    all_goals
     go_enter Tryz.func178,Tryz.ntmps178
     go_wp2_with (first
      | (go_at_call 255;(with_reducible refine (ways_any _).mono ?_);rintro e w1 ⟨rfl,hb1⟩)
      | (go_at_call 304;(with_reducible refine (rowback_any _ _ _ hn1 hn2 (by omega)).mono ?_);rintro e w2 ⟨rfl,hb2⟩))
     all_goals
      go_returns
      exact ⟨by rw [HX.out];rfl,hb1.trans (hb2.mono hb1.size)⟩
end Go.Proofs.YtjbelhpgbcnlmaaGreat
end
