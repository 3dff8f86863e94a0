/- Several texts in one: Several texts in one: The reference's affine map: what is wrong with its numbers. The reference's affine map: products and differences. The reference's affine map: where a place comes from. (Printed by wip/tools/genp3.py.) -/
import Derived.Test.YtjbelhpgbcnlmaaGreatSamplePixelsZz14
import Derived.Test.YtjbelhpgbcnlmaaGreatSamplePixelsZz5
import Derived.Deep.DeepCutAuto
section
section
set_option linter.unusedVariables false
namespace Go.Proofs.YtjbelhpgbcnlmaaGreat
open Go.RowKit
theorem rdet18 (l:List Int) (A:Option Addr) (cp:Nat) (w:World) {B:Nat} (h:AfOk l) (hr:Rd w B A (l.map (Value.int .i64))) :
 Calls Tryz.prog 103 #[.slice A 6 cp] w fun e w'=>e=.returned (.int .i64 (dtA l))∧Below w.heap.size w w':=by
 obtain ⟨b,o,rfl,hb,hc⟩:=aget h.len hr
 have c0:w.cell? ⟨b,o,none⟩=some (.int .i64 (cf l 0)):=hc 0 (by decide)
 have c1:=hc 1 (by decide)
 have c3:=hc 3 (by decide)
 have c4:=hc 4 (by decide)
 have p1:=h.prod 0 4 (by decide) (by decide) 281474976710656 (by decide)
 have p2:=h.prod 1 3 (by decide) (by decide) 281474976710656 (by decide)
 have HE:=Lib.hid (show dtA l=cf l 0*cf l 4-cf l 1*cf l 3 from rfl)
 have hb0:=Below.refl w.heap.size w
 clear hc hr h
 obtain ⟨p10,p11⟩:=p1
 obtain ⟨p20,p21⟩:=p2
 generalize dtA l=D at *
 generalize cf l 0=x0 at *
 generalize cf l 1=x1 at *
 generalize cf l 3=x3 at *
 generalize cf l 4=x4 at *
 have e1:IntKind.i64.wrap (x0*x4)=x0*x4:=IntWalk.i64_in _ ⟨by omega,by omega⟩
 have e2:IntKind.i64.wrap (x1*x3)=x1*x3:=IntWalk.i64_in _ ⟨by omega,by omega⟩
 have e3:IntKind.i64.wrap (x0*x4-x1*x3)=x0*x4-x1*x3:=IntWalk.i64_in _ ⟨by omega,by omega⟩
 clear p10 p11 p20 p21
 go_enter Tryz.func103,Tryz.ntmps103
 go_wp2_with fail
 go_quiet (fail)
 go_wp2_with fail
 go_ret
 exact ⟨ret_int HE.out.symm,below_drewN hb0 _⟩
set_option maxHeartbeats 4000000 in
theorem rcheck18 (l:List Int) (A:Option Addr) (n cp:Nat) (w:World) {B:Nat} (hl:l.length=n) (hr:Rd w B A (l.map (Value.int .i64))) :
 Calls Tryz.prog 50 #[.slice A n cp] w fun e w'=>e=.returned (.int .i64 (afC l))∧Below w.heap.size w w':=by
 have hb0:=Below.refl w.heap.size w
 by_cases hn:n=6
 ·subst hn
  have HL:=Lib.hid hl
  have hD:=fun (h:AfOk l)=>rdet18 l A cp w h hr
  clear hl
  go_enter Tryz.func50,Tryz.ntmps50
  go_wp2_with fail
  go_loop [3,4] (fun kv _=>∃ k:Nat,k≤6∧kv=.int .i64 k∧Hid (∀ i,i<k→inH (l.getD i 0) (most i)=true)) (fun kv _=>6-(intOf kv).toNat)
  case atStart=>exact ⟨0,by omega,rfl,by intro i hi;omega⟩
  case round =>
   obtain ⟨k,hk,rfl,hall⟩:=hrel
   by_cases hlt:k<6
   ·obtain ⟨b,o,rfl,hb,hc⟩:=hr.get k (by rw [List.length_map,HL.out];exact hlt)
    have hx:(l.map (Value.int .i64))[k]'(by rw [List.length_map,HL.out];exact hlt)=.int .i64 (l.getD k 0):=by
     rw [List.getElem_map,List.getD_eq_getElem?_getD,List.getElem?_eq_getElem (by rw [HL.out];exact hlt)];rfl
    rw [hx] at hc
    clear hx hD
    have hmk:(((k:Int)%3==2)=true∧most k=2147483648)∨(((k:Int)%3==2)=false∧most k=16777216):=by
     rcases (show k=0∨k=1∨k=2∨k=3∨k=4∨k=5 by omega) with rfl|rfl|rfl|rfl|rfl|rfl
     ·exact .inr ⟨rfl,rfl⟩
     ·exact .inr ⟨rfl,rfl⟩
     ·exact .inl ⟨rfl,rfl⟩
     ·exact .inr ⟨rfl,rfl⟩
     ·exact .inr ⟨rfl,rfl⟩
     ·exact .inl ⟨rfl,rfl⟩
    have hrg:inH (l.getD k 0) (most k)=false→Hid (afC l=11):=fun hi=>by
     show _=_
     unfold afC
     rw [if_neg (by rw [HL.out];simp),if_neg]
     intro h
     have:=rg6_iff.1 h k hlt
     rw [hi] at this;cases this
    have hnx:inH (l.getD k 0) (most k)=true→Hid (∀ i,i<k+1→inH (l.getD i 0) (most i)=true):=fun hi=>by
     intro i hi2
     by_cases e:i=k
     ·rw [e];exact hi
     ·exact hall.out i (by omega)
    rcases hmk with ⟨qk,qm⟩|⟨qk,qm⟩
    ·rw [qm] at hrg hnx
     cases hi:inH (l.getD k 0) 2147483648
     ·have HR:=hrg hi
      clear hrg hnx qm hall
      generalize l.getD k 0=x at *
      go_wp2_with (go_at_call 102;(with_reducible refine (rin_any _ _ _ (by decide) (by decide)).mono ?_);rintro e w' ⟨rfl,rfl⟩;rw [hi])
      go_ret
      exact ⟨ret_int HR.out.symm,hb0⟩
     ·have HN:=hnx hi
      clear hrg hnx qm hall
      generalize l.getD k 0=x at *
      go_wp2_with (go_at_call 102;(with_reducible refine (rin_any _ _ _ (by decide) (by decide)).mono ?_);rintro e w' ⟨rfl,rfl⟩;rw [hi])
      exact ⟨⟨k+1,by omega,by go_num,HN⟩,by simp [intOf];omega⟩
    ·rw [qm] at hrg hnx
     cases hi:inH (l.getD k 0) 16777216
     ·have HR:=hrg hi
      clear hrg hnx qm hall
      generalize l.getD k 0=x at *
      go_wp2_with (go_at_call 102;(with_reducible refine (rin_any _ _ _ (by decide) (by decide)).mono ?_);rintro e w' ⟨rfl,rfl⟩;rw [hi])
      go_ret
      exact ⟨ret_int HR.out.symm,hb0⟩
     ·have HN:=hnx hi
      clear hrg hnx qm hall
      generalize l.getD k 0=x at *
      go_wp2_with (go_at_call 102;(with_reducible refine (rin_any _ _ _ (by decide) (by decide)).mono ?_);rintro e w' ⟨rfl,rfl⟩;rw [hi])
      exact ⟨⟨k+1,by omega,by go_num,HN⟩,by simp [intOf];omega⟩
   ·obtain rfl:k=6:=by omega
    have hok:AfOk l:=⟨HL.out,rg6_iff.2 hall.out⟩
    have hd:=hD hok
    have HR:Hid (afC l=if dtA l=0 then 40 else 0):=by
     show _=_
     unfold afC
     rw [if_neg (by rw [HL.out];simp),if_pos hok.rg]
    clear hD hok hall
    by_cases hz:dtA l=0
    ·rw [hz] at hd
     have HR':Hid (afC l=40):=by show _=_;rw [HR.out,if_pos hz]
     clear hz HR
     go_wp2_with (go_at_call 103;(with_reducible refine hd.mono ?_);rintro e w' ⟨rfl,hb1⟩)
     go_ret
     exact ⟨ret_int HR'.out.symm,hb1⟩
    ·have HR':Hid (afC l=0):=by show _=_;rw [HR.out,if_neg hz]
     have hzb:(dtA l==0)=false:=by simpa using hz
     clear hz HR
     generalize dtA l=D at *
     go_wp2_with (go_at_call 103;(with_reducible refine hd.mono ?_);rintro e w' ⟨rfl,hb1⟩)
     go_ret
     exact ⟨ret_int HR'.out.symm,hb1⟩
 ·have HR:Hid (afC l=12):=by show _=_;unfold afC;rw [if_pos (by omega)]
  have hnb:((n:Int) != 6)=true:=by rw [bne_iff_ne];omega
  clear hl hn
  go_enter Tryz.func50,Tryz.ntmps50
  go_wp2_with fail
  all_goals first
   | (go_ret;exact ⟨ret_int HR.out.symm,hb0⟩)
   | (exfalso;omega)
end Go.Proofs.YtjbelhpgbcnlmaaGreat
end
section
set_option linter.unusedVariables false
namespace Go.Proofs.YtjbelhpgbcnlmaaGreat
open Go.RowKit
set_option maxRecDepth 100000 in
set_option maxHeartbeats 8000000 in
theorem rtimes_any (a z:Int) (v:Value) (w:World) {lo:Nat} (hv:BigN lo w v z) (ha:-9223372036854775808≤a∧a≤9223372036854775807) (hz:Sm z) :
 Calls Tryz.prog 188 #[.int .i64 a,v] w fun e w'=>∃ u,e=.returned u∧BigN w.heap.size w' u (a*z)∧Below w.heap.size w w':=by
 obtain ⟨s,A,n,c,rfl⟩:=hv.shape
 have hK0:Bk ((w.alloc (.cells #[.bool s,.slice A n c] 166)).alloc (.cells #[.bool false,.slice none 0 0] 166)) w.heap.size 166 #[.bool s,.slice A n c]:=(Bk.new w _ _).alloc _
 have hK1:Bk ((w.alloc (.cells #[.bool s,.slice A n c] 166)).alloc (.cells #[.bool false,.slice none 0 0] 166)) (w.heap.size+1) 166 #[.bool false,.slice none 0 0]:=by
  have:=Bk.new (w.alloc (.cells #[.bool s,.slice A n c] 166)) 166 #[.bool false,.slice none 0 0]
  simpa using this
 have hb0:Below w.heap.size w ((w.alloc (.cells #[.bool s,.slice A n c] 166)).alloc (.cells #[.bool false,.slice none 0 0] 166)):=by go_grown
 have hv0:=hv.nx hb0
 have sa:Sm a:=sm_of (by omega) (by omega)
 obtain ⟨a0,a1⟩:=ha
 clear hv
 go_enter Tryz.func188,Tryz.ntmps188
 go_upto_region 1 with fail
 generalize (w.alloc (.cells #[.bool s,.slice A n c] 166)).alloc (.cells #[.bool false,.slice none 0 0] 166)=W1 at *
 have hl0:=hK0.lt
 have hl1:=hK1.lt
 obtain ⟨c0,c1⟩:=hK0.cell2
 have hR:=(Below.refl W1.heap.size W1).drew
 go_region_with (first
  | (go_at_call 132;(with_reducible refine (of_any a _ a0 a1).mono ?_);rintro e wa ⟨va,rfl,hNa,hba⟩;have hza:=hba.size;have hBa:Below W1.heap.size W1 wa:=hR.trans (hba.mono (Nat.le_refl _));have ca0:=(hBa.cell (p:=⟨w.heap.size,0,none⟩) hl0).trans c0;have ca1:=(hBa.cell (p:=⟨w.heap.size,1,none⟩) hl0).trans c1)
  | (go_at_call 181;(with_reducible refine (mul_any _ _ a z _ hNa (hv0.nx hBa) sa hz).mono ?_);rintro e wd ⟨vd,rfl,hNd,hbd⟩;obtain ⟨sd,Ad,nd,cd,rfl⟩:=hNd.shape;have hzd:=hbd.size;have hBd:Below W1.heap.size W1 wd:=hBa.trans (hbd.mono hBa.size);have hK1d:=hK1.below hBd hl1;obtain ⟨cd0,cd1⟩:=hK1d.cell2;have fd0:=hK1d.frozen 0;have fd1:=hK1d.frozen 1))
 all_goals
  go_wp2_with fail
  have hz9:=hBd.size
  have hz8:=hBa.size
  refine bodyPost_ret (res_big rfl (hK1d.set2 _ _) rfl) rfl ?_
  exact ⟨_,rfl,(hNd.grown (gb2 wd _ _ _) (.inl (by omega))).less (by omega),below_of_gb (hb0.trans (hBd.mono (by omega))) (gb2 wd _ _ _) (by omega) (by omega)⟩
set_option maxRecDepth 100000 in
set_option maxHeartbeats 8000000 in
theorem rapart_any (p d m:Int) (w:World) (hp:-9223372036854775808≤p∧p≤9223372036854775807) (hd:-9223372036854775808≤d∧d≤9223372036854775807) (hm:-9223372036854775808≤m∧m≤9223372036854775807) :
 Calls Tryz.prog 187 #[.int .i64 p,.int .i64 d,.int .i64 m] w fun e w'=>∃ u,e=.returned u∧BigN w.heap.size w' u (p*65536-d*m)∧Below w.heap.size w w':=by
 have hK1:Bk (w.alloc (.cells #[.bool false,.slice none 0 0] 166)) w.heap.size 166 #[.bool false,.slice none 0 0]:=Bk.new w _ _
 have hb0:Below w.heap.size w (w.alloc (.cells #[.bool false,.slice none 0 0] 166)):=by go_grown
 have sp:Sm p:=sm_of (by omega) (by omega)
 have s16:Sm 65536:=sm_of (by omega) (by omega)
 have sm:Sm m:=sm_of (by omega) (by omega)
 have sx:Sm (p*65536):=sm_of (by omega) (by omega)
 have hdm:-85070591730234615865843651857942052864≤d*m∧d*m≤85070591730234615865843651857942052864:=by
  have h1:(d*m).natAbs≤9223372036854775808*9223372036854775808:=by rw [Int.natAbs_mul];exact Nat.mul_le_mul (by omega) (by omega)
  omega
 have sd:Sm (d*m):=sm_of (by omega) (by omega)
 obtain ⟨p0,p1⟩:=hp
 obtain ⟨m0,m1⟩:=hm
 clear hdm
 go_enter Tryz.func187,Tryz.ntmps187
 go_wp2_with fail
 generalize w.alloc (.cells #[.bool false,.slice none 0 0] 166)=W1 at *
 refine (of_any p _ p0 p1).mono ?_
 rintro e w1 ⟨v1,rfl,hN1,hb1⟩
 have z1:=hb1.size
 go_wp2_with fail
 refine (pow16 _).mono ?_
 rintro e w2 ⟨v2,rfl,hN2,hb2⟩
 have z2:=hb2.size
 go_wp2_with fail
 refine (mul_any _ _ p 65536 _ (hN1.nx hb2) hN2 sp s16).mono ?_
 rintro e w3 ⟨v3,rfl,hN3,hb3⟩
 have z3:=hb3.size
 go_wp2_with fail
 refine (of_any m _ m0 m1).mono ?_
 rintro e w4 ⟨v4,rfl,hN4,hb4⟩
 have z4:=hb4.size
 go_wp2_with fail
 refine (rtimes_any d m _ _ hN4 hd sm).mono ?_
 rintro e w5 ⟨v5,rfl,hN5,hb5⟩
 have z5:=hb5.size
 go_wp2_with fail
 refine (sub_any _ _ (p*65536) (d*m) _ ((hN3.nx hb4).nx hb5) hN5 sx sd).mono ?_
 rintro e w6 ⟨v6,rfl,hN6,hb6⟩
 have z6:=hb6.size
 obtain ⟨s6,A6,n6,c6,rfl⟩:=hN6.shape
 have hl1:=hK1.lt
 have hK6:=(((((hK1.nx hb1).nx hb2).nx hb3).nx hb4).nx hb5).nx hb6
 go_wp2_with (refine stBig rfl _ _ rfl hK6 rfl rfl rfl ?_;intro w7 hK7 hg7 hs7)
 refine bodyPost_ret (res_big rfl hK7 rfl) rfl ?_
 have hbz:=(((((hb0.trans (hb1.mono (by omega))).trans (hb2.mono (by omega))).trans (hb3.mono (by omega))).trans (hb4.mono (by omega))).trans (hb5.mono (by omega))).trans (hb6.mono (by omega))
 exact ⟨_,rfl,(hN6.grown hg7 (.inl (by omega))).less (by omega),below_grown hbz hg7 (by omega) (by omega)⟩
end Go.Proofs.YtjbelhpgbcnlmaaGreat
end
section
set_option linter.unusedVariables false
namespace Go.Proofs.YtjbelhpgbcnlmaaGreat
open Go.RowKit
theorem nab_mul {a b:Int} {A B:Nat} (ha:a.natAbs≤A) (hb:b.natAbs≤B):(a*b).natAbs≤A*B:=by
 rw [Int.natAbs_mul];exact Nat.mul_le_mul ha hb
def rX18 (l:List Int) (px d:Int):Int:=px*65536-d*cf l 2
def rY18 (l:List Int) (py d:Int):Int:=py*65536-d*cf l 5
def rU18 (l:List Int) (px py d:Int):Int:=cf l 4*rX18 l px d-cf l 1*rY18 l py d
def rV18 (l:List Int) (px py d:Int):Int:=cf l 0*rY18 l py d-cf l 3*rX18 l px d
def rA18 (l:List Int) (px py d:Int):Int:=cutZ (flo (rU18 l px py d*65536) (d*dtA l))
def rB18 (l:List Int) (px py d:Int):Int:=cutZ (flo (rV18 l px py d*65536) (d*dtA l))
theorem keep7 {w w':World} {B a1 a2 b o p q:Nat} {u1 u2 u3 u4 u5 u6:Value} (h1:w.cell? ⟨a1,0,none⟩=some u1) (h2:w.cell? ⟨a1,1,none⟩=some u2) (h3:w.cell? ⟨a2,0,none⟩=some u3) (h4:w.cell? ⟨a2,1,none⟩=some u4) (h5:w.cell? ⟨b,p,none⟩=some u5) (h6:w.cell? ⟨b,q,none⟩=some u6)
 (k1:a1<B) (k2:a2<B) (k3:b<B) (h:Below B w w') :
 w'.cell? ⟨a1,0,none⟩=some u1∧w'.cell? ⟨a1,1,none⟩=some u2∧w'.cell? ⟨a2,0,none⟩=some u3∧w'.cell? ⟨a2,1,none⟩=some u4∧w'.cell? ⟨b,p,none⟩=some u5∧w'.cell? ⟨b,q,none⟩=some u6∧Below B w w' :=
 ⟨(h.cell k1).trans h1,(h.cell k1).trans h2,(h.cell k2).trans h3,(h.cell k2).trans h4,(h.cell k3).trans h5,(h.cell k3).trans h6,h⟩
set_option maxRecDepth 100000 in
set_option maxHeartbeats 32000000 in
theorem rat18 (l:List Int) (A:Option Addr) (cp:Nat) (px py d:Int) (w:World) {B:Nat} (h:AfOk l) (hdt:dtA l≠0) (hr:Rd w B A (l.map (Value.int .i64))) (hB:B≤w.heap.size) (hp:rightH px py d=true) :
 Calls Tryz.prog 114 #[.slice A 6 cp,.int .i64 px,.int .i64 py,.int .i64 d] w fun e w'=>e=.returned (.tuple #[.int .i64 (rA18 l px py d),.int .i64 (rB18 l px py d)])∧Below w.heap.size w w':=by
 obtain ⟨⟨px0,px1⟩,⟨py0,py1⟩,dd0,dd1⟩:=rightH_iff.1 hp
 obtain ⟨b,o,rfl,hb,hc⟩:=aget h.len hr
 have hbw:b<w.heap.size:=by omega
 have m0:most 0=16777216:=rfl
 have m1:most 1=16777216:=rfl
 have m2:most 2=2147483648:=rfl
 have m3:most 3=16777216:=rfl
 have m4:most 4=16777216:=rfl
 have m5:most 5=2147483648:=rfl
 have e0:=h.bd 0 (by decide)
 have e1:=h.bd 1 (by decide)
 have e2:=h.bd 2 (by decide)
 have e3:=h.bd 3 (by decide)
 have e4:=h.bd 4 (by decide)
 have e5:=h.bd 5 (by decide)
 rw [m0] at e0
 rw [m1] at e1
 rw [m2] at e2
 rw [m3] at e3
 rw [m4] at e4
 rw [m5] at e5
 obtain ⟨_,_,dt0,dt1⟩:=afU_ok h
 have hDet:=fun w' (hr':Rd w' B (some ⟨b,o,none⟩) (l.map (Value.int .i64)))=>rdet18 l (some ⟨b,o,none⟩) cp w' h hr'
 have HA:Hid (rA18 l px py d=cutZ (flo (rU18 l px py d*65536) (d*dtA l))):=rfl
 have HB:Hid (rB18 l px py d=cutZ (flo (rV18 l px py d*65536) (d*dtA l))):=rfl
 have HU:Hid (rU18 l px py d=cf l 4*rX18 l px d-cf l 1*rY18 l py d):=rfl
 have HV:Hid (rV18 l px py d=cf l 0*rY18 l py d-cf l 3*rX18 l px d):=rfl
 have HX:Hid (rX18 l px d=px*65536-d*cf l 2):=rfl
 have HYY:Hid (rY18 l py d=py*65536-d*cf l 5):=rfl
 have HCc:=Lib.hid hc
 have HDet:=Lib.hid hDet
 have c2:=hc 2 (by decide)
 have c5:=hc 5 (by decide)
 have bX:(rX18 l px d).natAbs≤103079215104:=by
  have:=nab_mul (a:=d) (b:=cf l 2) (A:=16) (B:=2147483648) (by omega) (by omega)
  rw [HX.out];omega
 have bY:(rY18 l py d).natAbs≤103079215104:=by
  have:=nab_mul (a:=d) (b:=cf l 5) (A:=16) (B:=2147483648) (by omega) (by omega)
  rw [HYY.out];omega
 have b4X:=nab_mul (a:=cf l 4) (b:=rX18 l px d) (A:=16777216) (by omega) bX
 have b1Y:=nab_mul (a:=cf l 1) (b:=rY18 l py d) (A:=16777216) (by omega) bY
 have b0Y:=nab_mul (a:=cf l 0) (b:=rY18 l py d) (A:=16777216) (by omega) bY
 have b3X:=nab_mul (a:=cf l 3) (b:=rX18 l px d) (A:=16777216) (by omega) bX
 have bD:=nab_mul (a:=d) (b:=dtA l) (A:=16) (B:=562949953421312) (by omega) (by omega)
 have hne:d*dtA l≠0:=Int.mul_ne_zero (by omega) hdt
 clear hc hDet m0 m1 m2 m3 m4 m5 h hp hdt
 generalize rA18 l px py d=RA at *
 generalize rB18 l px py d=RB at *
 generalize rU18 l px py d=U at *
 generalize rV18 l px py d=V at *
 generalize rX18 l px d=X at *
 generalize rY18 l py d=Y at *
 have sX:Sm X:=sm_of (by omega) (by omega)
 have sY:Sm Y:=sm_of (by omega) (by omega)
 have s4X:Sm (cf l 4*X):=sm_of (by omega) (by omega)
 have s1Y:Sm (cf l 1*Y):=sm_of (by omega) (by omega)
 have s0Y:Sm (cf l 0*Y):=sm_of (by omega) (by omega)
 have s3X:Sm (cf l 3*X):=sm_of (by omega) (by omega)
 have sdt:Sm (dtA l):=sm_of (by omega) (by omega)
 have hB5:=Bp_mono (show 5≤38 by omega)
 have hB5':=Bp5
 have sU:(U.natAbs:Int)<Bp 38:=by rw [HU.out];omega
 have sV:(V.natAbs:Int)<Bp 38:=by rw [HV.out];omega
 have sBY:((d*dtA l).natAbs:Int)<Bp 38:=by omega
 have HsU:=Lib.hid sU
 have HsV:=Lib.hid sV
 have HsBY:=Lib.hid sBY
 have Hne:=Lib.hid hne
 clear bX bY b4X b1Y b0Y b3X bD sU sV sBY hB5 hB5' hne
 go_enter Tryz.func114,Tryz.ntmps114
 go_wp2_with fail
 refine (rapart_any px d (cf l 2) _ (by omega) (by omega) (by omega)).mono ?_
 rintro e w1 ⟨v1,rfl,hN1,hb1⟩
 rw [← HX.out] at hN1
 obtain ⟨s1,A1,n1,cp1,rfl⟩:=hN1.shape
 replace c5:=((hb1.alloc hb1.size (.cells #[.bool s1,.slice A1 n1 cp1] 166)).cell (p:=⟨b,o+5,none⟩) hbw).trans c5
 go_wp2_with fail
 refine (rapart_any py d (cf l 5) _ (by omega) (by omega) (by omega)).mono ?_
 rintro e w2 ⟨v2,rfl,hN2,hb2⟩
 rw [← HYY.out] at hN2
 obtain ⟨s2,A2,n2,cp2,rfl⟩:=hN2.shape
 have z1:=hb1.size
 have z2:=hb2.size
 simp only [World.size_alloc] at z2
 have kx:=((Bk.new w1 166 #[.bool s1,.slice A1 n1 cp1]).nx hb2).alloc (.cells #[.bool s2,.slice A2 n2 cp2] 166)
 have ky:=Bk.new w2 166 #[.bool s2,.slice A2 n2 cp2]
 have nX:=((hN1.alloc (.cells #[.bool s1,.slice A1 n1 cp1] 166)).nx hb2).alloc (.cells #[.bool s2,.slice A2 n2 cp2] 166)
 have nY:=hN2.alloc (.cells #[.bool s2,.slice A2 n2 cp2] 166)
 have hb3:Below w.heap.size w (w2.alloc (.cells #[.bool s2,.slice A2 n2 cp2] 166)):=((hb1.alloc hb1.size _).trans (hb2.mono (by simp;omega))).alloc (by omega) _
 clear c2 c5 hN1 hN2 HX HYY
 go_upto_region 3 with fail
 generalize w2.alloc (.cells #[.bool s2,.slice A2 n2 cp2] 166)=w3 at *
 obtain ⟨gx,hgx⟩:∃ g,w1.heap.size=g:=⟨_,rfl⟩
 obtain ⟨gy,hgy⟩:∃ g,w2.heap.size=g:=⟨_,rfl⟩
 rw [hgx] at kx
 rw [hgy] at ky
 have zx:w.heap.size≤gx:=by omega
 have zy:w.heap.size≤gy:=by omega
 try rw [hgx]
 try rw [hgy]
 clear hgx hgy z1 z2 hb1 hb2
 have lx:=kx.lt
 have ly:=ky.lt
 have zw:=hb3.size
 obtain ⟨x0,x1⟩:=kx.cell2
 obtain ⟨y0,y1⟩:=ky.cell2
 have ca:=(hb3.cell (p:=⟨b,o+4,none⟩) hbw).trans (HCc.out 4 (by decide))
 have cb:=(hb3.cell (p:=⟨b,o+1,none⟩) hbw).trans (HCc.out 1 (by decide))
 skip
 have hbw3:b<w3.heap.size:=by omega
 have hRr:=(Below.refl w3.heap.size w3).drew
 go_cut [12] (fun p wx=>∃ (g:Nat) (s:Bool) (A:Option Addr) (n c:Nat),p=.pointer (some ⟨g,0,none⟩)∧w3.heap.size≤g∧Bk wx g 166 #[.bool s,.slice A n c]∧BigN w3.heap.size wx (.agg #[.bool s,.slice A n c]) U∧Below w3.heap.size w3 wx)
 case first =>
  go_region_held3 (fun w'=>w'.cell? ⟨gx,0,none⟩=some (.bool s1)∧w'.cell? ⟨gx,1,none⟩=some (.slice A1 n1 cp1)∧w'.cell? ⟨gy,0,none⟩=some (.bool s2)∧w'.cell? ⟨gy,1,none⟩=some (.slice A2 n2 cp2)∧w'.cell? ⟨b,o+4,none⟩=some (.int .i64 (cf l 4))∧w'.cell? ⟨b,o+1,none⟩=some (.int .i64 (cf l 1))∧Below w3.heap.size w3 w')
   (first
     | exact keep7 (o:=o) x0 x1 y0 y1 ca cb lx ly hbw3 (by first | exact hBq|exact hBb|exact hBa|exact hRr)
     | exact keep7 (o:=o) x0 x1 y0 y1 ca cb lx ly hbw3 (by first | exact hBq.alloc hBq.size _|exact hBb.alloc hBb.size _|exact hBa.alloc hBa.size _|exact hRr.alloc hRr.size _)
     | (refine keep7 (o:=o) x0 x1 y0 y1 ca cb lx ly hbw3 ?_;first | exact below_of_gb hBq (gb2 _ _ _ _) (by first | exact Nat.le_refl _|exact hBa.size|exact hBb.size|exact hBq.size) hBq.size|exact below_of_gb (hBq.alloc hBq.size _) (gb2 _ _ _ _) hBq.size (hBq.alloc hBq.size _).size|go_grown))
   (first
     | (go_at_call 188;(with_reducible refine (rtimes_any (cf l 4) X _ _ (by first | exact nX.keep hBb (Nat.le_refl _)|exact nX.keep (hBb.alloc hBb.size _) (Nat.le_refl _)|exact nX.keep hRr (Nat.le_refl _)|exact nX.keep (hRr.alloc hRr.size _) (Nat.le_refl _)) (by omega) sX).mono ?_);rintro e wa ⟨va,rfl,hNa,hba⟩;(first | have kz:=kz.nx hba|have kz:Bk wa w3.heap.size 166 #[.bool false,.slice none 0 0]:=(Bk.new w3.drew 166 #[.bool false,.slice none 0 0]).nx hba|have kz:=(Bk.new wb 166 #[.bool false,.slice none 0 0]).nx hba|skip);have hBa:Below w3.heap.size w3 wa:=(by first | exact hBb.trans (hba.mono hBb.size)|exact (hBb.alloc hBb.size _).trans (hba.mono (hBb.alloc hBb.size _).size)|exact hRr.trans (hba.mono hRr.size)|exact (hRr.alloc hRr.size _).trans (hba.mono (hRr.alloc hRr.size _).size)))
     | (go_at_call 188;(with_reducible refine (rtimes_any (cf l 1) Y _ _ (by first | exact nY.keep hBa (Nat.le_refl _)|exact nY.keep (hBa.alloc hBa.size _) (Nat.le_refl _)|exact nY.keep hRr (Nat.le_refl _)|exact nY.keep (hRr.alloc hRr.size _) (Nat.le_refl _)) (by omega) sY).mono ?_);rintro e wb ⟨vb,rfl,hNb,hbb⟩;(first | have kz:=kz.nx hbb|have kz:Bk wb w3.heap.size 166 #[.bool false,.slice none 0 0]:=(Bk.new w3.drew 166 #[.bool false,.slice none 0 0]).nx hbb|have kz:=(Bk.new wa 166 #[.bool false,.slice none 0 0]).nx hbb|skip);have hBb:Below w3.heap.size w3 wb:=(by first | exact hBa.trans (hbb.mono hBa.size)|exact (hBa.alloc hBa.size _).trans (hbb.mono (hBa.alloc hBa.size _).size)|exact hRr.trans (hbb.mono hRr.size)|exact (hRr.alloc hRr.size _).trans (hbb.mono (hRr.alloc hRr.size _).size)))
     | (go_at_call 134;(with_reducible refine (sub_any _ _ (cf l 4*X) (cf l 1*Y) _ (by first | exact hNa|exact hNa.nx hbb|exact hNa.alloc _|exact (hNa.nx hbb).alloc _|exact (hNa.alloc _).nx hbb) (by first | exact hNb|exact hNb.nx hba|exact hNb.alloc _|exact (hNb.nx hba).alloc _|exact (hNb.alloc _).nx hba) s4X s1Y).mono ?_);rintro e wq ⟨vc,rfl,hNq,hbq⟩;obtain ⟨sc,Ac,nc,cc,rfl⟩:=hNq.shape;(first | have kz:=kz.nx hbq|have kz:=(Bk.new wb 166 #[.bool false,.slice none 0 0]).nx hbq|have kz:=(Bk.new wa 166 #[.bool false,.slice none 0 0]).nx hbq|skip);(try obtain ⟨kz0,kz1⟩:=kz.cell2);(try have kf0:=kz.frozen 0);(try have kf1:=kz.frozen 1);have hBq:Below w3.heap.size w3 wq:=(by first | exact hBb.trans (hbq.mono hBb.size)|exact hBa.trans (hbq.mono hBa.size)|exact (hBb.alloc hBb.size _).trans (hbq.mono (hBb.alloc hBb.size _).size)|exact (hBa.alloc hBa.size _).trans (hbq.mono (hBa.alloc hBa.size _).size))))
  all_goals
   go_wp2_with fail
   go_meet
   rw [← HU.out] at hNq
   have q1:=hba.size
   have q2:=hbb.size
   have q3:=hbq.size
   have q4:=hBa.size
   have q5:=hBb.size
   have q6:=hBq.size
   (try simp at q1)
   (try simp at q2)
   (try simp at q3)
   first
    | exact ⟨_,_,_,_,_,rfl,hBq.size,Bk.new wq _ _,(hNq.alloc _).less (by simp <;> omega),hBq.alloc hBq.size _⟩
    | exact ⟨_,_,_,_,_,rfl,hBq.size,Bk.new wq _ _,(hNq.alloc _).less (by omega),hBq.alloc hBq.size _⟩
    | exact ⟨_,_,_,_,_,rfl,(by first | exact Nat.le_refl _|exact hBa.size|exact hBb.size),kz.set2 _ _,(hNq.grown (gb2 wq _ _ _) (.inl (by first | omega|(simp <;> omega)))).less (by first | omega|(simp <;> omega)),below_of_gb hBq (gb2 wq _ _ _) (by first | exact Nat.le_refl _|exact hBa.size|exact hBb.size) hBq.size⟩
 case rest =>
  obtain ⟨gu,sgu,Agu,ngu,cpgu,rfl,hgu,kgu,nU,hBgu⟩:=hcut
  have kx:=kx.below hBgu lx
  have ky:=ky.below hBgu ly
  have nX:=nX.keep hBgu (Nat.le_refl _)
  have nY:=nY.keep hBgu (Nat.le_refl _)
  have hbu:=hb3.trans (hBgu.mono zw)
  have lgu:=kgu.lt
  clear x0 x1 y0 y1 ca cb hRr hb3 zw lx ly hbw3
  go_upto_region 4 with fail
  have lx:=kx.lt
  have ly:=ky.lt
  have zw:=hbu.size
  obtain ⟨x0,x1⟩:=kx.cell2
  obtain ⟨y0,y1⟩:=ky.cell2
  have ca:=(hbu.cell (p:=⟨b,o+0,none⟩) hbw).trans (HCc.out 0 (by decide))
  have cb:=(hbu.cell (p:=⟨b,o+3,none⟩) hbw).trans (HCc.out 3 (by decide))
  skip
  have hbwc:b<wc.heap.size:=by omega
  have hRr:=(Below.refl wc.heap.size wc).drew
  go_cut [13] (fun p wx=>∃ (g:Nat) (s:Bool) (A:Option Addr) (n c:Nat),p=.pointer (some ⟨g,0,none⟩)∧wc.heap.size≤g∧Bk wx g 166 #[.bool s,.slice A n c]∧BigN wc.heap.size wx (.agg #[.bool s,.slice A n c]) V∧Below wc.heap.size wc wx)
  case first =>
   go_region_held3 (fun w'=>w'.cell? ⟨gx,0,none⟩=some (.bool s1)∧w'.cell? ⟨gx,1,none⟩=some (.slice A1 n1 cp1)∧w'.cell? ⟨gy,0,none⟩=some (.bool s2)∧w'.cell? ⟨gy,1,none⟩=some (.slice A2 n2 cp2)∧w'.cell? ⟨b,o,none⟩=some (.int .i64 (cf l 0))∧w'.cell? ⟨b,o+3,none⟩=some (.int .i64 (cf l 3))∧Below wc.heap.size wc w')
    (first
      | exact keep7 (o:=o) x0 x1 y0 y1 ca cb lx ly hbwc (by first | exact hBq|exact hBb|exact hBa|exact hRr)
      | exact keep7 (o:=o) x0 x1 y0 y1 ca cb lx ly hbwc (by first | exact hBq.alloc hBq.size _|exact hBb.alloc hBb.size _|exact hBa.alloc hBa.size _|exact hRr.alloc hRr.size _)
      | (refine keep7 (o:=o) x0 x1 y0 y1 ca cb lx ly hbwc ?_;first | exact below_of_gb hBq (gb2 _ _ _ _) (by first | exact Nat.le_refl _|exact hBa.size|exact hBb.size|exact hBq.size) hBq.size|exact below_of_gb (hBq.alloc hBq.size _) (gb2 _ _ _ _) hBq.size (hBq.alloc hBq.size _).size|go_grown))
    (first
      | (go_at_call 188;(with_reducible refine (rtimes_any (cf l 0) Y _ _ (by first | exact nY.keep hBb (Nat.le_refl _)|exact nY.keep (hBb.alloc hBb.size _) (Nat.le_refl _)|exact nY.keep hRr (Nat.le_refl _)|exact nY.keep (hRr.alloc hRr.size _) (Nat.le_refl _)) (by omega) sY).mono ?_);rintro e wa ⟨va,rfl,hNa,hba⟩;(first | have kz:=kz.nx hba|have kz:Bk wa wc.heap.size 166 #[.bool false,.slice none 0 0]:=(Bk.new wc.drew 166 #[.bool false,.slice none 0 0]).nx hba|have kz:=(Bk.new wb 166 #[.bool false,.slice none 0 0]).nx hba|skip);have hBa:Below wc.heap.size wc wa:=(by first | exact hBb.trans (hba.mono hBb.size)|exact (hBb.alloc hBb.size _).trans (hba.mono (hBb.alloc hBb.size _).size)|exact hRr.trans (hba.mono hRr.size)|exact (hRr.alloc hRr.size _).trans (hba.mono (hRr.alloc hRr.size _).size)))
      | (go_at_call 188;(with_reducible refine (rtimes_any (cf l 3) X _ _ (by first | exact nX.keep hBa (Nat.le_refl _)|exact nX.keep (hBa.alloc hBa.size _) (Nat.le_refl _)|exact nX.keep hRr (Nat.le_refl _)|exact nX.keep (hRr.alloc hRr.size _) (Nat.le_refl _)) (by omega) sX).mono ?_);rintro e wb ⟨vb,rfl,hNb,hbb⟩;(first | have kz:=kz.nx hbb|have kz:Bk wb wc.heap.size 166 #[.bool false,.slice none 0 0]:=(Bk.new wc.drew 166 #[.bool false,.slice none 0 0]).nx hbb|have kz:=(Bk.new wa 166 #[.bool false,.slice none 0 0]).nx hbb|skip);have hBb:Below wc.heap.size wc wb:=(by first | exact hBa.trans (hbb.mono hBa.size)|exact (hBa.alloc hBa.size _).trans (hbb.mono (hBa.alloc hBa.size _).size)|exact hRr.trans (hbb.mono hRr.size)|exact (hRr.alloc hRr.size _).trans (hbb.mono (hRr.alloc hRr.size _).size)))
      | (go_at_call 134;(with_reducible refine (sub_any _ _ (cf l 0*Y) (cf l 3*X) _ (by first | exact hNa|exact hNa.nx hbb|exact hNa.alloc _|exact (hNa.nx hbb).alloc _|exact (hNa.alloc _).nx hbb) (by first | exact hNb|exact hNb.nx hba|exact hNb.alloc _|exact (hNb.nx hba).alloc _|exact (hNb.alloc _).nx hba) s0Y s3X).mono ?_);rintro e wq ⟨vc,rfl,hNq,hbq⟩;obtain ⟨sc,Ac,nc,cc,rfl⟩:=hNq.shape;(first | have kz:=kz.nx hbq|have kz:=(Bk.new wb 166 #[.bool false,.slice none 0 0]).nx hbq|have kz:=(Bk.new wa 166 #[.bool false,.slice none 0 0]).nx hbq|skip);(try obtain ⟨kz0,kz1⟩:=kz.cell2);(try have kf0:=kz.frozen 0);(try have kf1:=kz.frozen 1);have hBq:Below wc.heap.size wc wq:=(by first | exact hBb.trans (hbq.mono hBb.size)|exact hBa.trans (hbq.mono hBa.size)|exact (hBb.alloc hBb.size _).trans (hbq.mono (hBb.alloc hBb.size _).size)|exact (hBa.alloc hBa.size _).trans (hbq.mono (hBa.alloc hBa.size _).size))))
   all_goals
    go_wp2_with fail
    go_meet
    rw [← HV.out] at hNq
    have q1:=hba.size
    have q2:=hbb.size
    have q3:=hbq.size
    have q4:=hBa.size
    have q5:=hBb.size
    have q6:=hBq.size
    (try simp at q1)
    (try simp at q2)
    (try simp at q3)
    first
     | exact ⟨_,_,_,_,_,rfl,hBq.size,Bk.new wq _ _,(hNq.alloc _).less (by simp <;> omega),hBq.alloc hBq.size _⟩
     | exact ⟨_,_,_,_,_,rfl,hBq.size,Bk.new wq _ _,(hNq.alloc _).less (by omega),hBq.alloc hBq.size _⟩
     | exact ⟨_,_,_,_,_,rfl,(by first | exact Nat.le_refl _|exact hBa.size|exact hBb.size),kz.set2 _ _,(hNq.grown (gb2 wq _ _ _) (.inl (by first | omega|(simp <;> omega)))).less (by first | omega|(simp <;> omega)),below_of_gb hBq (gb2 wq _ _ _) (by first | exact Nat.le_refl _|exact hBa.size|exact hBb.size) hBq.size⟩
  case rest =>
   obtain ⟨gv,sgv,Agv,ngv,cpgv,rfl,hgv,kgv,nV,hBgv⟩:=hcut
   have kx:=kx.below hBgv lx
   have ky:=ky.below hBgv ly
   have nX:=nX.keep hBgv (Nat.le_refl _)
   have nY:=nY.keep hBgv (Nat.le_refl _)
   have hbv:=hbu.trans (hBgv.mono zw)
   have kgu:=kgu.below hBgv lgu
   have nU:=nU.keep hBgv (Nat.le_refl _)
   clear x0 x1 y0 y1 ca cb hRr hbu zw lx ly hbwc
   have lgu:=kgu.lt
   have lgv:=kgv.lt
   have zc:=hbv.size
   go_wp2_with fail
   refine (HDet.out _ (hr.below' hbv hB)).mono ?_
   rintro e w7 ⟨rfl,hb7⟩
   have z7:=hb7.size
   go_wp2_with fail
   refine (of_any (dtA l) _ (by omega) (by omega)).mono ?_
   rintro e w8 ⟨v8,rfl,hN8,hb8⟩
   have z8:=hb8.size
   go_wp2_with fail
   refine (rtimes_any d (dtA l) _ _ hN8 (by omega) sdt).mono ?_
   rintro e w9 ⟨v9,rfl,hN9,hb9⟩
   have z9:=hb9.size
   obtain ⟨s9,A9,n9,cp9,rfl⟩:=hN9.shape
   have hbT:Below wc.heap.size wc (w9.alloc (.cells #[.bool s9,.slice A9 n9 cp9] 166)):=((hb7.trans (hb8.mono z7)).trans (hb9.mono (by omega))).alloc (by omega) _
   have ku:=kgu.below hbT lgu
   have kv:=kgv.below hbT lgv
   have k9:=Bk.new w9 166 #[.bool s9,.slice A9 n9 cp9]
   have nU:=nU.keep hbT (Nat.le_refl _)
   have nV:=nV.keep hbT (Nat.le_refl _)
   have nD:=hN9.alloc (.cells #[.bool s9,.slice A9 n9 cp9] 166)
   have hbE:=hbv.trans (hbT.mono zc)
   clear kx ky kgu kgv hN8 hN9 nX nY lgu lgv
   go_upto_region 6 with fail
   obtain ⟨g9,hg9⟩:∃ g,w9.heap.size=g:=⟨_,rfl⟩
   rw [hg9] at k9
   try rw [hg9]
   generalize w9.alloc (.cells #[.bool s9,.slice A9 n9 cp9] 166)=wT at *
   have zE:=hbE.size
   have lu:=ku.lt
   have lv:=kv.lt
   have l9:=k9.lt
   obtain ⟨x0,x1⟩:=ku.cell2
   obtain ⟨y0,y1⟩:=kv.cell2
   obtain ⟨d0,d1⟩:=k9.cell2
   have hRr:=(Below.refl wT.heap.size wT).drew
   go_region_held3 (fun w'=>w'.cell? ⟨gu,0,none⟩=some (.bool sgu)∧w'.cell? ⟨gu,1,none⟩=some (.slice Agu ngu cpgu)∧w'.cell? ⟨gv,0,none⟩=some (.bool sgv)∧w'.cell? ⟨gv,1,none⟩=some (.slice Agv ngv cpgv)∧w'.cell? ⟨g9,0,none⟩=some (.bool s9)∧w'.cell? ⟨g9,1,none⟩=some (.slice A9 n9 cp9)∧Below wT.heap.size wT w')
    (first
      | exact keep7 (o:=o) x0 x1 y0 y1 d0 d1 lu lv l9 hBz
      | exact keep7 (o:=o) x0 x1 y0 y1 d0 d1 lu lv l9 hBy
      | exact keep7 (o:=o) x0 x1 y0 y1 d0 d1 lu lv l9 hRr)
    (first
      | (go_at_call 189;(with_reducible refine (place_any _ _ U (d*dtA l) _ (nU.keep hRr (Nat.le_refl _)) (nD.keep hRr (Nat.le_refl _)) Hne.out HsU.out HsBY.out).mono ?_);rintro e wy ⟨rfl,hby⟩;have hBy:Below wT.heap.size wT wy:=hRr.trans (hby.mono hRr.size))
      | (go_at_call 189;(with_reducible refine (place_any _ _ V (d*dtA l) _ (nV.keep hRr (Nat.le_refl _)) (nD.keep hRr (Nat.le_refl _)) Hne.out HsV.out HsBY.out).mono ?_);rintro e wy ⟨rfl,hby⟩;have hBy:Below wT.heap.size wT wy:=hRr.trans (hby.mono hRr.size))
      | (go_at_call 189;(with_reducible refine (place_any _ _ U (d*dtA l) _ (nU.keep hBy (Nat.le_refl _)) (nD.keep hBy (Nat.le_refl _)) Hne.out HsU.out HsBY.out).mono ?_);rintro e wz ⟨rfl,hbz⟩;have hBz:Below wT.heap.size wT wz:=hBy.trans (hbz.mono hBy.size))
      | (go_at_call 189;(with_reducible refine (place_any _ _ V (d*dtA l) _ (nV.keep hBy (Nat.le_refl _)) (nD.keep hBy (Nat.le_refl _)) Hne.out HsV.out HsBY.out).mono ?_);rintro e wz ⟨rfl,hbz⟩;have hBz:Below wT.heap.size wT wz:=hBy.trans (hbz.mono hBy.size)))
   all_goals
    go_wp2_with fail
    go_returns
    exact ⟨ret_t2 HA.out.symm HB.out.symm,hbE.trans (hBz.mono zE)⟩
end Go.Proofs.YtjbelhpgbcnlmaaGreat
end
end
