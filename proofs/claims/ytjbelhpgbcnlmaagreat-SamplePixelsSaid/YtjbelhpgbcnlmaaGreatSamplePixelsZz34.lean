/- Several texts in one: Several texts in one: The reference's adjugates and determinants. The reference's adjugates. The reference's sums under an adjugate's row, and signs. (Printed by wip/tools/gen13.py.) The reference's homographies: where a place comes from. The reference's homographies: what is wrong. The reference's homographies: what is wrong, the walk. The reference's homographies and the program's: one and the same numbers, plain. The law HomogAsks. -/
import Derived.Test.YtjbelhpgbcnlmaaGreatSamplePixelsZz5
import Derived.Test.YtjbelhpgbcnlmaaGreatSamplePixelsZz13
import Derived.Test.YtjbelhpgbcnlmaaGreatSamplePixelsZz12
import Derived.Test.YtjbelhpgbcnlmaaGreatSamplePixelsZz14
section
section
set_option linter.unusedVariables false
namespace Go.Proofs.YtjbelhpgbcnlmaaGreat
open Go.RowKit
def detK (zs:List Int) (k:Nat):Int:=(if k=1 then -1 else 1)*(zs.getD k 0*minorZ zs 0 k)
def detSB (zs:List Int):Nat→Int
 | 0=>0
 | k+1=>detSB zs k+detK zs k
def detZ (zs:List Int):Int:=detSB zs 3
theorem detK_lt {zs:List Int} (h:∀ k,En (zs.getD k 0)) (k:Nat):((zs.getD k 0*minorZ zs 0 k).natAbs:Int)<Bp 28:=by
 have h1:((zs.getD k 0).natAbs:Int)<Bp 9:=h k
 have h2:=minor_lt h 0 k
 have h3:((minorZ zs 0 k).natAbs:Int)<Bp 19:=by have:=Bp1s 18;simp only [Nat.reduceAdd] at this;have:=Bp_pos 18;omega
 exact natAbs_mul_lt h1 h3
theorem detSB_lt {zs:List Int} (h:∀ k,En (zs.getD k 0)) (k:Nat):((detSB zs k).natAbs:Int)≤k*Bp 28:=by
 induction k with
 | zero=>simp [detSB]
 | succ k ih =>
   have:=detK_lt h k
   have e:((k+1:Nat):Int)*Bp 28=k*Bp 28+Bp 28:=by rw [Int.natCast_add,Int.add_mul];simp
   unfold detSB detK
   rw [e]
   split <;> omega
theorem Off.same {g:Option Nat} {s s':Value} {A:Option Addr} {n c:Nat} (h:Off g (.agg #[s,.slice A n c])):Off g (.agg #[s',.slice A n c]):=by
 intro s2 a n2 c2 e hn
 injection e with e
 have e2:=congrArg (fun x:Array Value=>x[1]?) e
 simp at e2
 obtain ⟨rfl,rfl,rfl⟩:=e2
 exact h _ _ _ _ rfl hn
theorem neg_same (s:Bool) (A:Option Addr) (n c:Nat) (x:Int) (w:World) {lo:Nat} (ha:BigN lo w (.agg #[.bool s,.slice A n c]) x) (hs:Sm x) :
 Calls Tryz.prog 183 #[.agg #[.bool s,.slice A n c]] w fun e w'=>∃ s',e=.returned (.agg #[.bool s',.slice A n c])∧BigN lo w' (.agg #[.bool s',.slice A n c]) (-x)∧Below w.heap.size w w':=by
 obtain ⟨A',c',l,e,h2,h3,h4,h5,h6,h7⟩:=ha
 have e2:=congrArg (fun x:Value=>match x with|.agg a=>a[0]?|_=>none) e
 have e3:=congrArg (fun x:Value=>match x with|.agg a=>a[1]?|_=>none) e
 simp at e2 e3
 obtain ⟨rfl,rfl,rfl⟩:=e3
 subst e2
 clear e
 generalize hsx:decide (x<0)=sx
 have HSX:=Lib.hid hsx
 clear hsx
 go_enter Tryz.func183,Tryz.ntmps183
 go_wp2_with fail
 refine (made_big (!sx) A l.length c _).mono ?_
 rintro e w1 ⟨rfl,hb⟩
 have hz:=hb.size
 simp only [World.size_alloc] at hz
 have hK:=(Bk.new (w.alloc (.cells #[.bool sx,.slice A l.length c] 166)) 166 #[.bool false,.slice none 0 0]).nx hb
 simp only [World.size_alloc] at hK
 go_wp2_with (refine stBig rfl _ _ rfl hK rfl rfl rfl ?_;intro w6 hK6 hg6 hs6)
 refine bodyPost_ret (res_big rfl hK6 rfl) rfl ?_
 have hbz:Below w.heap.size w w1:=(((Below.refl _ w).alloc (Nat.le_refl _) _).alloc (by simp) _).trans (hb.mono (by simp;omega))
 have hneg:(!sx&&decide (0<l.length))=decide (-x<0):=by
  rw [← HSX.out]
  have:=norm_zero h6
  rw [h7] at this
  by_cases hl:l=[]
  ·have:=this.1 hl;subst hl;simp;omega
  ·have hn:¬(x.natAbs:Int)=0:=fun e=>hl (this.2 e)
   have hp:=List.length_pos_iff.2 hl
   rw [Bool.eq_iff_iff];simp [hp];omega
 have hb6:=below_grown hbz hg6 (by simp) (by omega)
 exact ⟨_,rfl,⟨A,c,l,by rw [← hneg],h2,h3,h4,h5.below hb6 (Nat.le_refl _),h6,by rw [h7];omega⟩,hb6⟩
theorem keepD {w w':World} {B b p q:Nat} {u v:Value} (h1:w.cell? ⟨b,p,none⟩=some u) (h2:w.cell? ⟨b,q,none⟩=some v) (hb:b<B) (h:Below B w w') :
 w'.cell? ⟨b,p,none⟩=some u∧w'.cell? ⟨b,q,none⟩=some v∧Below B w w':=⟨(h.cell hb).trans h1,(h.cell hb).trans h2,h⟩
set_option maxRecDepth 100000 in
set_option maxHeartbeats 2000000 in
theorem det_any (v:Value) (zs:List Int) (w:World) {lo:Nat} (hv:Bigs lo w v zs) (hl:zs.length=9) (hz:∀ k,En (zs.getD k 0)) :
 Calls Tryz.prog 106 #[v] w fun e w'=>∃ u,e=.returned u∧BigN w.heap.size w' u (detZ zs)∧Below w.heap.size w w':=by
 obtain ⟨A,cp,rfl,hcp1,hcp2⟩:=hv.form
 have HZ:=Lib.hid hz
 have hl9:9≤zs.length:=by omega
 have hv':Bigs lo w (.slice A 9 cp) zs:=hl▸hv
 rw [hl]
 have HL:=Lib.hid hl
 clear hl hz hv hcp1
 have hK0:=Bk.new w 166 #[.bool false,.slice none 0 0]
 have hb00:Below w.heap.size w (w.alloc (.cells #[.bool false,.slice none 0 0] 166)):=by go_grown
 go_enter Tryz.func106,Tryz.ntmps106
 go_wp2_with fail
 refine (of_any 0 _ (by omega) (by omega)).mono ?_
 rintro e w1 ⟨v1,rfl,hN1,hb1⟩
 obtain ⟨s1,A1,n1,c1,rfl⟩:=hN1.shape
 have hz1:=hb1.size
 simp only [World.size_alloc] at hz1
 have hoff1:=hN1.off (g:=some w1.heap.size) (fun k hk=>by injection hk;omega)
 go_wp2_with fail
 go_loopw [4] (fun iv wr=>∃ (k:Nat) (s:Bool) (A:Option Addr) (n c:Nat),k≤3∧iv=.int .i64 k∧Bk wr w.heap.size 166 #[.bool false,.slice none 0 0]∧Bk wr w1.heap.size 166 #[.bool s,.slice A n c] ∧
  BigN (w.heap.size+1) wr (.agg #[.bool s,.slice A n c]) (detSB zs k)∧Off (some w1.heap.size) (.agg #[.bool s,.slice A n c])∧Below w.heap.size w wr) (fun iv _=>3-(intOf iv).toNat)
 case atStart =>
  refine ⟨0,s1,A1,n1,c1,by omega,rfl,(hK0.nx hb1).alloc _,Bk.new w1 _ _,(hN1.alloc _).less (by simp),hoff1,?_⟩
  exact (hb00.trans (hb1.mono (by simp))).alloc (by omega) _
 case round =>
  obtain ⟨k,s,A3,n3,c3,hk,rfl,hK2,hK3,hN,hoff,hb⟩:=hrel
  have hl3:=hK3.lt
  rcases Nat.lt_or_ge k 3 with hlt|hge
  ·obtain ⟨b,o,s4,A4,n4,c4,rfl,b1,b2,d1,d2,hNw,hNz⟩:=hv'.get2 hb k (by omega)
   have hvr:=hv'.nx hb
   have hk1:(k:Int)<9:=by omega
   have hk0:(0:Int)≤(k:Int):=by omega
   have hzk:=en_sm (HZ.out k)
   have hdl:=detK_lt HZ.out k
   have hml:=minor_lt HZ.out 0 k
   have hsm:Sm (minorZ zs 0 k):=by
    have h1:=Bp1s 18
    have h2:=Bp_mono (show 19≤40 by omega)
    have h3:=Bp_pos 18
    simp only [Nat.reduceAdd] at h1
    show ((minorZ zs 0 k).natAbs:Int)<Bp 40
    omega
   have hz9:=HZ.out
   have HZ9:=Lib.hid hz9
   clear hz9 hdl hml
   have hHL:=HL.out
   have HHL:=Lib.hid hHL
   clear hHL
   have d1':wr.drew.cell? ⟨b,o+k*2,none⟩=some (.bool s4):=d1
   have d2':wr.drew.cell? ⟨b,o+k*2+1,none⟩=some (.slice A4 n4 c4):=d2
   have hvd:=hvr.drew
   have hNzd:=hNz.drew
   have hb3:b<wr.drew.heap.size:=Nat.lt_of_lt_of_le b2 hb.size
   have hK2d:=hK2.drew
   have hK3d:=hK3.drew
   have hNd:=hN.drew
   have hbd:=hb.drew
   have hbw:b<wr.heap.size:=hb3
   go_upto_region 5 with fail
   go_cut [5] (fun p wx=>∃ (g:Nat) (s:Bool) (A:Option Addr) (n c:Nat),p=.pointer (some ⟨g,0,none⟩)∧wr.heap.size≤g∧Bk wx g 166 #[.bool s,.slice A n c]∧BigN wr.heap.size wx (.agg #[.bool s,.slice A n c]) (zs.getD k 0*minorZ zs 0 k)∧Off (some g) (.agg #[.bool s,.slice A n c])∧Below wr.heap.size wr wx)
   case first =>
    go_region_held3 (fun w'=>w'.cell? ⟨b,o+k*2,none⟩=some (.bool s4)∧w'.cell? ⟨b,o+k*2+1,none⟩=some (.slice A4 n4 c4)∧Below wr.heap.size wr w')
     (first
     | exact keepD d1 d2 hbw hBb
     | exact keepD d1 d2 hbw hBa
     | (refine keepD d1 d2 hbw ?_;(first | done|exact Below.alloc hBb hzbb _|exact Below.alloc hBa hzaa _|go_grown)))
     (first
     | (go_at_call 182;(with_reducible refine (minor_any _ zs 0 k _ (hvr.nx (by go_grown)) HHL.out (by omega) (by omega) HZ9.out).mono ?_);rintro e wa ⟨va,rfl,hNa,hba⟩;obtain ⟨sa,Aa,na,ca,rfl⟩:=hNa.shape;have hza:=hba.size;have hzaa:wr.heap.size≤wa.heap.size:=Nat.le_trans (by simp) hza;have hBa:Below wr.heap.size wr wa:=Below.trans (by go_grown) (hba.mono (by simp)))
     | (go_at_call 181;(with_reducible refine (mul_any _ _ _ _ _ (hNz.nx (by first | exact hBa|exact Below.alloc hBa hzaa _)) (hNa.nx (by first | exact Below.refl _ _|go_grown)) hzk hsm).mono ?_);rintro e wb ⟨vb,rfl,hNb,hbb⟩;obtain ⟨sb,Ab,nb,cb,rfl⟩:=hNb.shape;have hzb:=hbb.size;have hzbb:wr.heap.size≤wb.heap.size:=Nat.le_trans (by first | exact hzaa|(simp;omega)) hzb;have hBb:Below wr.heap.size wr wb:=Below.trans (by first | exact hBa|exact Below.alloc hBa hzaa _) (hbb.mono (by first | exact hzaa|(simp;omega)));(try (have hK5:Bk wb wr.heap.size 166 #[.bool false,.slice none 0 0]:=((Bk.new wr.drew 166 #[.bool false,.slice none 0 0]).nx hba).nx hbb;obtain ⟨c50,c51⟩:=hK5.cell2;have f50:=hK5.frozen 0;have f51:=hK5.frozen 1));(try (have hK6:=(Bk.new wa 166 #[.bool false,.slice none 0 0]).nx hbb;obtain ⟨c60,c61⟩:=hK6.cell2;have f60:=hK6.frozen 0;have f61:=hK6.frozen 1))))
    ·go_wp2_with fail
     go_meet
     exact ⟨_,_,_,_,_,rfl,hzbb,Bk.new wb _ _,(hNb.alloc _).less hzaa,hNb.off (fun k hk=>by injection hk;omega),Below.alloc hBb hzbb _⟩
    ·go_wp2_with fail
     go_meet
     simp only [World.size_alloc] at hzb
     exact ⟨_,_,_,_,_,rfl,hzaa,hK6.set2 _ _,(hNb.grown (gb2 wb _ _ _) (.inl (by simp))).less (by simp;omega),hNb.off (fun k hk=>.inl (by injection hk;simp;omega)),below_of_gb hBb (gb2 wb _ _ _) hzaa hzbb⟩
    ·go_wp2_with fail
     go_meet
     have hza2:wr.heap.size+1≤wa.heap.size:=by simpa using hza
     exact ⟨_,_,_,_,_,rfl,Nat.le_refl _,hK5.set2 _ _,(hNb.grown (gb2 wb _ _ _) (.inl (by omega))).less hzaa,hNb.off (fun k hk=>.inl (by injection hk;omega)),below_of_gb hBb (gb2 wb _ _ _) (Nat.le_refl _) hzbb⟩
   case rest =>
    obtain ⟨g,sx,Ax,nx,cx,rfl,hg,hK5,hNx,hoffx,hBx⟩:=hcut
    have hK2x:=hK2.below hBx hK2.lt
    have hK3x:=hK3.below hBx hl3
    have hNax:=hN.keep hBx (Nat.le_refl _)
    have hoffg:=hN.off (g:=some g) (fun k hk=>.inr (by injection hk;omega))
    have hbx:=hb.trans (hBx.mono (by have:=hb.size;omega))
    have hzx:=hBx.size
    have hgx:=hK5.lt
    have hdl:=detSB_lt HZ.out k
    have hkl:=detK_lt HZ.out k
    have hsa:Sm (detSB zs k):=by
     have h1:=Bp_mono (show 29≤40 by omega)
     have h2:=Bp1s 28
     have h3:=Bp_pos 28
     have hk2:(k:Int)*Bp 28≤2*Bp 28:=Int.mul_le_mul_of_nonneg_right (by omega) (by omega)
     simp only [Nat.reduceAdd] at h2
     show ((detSB zs k).natAbs:Int)<Bp 40
     omega
    have hsp:Sm (zs.getD k 0*minorZ zs 0 k):=sm_38 (by have:=Bp_mono (show 28≤38 by omega);omega)
    have hspn:Sm (-(zs.getD k 0*minorZ zs 0 k)):=by
     show ((-(zs.getD k 0*minorZ zs 0 k)).natAbs:Int)<Bp 40
     rw [Int.natAbs_neg];exact hsp
    have HDK:=Lib.hid (show detSB zs (k+1)=detSB zs k+detK zs k from rfl)
    have HDK2:=Lib.hid (show detK zs k=(if k=1 then -1 else 1)*(zs.getD k 0*minorZ zs 0 k) from rfl)
    generalize zs.getD k 0*minorZ zs 0 k=pr at *
    clear hdl hkl hK2 hK3 hN hb hvr hNz d1 d2 d1' d2' hvd hNzd hK2d hK3d hNd hbd HZ9
    by_cases hk1':k=1
    ·obtain rfl:k=1:=hk1'
     go_wp2_with (first
      | (refine ldBig rfl _ rfl hK5 rfl ?_)
      | (go_at_call 183;(with_reducible refine (neg_same _ _ _ _ pr _ hNx hsp).mono ?_);rintro e wn ⟨sn,rfl,hNn,hbn⟩;have hzn:=hbn.size;have hK5n:=hK5.nx hbn;have hNan:=hNax.nx hbn)
      | (refine stBig rfl _ _ rfl hK5n rfl rfl rfl ?_;intro wo hK5o hgo hso;have hNno:=hNn.kept hoffx.same hgo;have hNao:=hNan.kept hoffg hgo)
      | (refine ldBig rfl _ rfl (hK3x.nx hbn |>.grown hgo (by intro e;injection e;omega)) rfl ?_)
      | (refine ldBig rfl _ rfl hK5o rfl ?_)
      | (go_at_call 184;go_loud (with_reducible refine (add_any _ _ _ _ _ hNao hNno hsa hspn).mono ?_);rintro e wd ⟨vd,rfl,hNd,hbd⟩;obtain ⟨sd,Ad,nd,cd,rfl⟩:=hNd.shape;have hzd:=hbd.size)
      | (refine stBig rfl _ _ rfl (((hK3x.nx hbn).grown hgo (by intro e;injection e;omega)).nx hbd) rfl rfl rfl ?_;intro we hKe hge hse))
     have hd:detSB zs (1+1)=detSB zs 1+-pr:=by rw [HDK.out,HDK2.out];simp
     rw [← hd] at hNd
     refine ⟨⟨1+1,sd,Ad,nd,cd,by omega,rfl,?_,hKe,(hNd.grown hge (.inl (by omega))).less (by omega),hNd.off (fun k hk=>.inl (by injection hk;omega)),?_⟩,by simp only [intOf];omega⟩
     ·exact (((hK2x.nx hbn).grown hgo (by intro e;injection e;omega)).nx hbd).grown hge (by intro e;injection e;omega)
     ·exact below_grown ((below_grown (hbx.trans (hbn.mono (by omega))) hgo (by omega) (by omega)).trans (hbd.mono (by omega))) hge (by omega) (by omega)
    ·have hne:((k:Int)==1)=false:=by simp;omega
     go_wp2_with (first
      | (refine ldBig rfl _ rfl hK3x rfl ?_)
      | (refine ldBig rfl _ rfl hK5 rfl ?_)
      | (go_at_call 184;(with_reducible refine (add_any _ _ _ _ _ hNax hNx hsa hsp).mono ?_);rintro e wd ⟨vd,rfl,hNd,hbd⟩;obtain ⟨sd,Ad,nd,cd,rfl⟩:=hNd.shape;have hzd:=hbd.size)
      | (refine stBig rfl _ _ rfl (hK3x.nx hbd) rfl rfl rfl ?_;intro we hKe hge hse))
     have hd:detSB zs (k+1)=detSB zs k+pr:=by rw [HDK.out,HDK2.out,if_neg hk1'];simp
     rw [← hd] at hNd
     refine ⟨⟨k+1,sd,Ad,nd,cd,by omega,by go_num,?_,hKe,(hNd.grown hge (.inl (by omega))).less (by omega),hNd.off (fun k hk=>.inl (by injection hk;omega)),?_⟩,by simp only [intOf];omega⟩
     ·exact (hK2x.nx hbd).grown hge (by intro e;injection e;omega)
     ·exact below_grown (hbx.trans (hbd.mono (by omega))) hge (by omega) (by omega)
  ·obtain rfl:k=3:=by omega
   go_wp2_with (first
    | (refine ldBig rfl _ rfl hK3 rfl ?_)
    | (refine stBig rfl _ _ rfl hK2 rfl rfl rfl ?_;intro we hKe hge hse))
   refine bodyPost_ret (res_big rfl hKe rfl) rfl ?_
   exact ⟨_,rfl,(hN.grown hge (.inl (by omega))).less (by omega),below_grown hb hge (by omega) hb.size⟩
end Go.Proofs.YtjbelhpgbcnlmaaGreat
end
section
set_option linter.unusedVariables false
namespace Go.Proofs.YtjbelhpgbcnlmaaGreat
open Go.RowKit
def adjE (zs:List Int) (i j:Int):Int:=(if (i+j)%2=1 then -1 else 1)*minorZ zs j i
def adjP (zs:List Int) (m:Nat):List Int:=(List.range m).map (fun q:Nat=>adjE zs ((q/3:Nat):Int) ((q%3:Nat):Int))
def adjZ (zs:List Int):List Int:=adjP zs 9
theorem adjP_len (zs:List Int) (m:Nat):(adjP zs m).length=m:=by simp [adjP]
theorem adjP_succ (zs:List Int) (i j:Nat) (hj:j<3):adjP zs (3*i+j+1)=adjP zs (3*i+j)++[adjE zs i j]:=by
 unfold adjP
 rw [List.range_succ,List.map_append]
 have h1:(3*i+j)/3=i:=by omega
 have h2:(3*i+j)%3=j:=by omega
 simp only [List.map_cons,List.map_nil,h1,h2]
theorem adjE_lt {zs:List Int} (h:∀ k,En (zs.getD k 0)) (i j:Int):((adjE zs i j).natAbs:Int)<Bp 19:=by
 have h2:=minor_lt h j i
 have h3:=Bp1s 18
 have h4:=Bp_pos 18
 simp only [Nat.reduceAdd] at h3
 unfold adjE
 split <;> omega
set_option maxRecDepth 100000 in
set_option maxHeartbeats 2000000 in
theorem adj_any (v:Value) (zs:List Int) (w:World) {lo:Nat} (hv:Bigs lo w v zs) (hl:zs.length=9) (hz:∀ k,En (zs.getD k 0)) :
 Calls Tryz.prog 107 #[v] w fun e w'=>∃ u,e=.returned u∧Bigs w.heap.size w' u (adjZ zs)∧Below w.heap.size w w':=by
 have HZ:=Lib.hid hz
 have HL:=Lib.hid hl
 clear hz hl
 go_enter Tryz.func107,Tryz.ntmps107
 go_wp2_with fail
 go_loopw [3,4] (fun v iv wr=>∃ i:Nat,i≤3∧iv=.int .i64 i∧BigsO w.heap.size w.heap.size wr v (adjP zs (3*i))∧Below w.heap.size w wr) (fun _ iv _=>3-(intOf iv).toNat)
 case atStart=>exact ⟨0,by omega,rfl,BigsO.nil _ _ _,Below.refl _ _⟩
 case round =>
  obtain ⟨i,hi,rfl,hO,hb⟩:=hrel
  obtain ⟨wo,rfl⟩:∃ wo:World,wo=wr:=⟨_,rfl⟩
  rcases Nat.lt_or_ge i 3 with hlt|hge
  ·have hi3:(i:Int)<3:=by omega
   go_wp2_with fail
   go_loopw [3,5] (fun v jv wr=>∃ j:Nat,j≤3∧jv=.int .i64 j∧BigsO w.heap.size w.heap.size wr v (adjP zs (3*i+j))∧Below w.heap.size w wr) (fun _ jv _=>3-(intOf jv).toNat)
   case atStart=>exact ⟨0,by omega,rfl,hO,hb⟩
   case round =>
    clear hO hb
    obtain ⟨j,hj,rfl,hO,hb⟩:=hrel
    rcases Nat.lt_or_ge j 3 with hjlt|hjge
    ·have hj3:(j:Int)<3:=by omega
     have hbs:=hb.size
     have hvr:=hv.nx hb
     have hlen:=adjP_len zs (3*i+j)
     have hle:(adjP zs (3*i+j)).length≤100000:=by omega
     have HP:=Lib.hid (adjP_succ zs i j hjlt)
     have HL2:=Lib.hid hO.lt
     have hml:=minor_lt HZ.out j i
     have hsm:Sm (minorZ zs j i):=by
      have h1:=Bp1s 18
      have h2:=Bp_mono (show 19≤40 by omega)
      have h3:=Bp_pos 18
      simp only [Nat.reduceAdd] at h1
      show ((minorZ zs j i).natAbs:Int)<Bp 40
      omega
     have HE:=Lib.hid (show adjE zs i j=(if ((i:Int)+j)%2=1 then -1 else 1)*minorZ zs j i from rfl)
     clear hlen hml
     by_cases hpar:((i:Int)+j)%2=1
     ·have hp1:(((i:Int)+j)%2==1)=true:=by simp [hpar]
      have hE2:adjE zs i j=- minorZ zs j i:=by rw [HE.out,if_pos hpar];omega
      have HE2:=Lib.hid hE2
      clear hE2
      go_wp2_with (first
       | (go_at_call 182;(with_reducible refine (minor_any _ zs j i _ hvr HL.out (by omega) (by omega) HZ.out).mono ?_);rintro e wa ⟨va,rfl,hNa,hba⟩;obtain ⟨sa,Aa,na,ca,rfl⟩:=hNa.shape;have hza:=hba.size;have hKa:=Bk.new wa 166 #[.bool sa,.slice Aa na ca];have hNaa:=hNa.alloc (.cells #[.bool sa,.slice Aa na ca] 166);have hBa:=hba.alloc hza (.cells #[.bool sa,.slice Aa na ca] 166);have hoffa:=hNa.off (g:=some wa.heap.size) (fun k hk=>.inr (by injection hk;omega));have hoffr:=hNa.off (fun k hk=>.inl (HL2.out k hk).2);have hla:=hKa.lt)
       | (refine ldBig rfl _ rfl hKa rfl ?_)
       | (go_at_call 183;(with_reducible refine (neg_same _ _ _ _ _ _ hNaa hsm).mono ?_);rintro e wn ⟨sn,rfl,hNn,hbn⟩;have hzn:=hbn.size;have hKn:=hKa.nx hbn)
       | (refine stBig rfl _ _ rfl hKn rfl rfl rfl ?_;intro wk hKk hgk hsk;have hsk1:=Nat.le_of_eq hsk;have hsk2:=Nat.le_of_eq hsk.symm;clear hsk;have hNk:=hNn.kept hoffa.same hgk;have hBk:=below_of_gb (hBa.trans (hbn.mono (by omega))) hgk hza (by omega))
       | (refine ldBig rfl _ rfl hKk rfl ?_)
       | (at_builtin;go_loud (refine appBig rfl _ _ rfl (Bk.new wk _ _) ((hO.nx hBk).nx ((Below.refl _ wk).alloc (Nat.le_refl _) _)) ((hNk.alloc _).less hbs) hoffr.same rfl rfl ((hb.trans (hBk.mono hbs)).alloc (by omega) _) (Nat.le_refl _) (by simp;omega) hle ?_);intro v' w' k1 k2 k3 k4 k5))
      rw [← HE2.out,← HP.out] at k1
      exact ⟨⟨j+1,by omega,by go_num,k1,k2⟩,by simp only [intOf];omega⟩
     ·have hp1:(((i:Int)+j)%2==1)=false:=by simp [hpar]
      have hE2:adjE zs i j=minorZ zs j i:=by rw [HE.out,if_neg hpar];omega
      have HE2:=Lib.hid hE2
      clear hE2
      go_wp2_with (first
       | (go_at_call 182;(with_reducible refine (minor_any _ zs j i _ hvr HL.out (by omega) (by omega) HZ.out).mono ?_);rintro e wa ⟨va,rfl,hNa,hba⟩;obtain ⟨sa,Aa,na,ca,rfl⟩:=hNa.shape;have hza:=hba.size;have hKa:=Bk.new wa 166 #[.bool sa,.slice Aa na ca];have hNaa:=hNa.alloc (.cells #[.bool sa,.slice Aa na ca] 166);have hBa:=hba.alloc hza (.cells #[.bool sa,.slice Aa na ca] 166);have hoffr:=hNa.off (fun k hk=>.inl (HL2.out k hk).2);have hla:=hKa.lt;have hKb:Bk ((wa.alloc (.cells #[.bool sa,.slice Aa na ca] 166)).alloc (.cells #[.bool sa,.slice Aa na ca] 166)) (wa.heap.size+1) 166 #[.bool sa,.slice Aa na ca]:=by { have:=Bk.new (wa.alloc (.cells #[.bool sa,.slice Aa na ca] 166)) 166 #[.bool sa,.slice Aa na ca];simpa using this })
       | (refine ldBig rfl _ rfl hKa rfl ?_)
       | (at_builtin;go_loud (refine appBig rfl _ _ rfl hKb ((hO.nx hBa).nx ((Below.refl _ _).alloc (Nat.le_refl _) _)) ((hNaa.alloc _).less hbs) hoffr rfl rfl ((hb.trans (hBa.mono hbs)).alloc (by omega) _) (Nat.le_refl _) (by simp;omega) hle ?_);intro v' w' k1 k2 k3 k4 k5))
      rw [← HE2.out,← HP.out] at k1
      exact ⟨⟨j+1,by omega,by go_num,k1,k2⟩,by simp only [intOf];omega⟩
    ·obtain rfl:j=3:=by omega
     go_wp2_with fail
     exact ⟨⟨i+1,by omega,by go_num,hO,hb⟩,by simp only [intOf];omega⟩
  ·obtain rfl:i=3:=by omega
   have hO2:=hO.bigs (Nat.le_refl _)
   go_wp2_with fail
   go_returns
   exact ⟨_,rfl,hO2,hb⟩
end Go.Proofs.YtjbelhpgbcnlmaaGreat
end
section
set_option linter.unusedVariables false
namespace Go.Proofs.YtjbelhpgbcnlmaaGreat
open Go.RowKit
set_option maxRecDepth 100000 in
set_option maxHeartbeats 1000000 in
theorem sign_any (va:Value) (z:Int) (w:World) {lo:Nat} (ha:BigN lo w va z) (hs:Sm z) :
 Calls Tryz.prog 105 #[va] w fun e w'=>e=.returned (.int .i64 (cmpI z 0))∧Below w.heap.size w w':=by
 obtain ⟨s,A,n,c,rfl⟩:=ha.shape
 have hK0:Bk (w.alloc (.cells #[.bool s,.slice A n c] 166)).drew w.heap.size 166 #[.bool s,.slice A n c]:=(Bk.new w _ _).drew
 have hb0:Below w.heap.size w (w.alloc (.cells #[.bool s,.slice A n c] 166)).drew:=by go_grown
 have ha0:=ha.nx hb0
 have hl:=hK0.lt
 have hs0:Sm 0:=en_sm en_zero
 obtain ⟨d00,d01⟩:=hK0.cell2
 go_enter Tryz.func105,Tryz.ntmps105
 go_wp2_with fail
 go_region_held3 (fun w'=>w'.cell? ⟨w.heap.size,0,none⟩=some (.bool s)∧w'.cell? ⟨w.heap.size,1,none⟩=some (.slice A n c))
  (first | exact ⟨d00,d01⟩|exact ⟨e00,e01⟩|exact ⟨f00,f01⟩|(refine ⟨?_,?_⟩ <;> go_simp))
  (first
  | (go_at_call 132;(with_reducible refine (of_any 0 _ (by omega) (by omega)).mono ?_);rintro e wa ⟨va,rfl,hNa,hba⟩;obtain ⟨sa,Aa,na,ca,rfl⟩:=hNa.shape;obtain ⟨e00,e01⟩:=(hK0.nx hba).cell2;have haa:=ha0.nx hba)
  | (go_at_call 131;(with_reducible refine (cmp_any _ _ z 0 _ haa hNa hs hs0).mono ?_);rintro e wb ⟨rfl,hbb⟩;obtain ⟨f00,f01⟩:=((hK0.nx hba).nx hbb).cell2))
 have hza:=hba.size
 have hb9:=(hb0.trans (hba.mono (by omega))).trans (hbb.mono (by omega))
 go_wp2_with fail
 go_returns
 exact ⟨ret_int rfl,hb9⟩
theorem gb_nx {a b c:World} {row:Option Nat} (h:a.grownBy b row) (k:Below b.heap.size b c):a.grownBy c row:=gb_below h k h.size
theorem keepG {w w':World} {g1 g2 g3 g p q:Nat} {u0 u1 u2 u3 u4 u5:Value} (C:(w.cell? ⟨g1,0,none⟩=some u0∧w.cell? ⟨g1,1,none⟩=some u1)∧(w.cell? ⟨g2,0,none⟩=some u2∧w.cell? ⟨g2,1,none⟩=some u3)∧(w.cell? ⟨g3,p,none⟩=some u4∧w.cell? ⟨g3,q,none⟩=some u5))
 (h1:g1<w.heap.size∧g1≠g) (h2:g2<w.heap.size∧g2≠g) (h3:g3<w.heap.size∧g3≠g) (hG:w.grownBy w' (some g)) :
 ((w'.cell? ⟨g1,0,none⟩=some u0∧w'.cell? ⟨g1,1,none⟩=some u1)∧(w'.cell? ⟨g2,0,none⟩=some u2∧w'.cell? ⟨g2,1,none⟩=some u3)∧(w'.cell? ⟨g3,p,none⟩=some u4∧w'.cell? ⟨g3,q,none⟩=some u5))∧w.grownBy w' (some g):=by
 obtain ⟨⟨c0,c1⟩,⟨c2,c3⟩,c4,c5⟩:=C
 have n1:some g1≠some g:=fun e=>h1.2 (by injection e)
 have n2:some g2≠some g:=fun e=>h2.2 (by injection e)
 have n3:some g3≠some g:=fun e=>h3.2 (by injection e)
 exact ⟨⟨⟨hG.cell c0 n1,hG.cell c1 n1⟩,⟨hG.cell c2 n2,hG.cell c3 n2⟩,hG.cell c4 n3,hG.cell c5 n3⟩,hG⟩
def undZ (es:List Int) (r:Nat) (X Y D:Int):Int:=es.getD (3*r) 0*X+es.getD (3*r+1) 0*Y+es.getD (3*r+2) 0*D
def Ea (z:Int):Prop:=(z.natAbs:Int)<Bp 19
theorem ea_sm {z:Int} (h:Ea z):Sm z:=by
 have h2:(z.natAbs:Int)<Bp 19:=h
 exact sm_38 (by have:=Bp_mono (show 19≤38 by omega);omega)
theorem i64_sm {z:Int} (h:I64 z):Sm z:=sm_of (by have:=h.1;omega) (by have:=h.2;omega)
theorem ea_mul {x y:Int} (hx:Ea x) (hy:I64 y):((x*y).natAbs:Int)<Bp 24:=by
 refine natAbs_mul_lt (m:=19) (n:=5) hx ?_
 have h1:=Bp5
 obtain ⟨h2,h3⟩:=hy
 omega
set_option maxRecDepth 100000 in
set_option maxHeartbeats 4000000 in
theorem under0_any (v:Value) (es:List Int) (X Y D:Int) (w:World) {lo:Nat} (hv:Bigs lo w v es) (hl:es.length=9) (hz:∀ k,Ea (es.getD k 0)) (hX:I64 X) (hY:I64 Y) (hD:I64 D) :
 Calls Tryz.prog 108 #[v,.int .i64 0,.int .i64 X,.int .i64 Y,.int .i64 D] w fun e w'=>∃ u,e=.returned u∧BigN w.heap.size w' u (undZ es 0 X Y D)∧Below w.heap.size w w':=by
 obtain ⟨A,cp,rfl,hcp1,hcp2⟩:=hv.form
 have hv':Bigs lo w (.slice A 9 cp) es:=hl▸hv
 rw [hl]
 have HU:=Lib.hid (show undZ es 0 X Y D=es.getD 0 0*X+es.getD 1 0*Y+es.getD 2 0*D from rfl)
 obtain ⟨b,o,s0,A0,n0,c0,rfl,b1,b2,p0,q0,hE0⟩:=hv'.get 0 (by omega)
 obtain ⟨b',o',s1,A1,n1,c1,hbo,_,_,p1,q1,hE1⟩:=hv'.get 1 (by omega)
 injection hbo with hbo
 injection hbo with hbo1 hbo2
 subst hbo1 hbo2
 obtain ⟨b',o',s2,A2,n2,c2,hbo,_,_,p2,q2,hE2⟩:=hv'.get 2 (by omega)
 injection hbo with hbo
 injection hbo with hbo1 hbo2
 subst hbo1 hbo2
 have hm0:=ea_mul (hz 0) hX
 have hs0:=ea_sm (hz 0)
 have hm1:=ea_mul (hz 1) hY
 have hs1:=ea_sm (hz 1)
 have hm2:=ea_mul (hz 2) hD
 have hs2:=ea_sm (hz 2)
 have hX1:=hX.1
 have hX2:=hX.2
 have hY1:=hY.1
 have hY2:=hY.2
 have hD1:=hD.1
 have hD2:=hD.2
 have hSX:=i64_sm hX
 have hSY:=i64_sm hY
 have hSD:=i64_sm hD
 generalize es.getD 0 0=z0 at *
 generalize es.getD 1 0=z1 at *
 generalize es.getD 2 0=z2 at *
 have p0':w.cell? ⟨b,o,none⟩=some (.bool s0):=p0
 have q0':w.cell? ⟨b,o+1,none⟩=some (.slice A0 n0 c0):=q0
 clear p0 q0
 have p1':w.cell? ⟨b,o+2,none⟩=some (.bool s1):=p1
 have q1':w.cell? ⟨b,o+3,none⟩=some (.slice A1 n1 c1):=q1
 clear p1 q1
 have p2':w.cell? ⟨b,o+4,none⟩=some (.bool s2):=p2
 have q2':w.cell? ⟨b,o+5,none⟩=some (.slice A2 n2 c2):=q2
 clear p2 q2
 have h24:=Bp1s 24
 have h25:=Bp_mono (show 25≤38 by omega)
 have h26:=Bp_pos 24
 simp only [Nat.reduceAdd] at h24
 have t1:Sm (z0*X):=sm_38 (by omega)
 have t2:Sm (z1*Y):=sm_38 (by omega)
 have t3:Sm (z2*D):=sm_38 (by omega)
 have t4:Sm (z0*X+z1*Y):=sm_38 (by omega)
 clear hl hz hv hcp1 h24 h25 h26 hm0 hm1 hm2 hv'
 have hK0:=Bk.new w 166 #[.bool false,.slice none 0 0]
 have hb00:Below w.heap.size w (w.alloc (.cells #[.bool false,.slice none 0 0] 166)):=by go_grown
 have hw0:IntKind.i64.wrap (3*0)=0:=by decide
 have hw0':IntKind.i64.wrap 0=0:=by decide
 have hw1:IntKind.i64.wrap (0+1)=1:=by decide
 have hw1':IntKind.i64.wrap 1=1:=by decide
 have hw2:IntKind.i64.wrap (0+2)=2:=by decide
 have hw2':IntKind.i64.wrap 2=2:=by decide
 go_enter Tryz.func108,Tryz.ntmps108
 go_upto_region 1 with fail
 generalize w.alloc (.cells #[.bool false,.slice none 0 0] 166)=w1 at *
 have hl1:=hK0.lt
 have hbw1:b<w1.heap.size:=by omega
 have d11:=(hb00.cell (p:=⟨b,o,none⟩) b2).trans p0'
 have d12:=(hb00.cell (p:=⟨b,o+1,none⟩) b2).trans q0'
 have hE1:=hE0.nx hb00
 go_upto_region 1 with fail
 go_cut [11] (fun p wx=>∃ (g:Nat) (s:Bool) (A:Option Addr) (n c:Nat),p=.pointer (some ⟨g,0,none⟩)∧w1.heap.size≤g∧Bk wx g 166 #[.bool s,.slice A n c]∧BigN w1.heap.size wx (.agg #[.bool s,.slice A n c]) (z0*X)∧Below w1.heap.size w1 wx)
 case first =>
  go_region_held3 (fun w'=>w'.cell? ⟨b,o,none⟩=some (.bool s0)∧w'.cell? ⟨b,o+1,none⟩=some (.slice A0 n0 c0)∧Below w1.heap.size w1 w')
   (first
   | exact keepD d11 d12 hbw1 hBb
   | exact keepD d11 d12 hbw1 hBa
   | (refine keepD d11 d12 hbw1 ?_;(first | done|exact Below.alloc hBb hzbb _|exact Below.alloc hBa hzaa _|go_grown)))
   (first
   | (go_at_call 132;(with_reducible refine (of_any X _ hX1 hX2).mono ?_);rintro e wa ⟨va,rfl,hNa,hba⟩;obtain ⟨sa,Aa,na,ca,rfl⟩:=hNa.shape;have hza:=hba.size;have hzaa:w1.heap.size≤wa.heap.size:=Nat.le_trans (by simp) hza;have hBa:Below w1.heap.size w1 wa:=Below.trans (by go_grown) (hba.mono (by simp)))
   | (go_at_call 181;(with_reducible refine (mul_any _ _ _ _ _ (hE1.nx (by first | exact hBa|exact Below.alloc hBa hzaa _)) (hNa.nx (by first | exact Below.refl _ _|go_grown)) hs0 hSX).mono ?_);rintro e wb ⟨vb,rfl,hNb,hbb⟩;obtain ⟨sb,Ab,nb,cb,rfl⟩:=hNb.shape;have hzb:=hbb.size;have hzbb:w1.heap.size≤wb.heap.size:=Nat.le_trans (by first | exact hzaa|(simp;omega)) hzb;have hBb:Below w1.heap.size w1 wb:=Below.trans (by first | exact hBa|exact Below.alloc hBa hzaa _) (hbb.mono (by first | exact hzaa|(simp;omega)));(try (have hK5:Bk wb w1.heap.size 166 #[.bool false,.slice none 0 0]:=((Bk.new w1.drew 166 #[.bool false,.slice none 0 0]).nx hba).nx hbb;obtain ⟨c50,c51⟩:=hK5.cell2;have f50:=hK5.frozen 0;have f51:=hK5.frozen 1));(try (have hK6:=(Bk.new wa 166 #[.bool false,.slice none 0 0]).nx hbb;obtain ⟨c60,c61⟩:=hK6.cell2;have f60:=hK6.frozen 0;have f61:=hK6.frozen 1))))
  ·go_wp2_with fail
   go_meet
   exact ⟨_,_,_,_,_,rfl,hzbb,Bk.new wb _ _,(hNb.alloc _).less hzaa,Below.alloc hBb hzbb _⟩
  ·go_wp2_with fail
   go_meet
   simp only [World.size_alloc] at hzb
   exact ⟨_,_,_,_,_,rfl,hzaa,hK6.set2 _ _,(hNb.grown (gb2 wb _ _ _) (.inl (by simp))).less (by simp;omega),below_of_gb hBb (gb2 wb _ _ _) hzaa hzbb⟩
  ·go_wp2_with fail
   go_meet
   have hza2:w1.heap.size+1≤wa.heap.size:=by simpa using hza
   exact ⟨_,_,_,_,_,rfl,Nat.le_refl _,hK5.set2 _ _,(hNb.grown (gb2 wb _ _ _) (.inl (by omega))).less hzaa,below_of_gb hBb (gb2 wb _ _ _) (Nat.le_refl _) hzbb⟩
 case rest =>
  obtain ⟨g1,sx,Ax,nx,cx,rfl,hg1,hKx,hNx,hBx⟩:=hcut
  clear d11 d12 hE1
  obtain ⟨w2,rfl⟩:∃ w2:World,w2=wc:=⟨_,rfl⟩
  have hb2:=hb00.trans (hBx.mono (by omega))
  have hK02:=hK0.below hBx hl1
  have hzx:=hBx.size
  have hlx:=hKx.lt
  have hbw2:b<w2.heap.size:=by omega
  have d21:=(hb2.cell (p:=⟨b,o+2,none⟩) b2).trans p1'
  have d22:=(hb2.cell (p:=⟨b,o+3,none⟩) b2).trans q1'
  have hE2:=hE1.nx hb2
  go_upto_region 2 with fail
  go_cut [12] (fun p wx=>∃ (g:Nat) (s:Bool) (A:Option Addr) (n c:Nat),p=.pointer (some ⟨g,0,none⟩)∧w2.heap.size≤g∧Bk wx g 166 #[.bool s,.slice A n c]∧BigN w2.heap.size wx (.agg #[.bool s,.slice A n c]) (z1*Y)∧Below w2.heap.size w2 wx)
  case first =>
   go_region_held3 (fun w'=>w'.cell? ⟨b,o+2,none⟩=some (.bool s1)∧w'.cell? ⟨b,o+3,none⟩=some (.slice A1 n1 c1)∧Below w2.heap.size w2 w')
    (first
    | exact keepD d21 d22 hbw2 hBb
    | exact keepD d21 d22 hbw2 hBa
    | (refine keepD d21 d22 hbw2 ?_;(first | done|exact Below.alloc hBb hzbb _|exact Below.alloc hBa hzaa _|go_grown)))
    (first
    | (go_at_call 132;(with_reducible refine (of_any Y _ hY1 hY2).mono ?_);rintro e wa ⟨va,rfl,hNa,hba⟩;obtain ⟨sa,Aa,na,ca,rfl⟩:=hNa.shape;have hza:=hba.size;have hzaa:w2.heap.size≤wa.heap.size:=Nat.le_trans (by simp) hza;have hBa:Below w2.heap.size w2 wa:=Below.trans (by go_grown) (hba.mono (by simp)))
    | (go_at_call 181;(with_reducible refine (mul_any _ _ _ _ _ (hE2.nx (by first | exact hBa|exact Below.alloc hBa hzaa _)) (hNa.nx (by first | exact Below.refl _ _|go_grown)) hs1 hSY).mono ?_);rintro e wb ⟨vb,rfl,hNb,hbb⟩;obtain ⟨sb,Ab,nb,cb,rfl⟩:=hNb.shape;have hzb:=hbb.size;have hzbb:w2.heap.size≤wb.heap.size:=Nat.le_trans (by first | exact hzaa|(simp;omega)) hzb;have hBb:Below w2.heap.size w2 wb:=Below.trans (by first | exact hBa|exact Below.alloc hBa hzaa _) (hbb.mono (by first | exact hzaa|(simp;omega)));(try (have hK5:Bk wb w2.heap.size 166 #[.bool false,.slice none 0 0]:=((Bk.new w2.drew 166 #[.bool false,.slice none 0 0]).nx hba).nx hbb;obtain ⟨c50,c51⟩:=hK5.cell2;have f50:=hK5.frozen 0;have f51:=hK5.frozen 1));(try (have hK6:=(Bk.new wa 166 #[.bool false,.slice none 0 0]).nx hbb;obtain ⟨c60,c61⟩:=hK6.cell2;have f60:=hK6.frozen 0;have f61:=hK6.frozen 1))))
   ·go_wp2_with fail
    go_meet
    exact ⟨_,_,_,_,_,rfl,hzbb,Bk.new wb _ _,(hNb.alloc _).less hzaa,Below.alloc hBb hzbb _⟩
   ·go_wp2_with fail
    go_meet
    simp only [World.size_alloc] at hzb
    exact ⟨_,_,_,_,_,rfl,hzaa,hK6.set2 _ _,(hNb.grown (gb2 wb _ _ _) (.inl (by simp))).less (by simp;omega),below_of_gb hBb (gb2 wb _ _ _) hzaa hzbb⟩
   ·go_wp2_with fail
    go_meet
    have hza2:w2.heap.size+1≤wa.heap.size:=by simpa using hza
    exact ⟨_,_,_,_,_,rfl,Nat.le_refl _,hK5.set2 _ _,(hNb.grown (gb2 wb _ _ _) (.inl (by omega))).less hzaa,below_of_gb hBb (gb2 wb _ _ _) (Nat.le_refl _) hzbb⟩
  case rest =>
   obtain ⟨g2,sy,Ay,ny,cy,rfl,hg2,hKy,hNy,hBy⟩:=hcut
   clear d21 d22 hE2
   obtain ⟨w3,rfl⟩:∃ w3:World,w3=wc:=⟨_,rfl⟩
   have hb3:=hb2.trans (hBy.mono (by omega))
   have hK03:=hK02.below hBy (by omega)
   have hKx3:=hKx.below hBy hlx
   have hNx3:=hNx.nx hBy
   have hzy:=hBy.size
   have hly:=hKy.lt
   have hbw3:b<w3.heap.size:=by omega
   have d31:=(hb3.cell (p:=⟨b,o+4,none⟩) b2).trans p2'
   have d32:=(hb3.cell (p:=⟨b,o+5,none⟩) b2).trans q2'
   have hE3:=hE2.nx hb3
   obtain ⟨x0,x1⟩:=hKx3.cell2
   obtain ⟨y0,y1⟩:=hKy.cell2
   have hG0:w3.grownBy w3.drew (some w.heap.size):=gb_drew (World.grownBy.refl w3 _)
   have hKr0:Bk w3.drew w.heap.size 166 #[.bool false,.slice none 0 0]:=hK03
   have hoffE:=hE2.off (g:=some w.heap.size) (fun k hk=>.inr (by injection hk;omega))
   have hix:w.heap.size<w1.heap.size:=hl1
   have hiy:w.heap.size<w2.heap.size:=by omega
   have C:=And.intro (And.intro x0 x1) (And.intro (And.intro y0 y1) (And.intro d31 d32))
   have hn1:g1<w3.heap.size∧g1≠w.heap.size:=by omega
   have hn2:g2<w3.heap.size∧g2≠w.heap.size:=by omega
   have hn3:b<w3.heap.size∧b≠w.heap.size:=by omega
   go_wp2_with fail
   go_region_held3 (fun w'=>((w'.cell? ⟨g1,0,none⟩=some (.bool sx)∧w'.cell? ⟨g1,1,none⟩=some (.slice Ax nx cx))∧(w'.cell? ⟨g2,0,none⟩=some (.bool sy)∧w'.cell? ⟨g2,1,none⟩=some (.slice Ay ny cy)) ∧
    (w'.cell? ⟨b,o+4,none⟩=some (.bool s2)∧w'.cell? ⟨b,o+5,none⟩=some (.slice A2 n2 c2)))∧w3.grownBy w' (some w.heap.size))
    (first
    | exact keepG C hn1 hn2 hn3 hG0
    | exact keepG C hn1 hn2 hn3 hG1
    | exact keepG C hn1 hn2 hn3 hG2
    | exact keepG C hn1 hn2 hn3 hG3
    | exact keepG C hn1 hn2 hn3 hG4
    | exact keepG C hn1 hn2 hn3 (gb_trans hG4 (gb2 _ _ _ _) (fun g hg=>.inl hg.symm))
    | exact keepG C hn1 hn2 hn3 (gb_trans hG4 (gb2 _ _ _ _) (fun g hg=>.inl hg))
    | exact keepG C hn1 hn2 hn3 (World.grownBy.refl _ _))
    (first
    | (go_at_call 184;(with_reducible refine (add_any (lo:=w1.heap.size) (lo':=w2.heap.size) _ _ (z0*X) (z1*Y) _ (hNx3.grown (by first | exact hG0|exact hG1|exact hG2) (.inl hix)) (hNy.grown (by first | exact hG0|exact hG1|exact hG2) (.inl hiy)) t1 t2).mono ?_);rintro e wp ⟨vp,rfl,hNp,hbp⟩;obtain ⟨sp,Ap,np,cp1,rfl⟩:=hNp.shape;have hG3:w3.grownBy wp (some w.heap.size):=gb_nx (by first | exact hG0|exact hG1|exact hG2) hbp;have hKp:Bk wp w.heap.size 166 #[.bool false,.slice none 0 0]:=Bk.nx (by first | exact hKr0|exact hKo|exact hKm) hbp)
    | (go_at_call 132;(with_reducible refine (of_any D _ hD1 hD2).mono ?_);rintro e wo ⟨vo,rfl,hNo,hbo⟩;obtain ⟨so,Ao,no,co,rfl⟩:=hNo.shape;have hG1:w3.grownBy wo (some w.heap.size):=gb_nx (by first | exact hG0|exact hG3) hbo;have hKo:Bk wo w.heap.size 166 #[.bool false,.slice none 0 0]:=Bk.nx (by first | exact hKr0|exact hKp) hbo)
    | (go_at_call 181;(with_reducible refine (mul_any (lo:=lo) (lo':=0) _ _ z2 D _ (hE3.kept hoffE (by first | exact hG1|exact hG3)) (by first | exact hNo.any|exact (hNo.nx hbp).any) hs2 hSD).mono ?_);rintro e wm ⟨vm,rfl,hNm,hbm⟩;obtain ⟨sm,Am,nm,cm,rfl⟩:=hNm.shape;have hG2:w3.grownBy wm (some w.heap.size):=gb_nx (by first | exact hG1|exact hG3) hbm;have hKm:Bk wm w.heap.size 166 #[.bool false,.slice none 0 0]:=Bk.nx (by first | exact hKo|exact hKp) hbm)
    | (go_at_call 184;(with_reducible refine (add_any (lo:=0) (lo':=0) _ _ (z0*X+z1*Y) (z2*D) _ (by first | exact hNp.any|exact (hNp.nx hbm).any|exact ((hNp.nx hbo).nx hbm).any) (by first | exact hNm.any|exact (hNm.nx hbp).any) t4 t3).mono ?_);rintro e wd ⟨vd,rfl,hNd,hbd⟩;obtain ⟨sd,Ad,nd,cd,rfl⟩:=hNd.shape;have hG4:w3.grownBy wd (some w.heap.size):=gb_nx (by first | exact hG2|exact hG3) hbd;have hKd:Bk wd w.heap.size 166 #[.bool false,.slice none 0 0]:=Bk.nx (by first | exact hKm|exact hKp) hbd;obtain ⟨u0,u1⟩:=hKd.cell2;have f0:=hKd.frozen 0;have f1:=hKd.frozen 1))
   all_goals
    go_wp2_with fail
    refine bodyPost_ret (res_big rfl (hKd.set2 _ _) rfl) rfl ?_
    rw [HU.out]
    have hbz:=below_of_gb hb3 hG4 (Nat.le_refl _) hb3.size
    exact ⟨_,rfl,(hNd.grown (gb2 wd _ _ _) (.inl (by first | exact hKm.lt|exact hKp.lt))).less (by first | exact Nat.le_of_lt hKm.lt|exact Nat.le_of_lt hKp.lt),below_of_gb hbz (gb2 wd _ _ _) (Nat.le_refl _) hbz.size⟩
set_option maxRecDepth 100000 in
set_option maxHeartbeats 4000000 in
theorem under1_any (v:Value) (es:List Int) (X Y D:Int) (w:World) {lo:Nat} (hv:Bigs lo w v es) (hl:es.length=9) (hz:∀ k,Ea (es.getD k 0)) (hX:I64 X) (hY:I64 Y) (hD:I64 D) :
 Calls Tryz.prog 108 #[v,.int .i64 1,.int .i64 X,.int .i64 Y,.int .i64 D] w fun e w'=>∃ u,e=.returned u∧BigN w.heap.size w' u (undZ es 1 X Y D)∧Below w.heap.size w w':=by
 obtain ⟨A,cp,rfl,hcp1,hcp2⟩:=hv.form
 have hv':Bigs lo w (.slice A 9 cp) es:=hl▸hv
 rw [hl]
 have HU:=Lib.hid (show undZ es 1 X Y D=es.getD 3 0*X+es.getD 4 0*Y+es.getD 5 0*D from rfl)
 obtain ⟨b,o,s3,A3,n3,c3,rfl,b1,b2,p3,q3,hE3⟩:=hv'.get 3 (by omega)
 obtain ⟨b',o',s4,A4,n4,c4,hbo,_,_,p4,q4,hE4⟩:=hv'.get 4 (by omega)
 injection hbo with hbo
 injection hbo with hbo1 hbo2
 subst hbo1 hbo2
 obtain ⟨b',o',s5,A5,n5,c5,hbo,_,_,p5,q5,hE5⟩:=hv'.get 5 (by omega)
 injection hbo with hbo
 injection hbo with hbo1 hbo2
 subst hbo1 hbo2
 have hm3:=ea_mul (hz 3) hX
 have hs3:=ea_sm (hz 3)
 have hm4:=ea_mul (hz 4) hY
 have hs4:=ea_sm (hz 4)
 have hm5:=ea_mul (hz 5) hD
 have hs5:=ea_sm (hz 5)
 have hX1:=hX.1
 have hX2:=hX.2
 have hY1:=hY.1
 have hY2:=hY.2
 have hD1:=hD.1
 have hD2:=hD.2
 have hSX:=i64_sm hX
 have hSY:=i64_sm hY
 have hSD:=i64_sm hD
 generalize es.getD 3 0=z3 at *
 generalize es.getD 4 0=z4 at *
 generalize es.getD 5 0=z5 at *
 have p3':w.cell? ⟨b,o+6,none⟩=some (.bool s3):=p3
 have q3':w.cell? ⟨b,o+7,none⟩=some (.slice A3 n3 c3):=q3
 clear p3 q3
 have p4':w.cell? ⟨b,o+8,none⟩=some (.bool s4):=p4
 have q4':w.cell? ⟨b,o+9,none⟩=some (.slice A4 n4 c4):=q4
 clear p4 q4
 have p5':w.cell? ⟨b,o+10,none⟩=some (.bool s5):=p5
 have q5':w.cell? ⟨b,o+11,none⟩=some (.slice A5 n5 c5):=q5
 clear p5 q5
 have h24:=Bp1s 24
 have h25:=Bp_mono (show 25≤38 by omega)
 have h26:=Bp_pos 24
 simp only [Nat.reduceAdd] at h24
 have t1:Sm (z3*X):=sm_38 (by omega)
 have t2:Sm (z4*Y):=sm_38 (by omega)
 have t3:Sm (z5*D):=sm_38 (by omega)
 have t4:Sm (z3*X+z4*Y):=sm_38 (by omega)
 clear hl hz hv hcp1 h24 h25 h26 hm3 hm4 hm5 hv'
 have hK0:=Bk.new w 166 #[.bool false,.slice none 0 0]
 have hb00:Below w.heap.size w (w.alloc (.cells #[.bool false,.slice none 0 0] 166)):=by go_grown
 have hw0:IntKind.i64.wrap (3*1)=3:=by decide
 have hw0':IntKind.i64.wrap 3=3:=by decide
 have hw1:IntKind.i64.wrap (3+1)=4:=by decide
 have hw1':IntKind.i64.wrap 4=4:=by decide
 have hw2:IntKind.i64.wrap (3+2)=5:=by decide
 have hw2':IntKind.i64.wrap 5=5:=by decide
 go_enter Tryz.func108,Tryz.ntmps108
 go_upto_region 1 with fail
 generalize w.alloc (.cells #[.bool false,.slice none 0 0] 166)=w1 at *
 have hl1:=hK0.lt
 have hbw1:b<w1.heap.size:=by omega
 have d11:=(hb00.cell (p:=⟨b,o+6,none⟩) b2).trans p3'
 have d12:=(hb00.cell (p:=⟨b,o+7,none⟩) b2).trans q3'
 have hE1:=hE3.nx hb00
 go_upto_region 1 with fail
 go_cut [11] (fun p wx=>∃ (g:Nat) (s:Bool) (A:Option Addr) (n c:Nat),p=.pointer (some ⟨g,0,none⟩)∧w1.heap.size≤g∧Bk wx g 166 #[.bool s,.slice A n c]∧BigN w1.heap.size wx (.agg #[.bool s,.slice A n c]) (z3*X)∧Below w1.heap.size w1 wx)
 case first =>
  go_region_held3 (fun w'=>w'.cell? ⟨b,o+6,none⟩=some (.bool s3)∧w'.cell? ⟨b,o+7,none⟩=some (.slice A3 n3 c3)∧Below w1.heap.size w1 w')
   (first
   | exact keepD d11 d12 hbw1 hBb
   | exact keepD d11 d12 hbw1 hBa
   | (refine keepD d11 d12 hbw1 ?_;(first | done|exact Below.alloc hBb hzbb _|exact Below.alloc hBa hzaa _|go_grown)))
   (first
   | (go_at_call 132;(with_reducible refine (of_any X _ hX1 hX2).mono ?_);rintro e wa ⟨va,rfl,hNa,hba⟩;obtain ⟨sa,Aa,na,ca,rfl⟩:=hNa.shape;have hza:=hba.size;have hzaa:w1.heap.size≤wa.heap.size:=Nat.le_trans (by simp) hza;have hBa:Below w1.heap.size w1 wa:=Below.trans (by go_grown) (hba.mono (by simp)))
   | (go_at_call 181;(with_reducible refine (mul_any _ _ _ _ _ (hE1.nx (by first | exact hBa|exact Below.alloc hBa hzaa _)) (hNa.nx (by first | exact Below.refl _ _|go_grown)) hs3 hSX).mono ?_);rintro e wb ⟨vb,rfl,hNb,hbb⟩;obtain ⟨sb,Ab,nb,cb,rfl⟩:=hNb.shape;have hzb:=hbb.size;have hzbb:w1.heap.size≤wb.heap.size:=Nat.le_trans (by first | exact hzaa|(simp;omega)) hzb;have hBb:Below w1.heap.size w1 wb:=Below.trans (by first | exact hBa|exact Below.alloc hBa hzaa _) (hbb.mono (by first | exact hzaa|(simp;omega)));(try (have hK5:Bk wb w1.heap.size 166 #[.bool false,.slice none 0 0]:=((Bk.new w1.drew 166 #[.bool false,.slice none 0 0]).nx hba).nx hbb;obtain ⟨c50,c51⟩:=hK5.cell2;have f50:=hK5.frozen 0;have f51:=hK5.frozen 1));(try (have hK6:=(Bk.new wa 166 #[.bool false,.slice none 0 0]).nx hbb;obtain ⟨c60,c61⟩:=hK6.cell2;have f60:=hK6.frozen 0;have f61:=hK6.frozen 1))))
  ·go_wp2_with fail
   go_meet
   exact ⟨_,_,_,_,_,rfl,hzbb,Bk.new wb _ _,(hNb.alloc _).less hzaa,Below.alloc hBb hzbb _⟩
  ·go_wp2_with fail
   go_meet
   simp only [World.size_alloc] at hzb
   exact ⟨_,_,_,_,_,rfl,hzaa,hK6.set2 _ _,(hNb.grown (gb2 wb _ _ _) (.inl (by simp))).less (by simp;omega),below_of_gb hBb (gb2 wb _ _ _) hzaa hzbb⟩
  ·go_wp2_with fail
   go_meet
   have hza2:w1.heap.size+1≤wa.heap.size:=by simpa using hza
   exact ⟨_,_,_,_,_,rfl,Nat.le_refl _,hK5.set2 _ _,(hNb.grown (gb2 wb _ _ _) (.inl (by omega))).less hzaa,below_of_gb hBb (gb2 wb _ _ _) (Nat.le_refl _) hzbb⟩
 case rest =>
  obtain ⟨g1,sx,Ax,nx,cx,rfl,hg1,hKx,hNx,hBx⟩:=hcut
  clear d11 d12 hE1
  obtain ⟨w2,rfl⟩:∃ w2:World,w2=wc:=⟨_,rfl⟩
  have hb2:=hb00.trans (hBx.mono (by omega))
  have hK02:=hK0.below hBx hl1
  have hzx:=hBx.size
  have hlx:=hKx.lt
  have hbw2:b<w2.heap.size:=by omega
  have d21:=(hb2.cell (p:=⟨b,o+8,none⟩) b2).trans p4'
  have d22:=(hb2.cell (p:=⟨b,o+9,none⟩) b2).trans q4'
  have hE2:=hE4.nx hb2
  go_upto_region 2 with fail
  go_cut [12] (fun p wx=>∃ (g:Nat) (s:Bool) (A:Option Addr) (n c:Nat),p=.pointer (some ⟨g,0,none⟩)∧w2.heap.size≤g∧Bk wx g 166 #[.bool s,.slice A n c]∧BigN w2.heap.size wx (.agg #[.bool s,.slice A n c]) (z4*Y)∧Below w2.heap.size w2 wx)
  case first =>
   go_region_held3 (fun w'=>w'.cell? ⟨b,o+8,none⟩=some (.bool s4)∧w'.cell? ⟨b,o+9,none⟩=some (.slice A4 n4 c4)∧Below w2.heap.size w2 w')
    (first
    | exact keepD d21 d22 hbw2 hBb
    | exact keepD d21 d22 hbw2 hBa
    | (refine keepD d21 d22 hbw2 ?_;(first | done|exact Below.alloc hBb hzbb _|exact Below.alloc hBa hzaa _|go_grown)))
    (first
    | (go_at_call 132;(with_reducible refine (of_any Y _ hY1 hY2).mono ?_);rintro e wa ⟨va,rfl,hNa,hba⟩;obtain ⟨sa,Aa,na,ca,rfl⟩:=hNa.shape;have hza:=hba.size;have hzaa:w2.heap.size≤wa.heap.size:=Nat.le_trans (by simp) hza;have hBa:Below w2.heap.size w2 wa:=Below.trans (by go_grown) (hba.mono (by simp)))
    | (go_at_call 181;(with_reducible refine (mul_any _ _ _ _ _ (hE2.nx (by first | exact hBa|exact Below.alloc hBa hzaa _)) (hNa.nx (by first | exact Below.refl _ _|go_grown)) hs4 hSY).mono ?_);rintro e wb ⟨vb,rfl,hNb,hbb⟩;obtain ⟨sb,Ab,nb,cb,rfl⟩:=hNb.shape;have hzb:=hbb.size;have hzbb:w2.heap.size≤wb.heap.size:=Nat.le_trans (by first | exact hzaa|(simp;omega)) hzb;have hBb:Below w2.heap.size w2 wb:=Below.trans (by first | exact hBa|exact Below.alloc hBa hzaa _) (hbb.mono (by first | exact hzaa|(simp;omega)));(try (have hK5:Bk wb w2.heap.size 166 #[.bool false,.slice none 0 0]:=((Bk.new w2.drew 166 #[.bool false,.slice none 0 0]).nx hba).nx hbb;obtain ⟨c50,c51⟩:=hK5.cell2;have f50:=hK5.frozen 0;have f51:=hK5.frozen 1));(try (have hK6:=(Bk.new wa 166 #[.bool false,.slice none 0 0]).nx hbb;obtain ⟨c60,c61⟩:=hK6.cell2;have f60:=hK6.frozen 0;have f61:=hK6.frozen 1))))
   ·go_wp2_with fail
    go_meet
    exact ⟨_,_,_,_,_,rfl,hzbb,Bk.new wb _ _,(hNb.alloc _).less hzaa,Below.alloc hBb hzbb _⟩
   ·go_wp2_with fail
    go_meet
    simp only [World.size_alloc] at hzb
    exact ⟨_,_,_,_,_,rfl,hzaa,hK6.set2 _ _,(hNb.grown (gb2 wb _ _ _) (.inl (by simp))).less (by simp;omega),below_of_gb hBb (gb2 wb _ _ _) hzaa hzbb⟩
   ·go_wp2_with fail
    go_meet
    have hza2:w2.heap.size+1≤wa.heap.size:=by simpa using hza
    exact ⟨_,_,_,_,_,rfl,Nat.le_refl _,hK5.set2 _ _,(hNb.grown (gb2 wb _ _ _) (.inl (by omega))).less hzaa,below_of_gb hBb (gb2 wb _ _ _) (Nat.le_refl _) hzbb⟩
  case rest =>
   obtain ⟨g2,sy,Ay,ny,cy,rfl,hg2,hKy,hNy,hBy⟩:=hcut
   clear d21 d22 hE2
   obtain ⟨w3,rfl⟩:∃ w3:World,w3=wc:=⟨_,rfl⟩
   have hb3:=hb2.trans (hBy.mono (by omega))
   have hK03:=hK02.below hBy (by omega)
   have hKx3:=hKx.below hBy hlx
   have hNx3:=hNx.nx hBy
   have hzy:=hBy.size
   have hly:=hKy.lt
   have hbw3:b<w3.heap.size:=by omega
   have d31:=(hb3.cell (p:=⟨b,o+10,none⟩) b2).trans p5'
   have d32:=(hb3.cell (p:=⟨b,o+11,none⟩) b2).trans q5'
   have hE3:=hE5.nx hb3
   obtain ⟨x0,x1⟩:=hKx3.cell2
   obtain ⟨y0,y1⟩:=hKy.cell2
   have hG0:w3.grownBy w3.drew (some w.heap.size):=gb_drew (World.grownBy.refl w3 _)
   have hKr0:Bk w3.drew w.heap.size 166 #[.bool false,.slice none 0 0]:=hK03
   have hoffE:=hE5.off (g:=some w.heap.size) (fun k hk=>.inr (by injection hk;omega))
   have hix:w.heap.size<w1.heap.size:=hl1
   have hiy:w.heap.size<w2.heap.size:=by omega
   have C:=And.intro (And.intro x0 x1) (And.intro (And.intro y0 y1) (And.intro d31 d32))
   have hn1:g1<w3.heap.size∧g1≠w.heap.size:=by omega
   have hn2:g2<w3.heap.size∧g2≠w.heap.size:=by omega
   have hn3:b<w3.heap.size∧b≠w.heap.size:=by omega
   go_wp2_with fail
   go_region_held3 (fun w'=>((w'.cell? ⟨g1,0,none⟩=some (.bool sx)∧w'.cell? ⟨g1,1,none⟩=some (.slice Ax nx cx))∧(w'.cell? ⟨g2,0,none⟩=some (.bool sy)∧w'.cell? ⟨g2,1,none⟩=some (.slice Ay ny cy)) ∧
    (w'.cell? ⟨b,o+10,none⟩=some (.bool s5)∧w'.cell? ⟨b,o+11,none⟩=some (.slice A5 n5 c5)))∧w3.grownBy w' (some w.heap.size))
    (first
    | exact keepG C hn1 hn2 hn3 hG0
    | exact keepG C hn1 hn2 hn3 hG1
    | exact keepG C hn1 hn2 hn3 hG2
    | exact keepG C hn1 hn2 hn3 hG3
    | exact keepG C hn1 hn2 hn3 hG4
    | exact keepG C hn1 hn2 hn3 (gb_trans hG4 (gb2 _ _ _ _) (fun g hg=>.inl hg.symm))
    | exact keepG C hn1 hn2 hn3 (gb_trans hG4 (gb2 _ _ _ _) (fun g hg=>.inl hg))
    | exact keepG C hn1 hn2 hn3 (World.grownBy.refl _ _))
    (first
    | (go_at_call 184;(with_reducible refine (add_any (lo:=w1.heap.size) (lo':=w2.heap.size) _ _ (z3*X) (z4*Y) _ (hNx3.grown (by first | exact hG0|exact hG1|exact hG2) (.inl hix)) (hNy.grown (by first | exact hG0|exact hG1|exact hG2) (.inl hiy)) t1 t2).mono ?_);rintro e wp ⟨vp,rfl,hNp,hbp⟩;obtain ⟨sp,Ap,np,cp1,rfl⟩:=hNp.shape;have hG3:w3.grownBy wp (some w.heap.size):=gb_nx (by first | exact hG0|exact hG1|exact hG2) hbp;have hKp:Bk wp w.heap.size 166 #[.bool false,.slice none 0 0]:=Bk.nx (by first | exact hKr0|exact hKo|exact hKm) hbp)
    | (go_at_call 132;(with_reducible refine (of_any D _ hD1 hD2).mono ?_);rintro e wo ⟨vo,rfl,hNo,hbo⟩;obtain ⟨so,Ao,no,co,rfl⟩:=hNo.shape;have hG1:w3.grownBy wo (some w.heap.size):=gb_nx (by first | exact hG0|exact hG3) hbo;have hKo:Bk wo w.heap.size 166 #[.bool false,.slice none 0 0]:=Bk.nx (by first | exact hKr0|exact hKp) hbo)
    | (go_at_call 181;(with_reducible refine (mul_any (lo:=lo) (lo':=0) _ _ z5 D _ (hE3.kept hoffE (by first | exact hG1|exact hG3)) (by first | exact hNo.any|exact (hNo.nx hbp).any) hs5 hSD).mono ?_);rintro e wm ⟨vm,rfl,hNm,hbm⟩;obtain ⟨sm,Am,nm,cm,rfl⟩:=hNm.shape;have hG2:w3.grownBy wm (some w.heap.size):=gb_nx (by first | exact hG1|exact hG3) hbm;have hKm:Bk wm w.heap.size 166 #[.bool false,.slice none 0 0]:=Bk.nx (by first | exact hKo|exact hKp) hbm)
    | (go_at_call 184;(with_reducible refine (add_any (lo:=0) (lo':=0) _ _ (z3*X+z4*Y) (z5*D) _ (by first | exact hNp.any|exact (hNp.nx hbm).any|exact ((hNp.nx hbo).nx hbm).any) (by first | exact hNm.any|exact (hNm.nx hbp).any) t4 t3).mono ?_);rintro e wd ⟨vd,rfl,hNd,hbd⟩;obtain ⟨sd,Ad,nd,cd,rfl⟩:=hNd.shape;have hG4:w3.grownBy wd (some w.heap.size):=gb_nx (by first | exact hG2|exact hG3) hbd;have hKd:Bk wd w.heap.size 166 #[.bool false,.slice none 0 0]:=Bk.nx (by first | exact hKm|exact hKp) hbd;obtain ⟨u0,u1⟩:=hKd.cell2;have f0:=hKd.frozen 0;have f1:=hKd.frozen 1))
   all_goals
    go_wp2_with fail
    refine bodyPost_ret (res_big rfl (hKd.set2 _ _) rfl) rfl ?_
    rw [HU.out]
    have hbz:=below_of_gb hb3 hG4 (Nat.le_refl _) hb3.size
    exact ⟨_,rfl,(hNd.grown (gb2 wd _ _ _) (.inl (by first | exact hKm.lt|exact hKp.lt))).less (by first | exact Nat.le_of_lt hKm.lt|exact Nat.le_of_lt hKp.lt),below_of_gb hbz (gb2 wd _ _ _) (Nat.le_refl _) hbz.size⟩
set_option maxRecDepth 100000 in
set_option maxHeartbeats 4000000 in
theorem under2_any (v:Value) (es:List Int) (X Y D:Int) (w:World) {lo:Nat} (hv:Bigs lo w v es) (hl:es.length=9) (hz:∀ k,Ea (es.getD k 0)) (hX:I64 X) (hY:I64 Y) (hD:I64 D) :
 Calls Tryz.prog 108 #[v,.int .i64 2,.int .i64 X,.int .i64 Y,.int .i64 D] w fun e w'=>∃ u,e=.returned u∧BigN w.heap.size w' u (undZ es 2 X Y D)∧Below w.heap.size w w':=by
 obtain ⟨A,cp,rfl,hcp1,hcp2⟩:=hv.form
 have hv':Bigs lo w (.slice A 9 cp) es:=hl▸hv
 rw [hl]
 have HU:=Lib.hid (show undZ es 2 X Y D=es.getD 6 0*X+es.getD 7 0*Y+es.getD 8 0*D from rfl)
 obtain ⟨b,o,s6,A6,n6,c6,rfl,b1,b2,p6,q6,hE6⟩:=hv'.get 6 (by omega)
 obtain ⟨b',o',s7,A7,n7,c7,hbo,_,_,p7,q7,hE7⟩:=hv'.get 7 (by omega)
 injection hbo with hbo
 injection hbo with hbo1 hbo2
 subst hbo1 hbo2
 obtain ⟨b',o',s8,A8,n8,c8,hbo,_,_,p8,q8,hE8⟩:=hv'.get 8 (by omega)
 injection hbo with hbo
 injection hbo with hbo1 hbo2
 subst hbo1 hbo2
 have hm6:=ea_mul (hz 6) hX
 have hs6:=ea_sm (hz 6)
 have hm7:=ea_mul (hz 7) hY
 have hs7:=ea_sm (hz 7)
 have hm8:=ea_mul (hz 8) hD
 have hs8:=ea_sm (hz 8)
 have hX1:=hX.1
 have hX2:=hX.2
 have hY1:=hY.1
 have hY2:=hY.2
 have hD1:=hD.1
 have hD2:=hD.2
 have hSX:=i64_sm hX
 have hSY:=i64_sm hY
 have hSD:=i64_sm hD
 generalize es.getD 6 0=z6 at *
 generalize es.getD 7 0=z7 at *
 generalize es.getD 8 0=z8 at *
 have p6':w.cell? ⟨b,o+12,none⟩=some (.bool s6):=p6
 have q6':w.cell? ⟨b,o+13,none⟩=some (.slice A6 n6 c6):=q6
 clear p6 q6
 have p7':w.cell? ⟨b,o+14,none⟩=some (.bool s7):=p7
 have q7':w.cell? ⟨b,o+15,none⟩=some (.slice A7 n7 c7):=q7
 clear p7 q7
 have p8':w.cell? ⟨b,o+16,none⟩=some (.bool s8):=p8
 have q8':w.cell? ⟨b,o+17,none⟩=some (.slice A8 n8 c8):=q8
 clear p8 q8
 have h24:=Bp1s 24
 have h25:=Bp_mono (show 25≤38 by omega)
 have h26:=Bp_pos 24
 simp only [Nat.reduceAdd] at h24
 have t1:Sm (z6*X):=sm_38 (by omega)
 have t2:Sm (z7*Y):=sm_38 (by omega)
 have t3:Sm (z8*D):=sm_38 (by omega)
 have t4:Sm (z6*X+z7*Y):=sm_38 (by omega)
 clear hl hz hv hcp1 h24 h25 h26 hm6 hm7 hm8 hv'
 have hK0:=Bk.new w 166 #[.bool false,.slice none 0 0]
 have hb00:Below w.heap.size w (w.alloc (.cells #[.bool false,.slice none 0 0] 166)):=by go_grown
 have hw0:IntKind.i64.wrap (3*2)=6:=by decide
 have hw0':IntKind.i64.wrap 6=6:=by decide
 have hw1:IntKind.i64.wrap (6+1)=7:=by decide
 have hw1':IntKind.i64.wrap 7=7:=by decide
 have hw2:IntKind.i64.wrap (6+2)=8:=by decide
 have hw2':IntKind.i64.wrap 8=8:=by decide
 go_enter Tryz.func108,Tryz.ntmps108
 go_upto_region 1 with fail
 generalize w.alloc (.cells #[.bool false,.slice none 0 0] 166)=w1 at *
 have hl1:=hK0.lt
 have hbw1:b<w1.heap.size:=by omega
 have d11:=(hb00.cell (p:=⟨b,o+12,none⟩) b2).trans p6'
 have d12:=(hb00.cell (p:=⟨b,o+13,none⟩) b2).trans q6'
 have hE1:=hE6.nx hb00
 go_upto_region 1 with fail
 go_cut [11] (fun p wx=>∃ (g:Nat) (s:Bool) (A:Option Addr) (n c:Nat),p=.pointer (some ⟨g,0,none⟩)∧w1.heap.size≤g∧Bk wx g 166 #[.bool s,.slice A n c]∧BigN w1.heap.size wx (.agg #[.bool s,.slice A n c]) (z6*X)∧Below w1.heap.size w1 wx)
 case first =>
  go_region_held3 (fun w'=>w'.cell? ⟨b,o+12,none⟩=some (.bool s6)∧w'.cell? ⟨b,o+13,none⟩=some (.slice A6 n6 c6)∧Below w1.heap.size w1 w')
   (first
   | exact keepD d11 d12 hbw1 hBb
   | exact keepD d11 d12 hbw1 hBa
   | (refine keepD d11 d12 hbw1 ?_;(first | done|exact Below.alloc hBb hzbb _|exact Below.alloc hBa hzaa _|go_grown)))
   (first
   | (go_at_call 132;(with_reducible refine (of_any X _ hX1 hX2).mono ?_);rintro e wa ⟨va,rfl,hNa,hba⟩;obtain ⟨sa,Aa,na,ca,rfl⟩:=hNa.shape;have hza:=hba.size;have hzaa:w1.heap.size≤wa.heap.size:=Nat.le_trans (by simp) hza;have hBa:Below w1.heap.size w1 wa:=Below.trans (by go_grown) (hba.mono (by simp)))
   | (go_at_call 181;(with_reducible refine (mul_any _ _ _ _ _ (hE1.nx (by first | exact hBa|exact Below.alloc hBa hzaa _)) (hNa.nx (by first | exact Below.refl _ _|go_grown)) hs6 hSX).mono ?_);rintro e wb ⟨vb,rfl,hNb,hbb⟩;obtain ⟨sb,Ab,nb,cb,rfl⟩:=hNb.shape;have hzb:=hbb.size;have hzbb:w1.heap.size≤wb.heap.size:=Nat.le_trans (by first | exact hzaa|(simp;omega)) hzb;have hBb:Below w1.heap.size w1 wb:=Below.trans (by first | exact hBa|exact Below.alloc hBa hzaa _) (hbb.mono (by first | exact hzaa|(simp;omega)));(try (have hK5:Bk wb w1.heap.size 166 #[.bool false,.slice none 0 0]:=((Bk.new w1.drew 166 #[.bool false,.slice none 0 0]).nx hba).nx hbb;obtain ⟨c50,c51⟩:=hK5.cell2;have f50:=hK5.frozen 0;have f51:=hK5.frozen 1));(try (have hK6:=(Bk.new wa 166 #[.bool false,.slice none 0 0]).nx hbb;obtain ⟨c60,c61⟩:=hK6.cell2;have f60:=hK6.frozen 0;have f61:=hK6.frozen 1))))
  ·go_wp2_with fail
   go_meet
   exact ⟨_,_,_,_,_,rfl,hzbb,Bk.new wb _ _,(hNb.alloc _).less hzaa,Below.alloc hBb hzbb _⟩
  ·go_wp2_with fail
   go_meet
   simp only [World.size_alloc] at hzb
   exact ⟨_,_,_,_,_,rfl,hzaa,hK6.set2 _ _,(hNb.grown (gb2 wb _ _ _) (.inl (by simp))).less (by simp;omega),below_of_gb hBb (gb2 wb _ _ _) hzaa hzbb⟩
  ·go_wp2_with fail
   go_meet
   have hza2:w1.heap.size+1≤wa.heap.size:=by simpa using hza
   exact ⟨_,_,_,_,_,rfl,Nat.le_refl _,hK5.set2 _ _,(hNb.grown (gb2 wb _ _ _) (.inl (by omega))).less hzaa,below_of_gb hBb (gb2 wb _ _ _) (Nat.le_refl _) hzbb⟩
 case rest =>
  obtain ⟨g1,sx,Ax,nx,cx,rfl,hg1,hKx,hNx,hBx⟩:=hcut
  clear d11 d12 hE1
  obtain ⟨w2,rfl⟩:∃ w2:World,w2=wc:=⟨_,rfl⟩
  have hb2:=hb00.trans (hBx.mono (by omega))
  have hK02:=hK0.below hBx hl1
  have hzx:=hBx.size
  have hlx:=hKx.lt
  have hbw2:b<w2.heap.size:=by omega
  have d21:=(hb2.cell (p:=⟨b,o+14,none⟩) b2).trans p7'
  have d22:=(hb2.cell (p:=⟨b,o+15,none⟩) b2).trans q7'
  have hE2:=hE7.nx hb2
  go_upto_region 2 with fail
  go_cut [12] (fun p wx=>∃ (g:Nat) (s:Bool) (A:Option Addr) (n c:Nat),p=.pointer (some ⟨g,0,none⟩)∧w2.heap.size≤g∧Bk wx g 166 #[.bool s,.slice A n c]∧BigN w2.heap.size wx (.agg #[.bool s,.slice A n c]) (z7*Y)∧Below w2.heap.size w2 wx)
  case first =>
   go_region_held3 (fun w'=>w'.cell? ⟨b,o+14,none⟩=some (.bool s7)∧w'.cell? ⟨b,o+15,none⟩=some (.slice A7 n7 c7)∧Below w2.heap.size w2 w')
    (first
    | exact keepD d21 d22 hbw2 hBb
    | exact keepD d21 d22 hbw2 hBa
    | (refine keepD d21 d22 hbw2 ?_;(first | done|exact Below.alloc hBb hzbb _|exact Below.alloc hBa hzaa _|go_grown)))
    (first
    | (go_at_call 132;(with_reducible refine (of_any Y _ hY1 hY2).mono ?_);rintro e wa ⟨va,rfl,hNa,hba⟩;obtain ⟨sa,Aa,na,ca,rfl⟩:=hNa.shape;have hza:=hba.size;have hzaa:w2.heap.size≤wa.heap.size:=Nat.le_trans (by simp) hza;have hBa:Below w2.heap.size w2 wa:=Below.trans (by go_grown) (hba.mono (by simp)))
    | (go_at_call 181;(with_reducible refine (mul_any _ _ _ _ _ (hE2.nx (by first | exact hBa|exact Below.alloc hBa hzaa _)) (hNa.nx (by first | exact Below.refl _ _|go_grown)) hs7 hSY).mono ?_);rintro e wb ⟨vb,rfl,hNb,hbb⟩;obtain ⟨sb,Ab,nb,cb,rfl⟩:=hNb.shape;have hzb:=hbb.size;have hzbb:w2.heap.size≤wb.heap.size:=Nat.le_trans (by first | exact hzaa|(simp;omega)) hzb;have hBb:Below w2.heap.size w2 wb:=Below.trans (by first | exact hBa|exact Below.alloc hBa hzaa _) (hbb.mono (by first | exact hzaa|(simp;omega)));(try (have hK5:Bk wb w2.heap.size 166 #[.bool false,.slice none 0 0]:=((Bk.new w2.drew 166 #[.bool false,.slice none 0 0]).nx hba).nx hbb;obtain ⟨c50,c51⟩:=hK5.cell2;have f50:=hK5.frozen 0;have f51:=hK5.frozen 1));(try (have hK6:=(Bk.new wa 166 #[.bool false,.slice none 0 0]).nx hbb;obtain ⟨c60,c61⟩:=hK6.cell2;have f60:=hK6.frozen 0;have f61:=hK6.frozen 1))))
   ·go_wp2_with fail
    go_meet
    exact ⟨_,_,_,_,_,rfl,hzbb,Bk.new wb _ _,(hNb.alloc _).less hzaa,Below.alloc hBb hzbb _⟩
   ·go_wp2_with fail
    go_meet
    simp only [World.size_alloc] at hzb
    exact ⟨_,_,_,_,_,rfl,hzaa,hK6.set2 _ _,(hNb.grown (gb2 wb _ _ _) (.inl (by simp))).less (by simp;omega),below_of_gb hBb (gb2 wb _ _ _) hzaa hzbb⟩
   ·go_wp2_with fail
    go_meet
    have hza2:w2.heap.size+1≤wa.heap.size:=by simpa using hza
    exact ⟨_,_,_,_,_,rfl,Nat.le_refl _,hK5.set2 _ _,(hNb.grown (gb2 wb _ _ _) (.inl (by omega))).less hzaa,below_of_gb hBb (gb2 wb _ _ _) (Nat.le_refl _) hzbb⟩
  case rest =>
   obtain ⟨g2,sy,Ay,ny,cy,rfl,hg2,hKy,hNy,hBy⟩:=hcut
   clear d21 d22 hE2
   obtain ⟨w3,rfl⟩:∃ w3:World,w3=wc:=⟨_,rfl⟩
   have hb3:=hb2.trans (hBy.mono (by omega))
   have hK03:=hK02.below hBy (by omega)
   have hKx3:=hKx.below hBy hlx
   have hNx3:=hNx.nx hBy
   have hzy:=hBy.size
   have hly:=hKy.lt
   have hbw3:b<w3.heap.size:=by omega
   have d31:=(hb3.cell (p:=⟨b,o+16,none⟩) b2).trans p8'
   have d32:=(hb3.cell (p:=⟨b,o+17,none⟩) b2).trans q8'
   have hE3:=hE8.nx hb3
   obtain ⟨x0,x1⟩:=hKx3.cell2
   obtain ⟨y0,y1⟩:=hKy.cell2
   have hG0:w3.grownBy w3.drew (some w.heap.size):=gb_drew (World.grownBy.refl w3 _)
   have hKr0:Bk w3.drew w.heap.size 166 #[.bool false,.slice none 0 0]:=hK03
   have hoffE:=hE8.off (g:=some w.heap.size) (fun k hk=>.inr (by injection hk;omega))
   have hix:w.heap.size<w1.heap.size:=hl1
   have hiy:w.heap.size<w2.heap.size:=by omega
   have C:=And.intro (And.intro x0 x1) (And.intro (And.intro y0 y1) (And.intro d31 d32))
   have hn1:g1<w3.heap.size∧g1≠w.heap.size:=by omega
   have hn2:g2<w3.heap.size∧g2≠w.heap.size:=by omega
   have hn3:b<w3.heap.size∧b≠w.heap.size:=by omega
   go_wp2_with fail
   go_region_held3 (fun w'=>((w'.cell? ⟨g1,0,none⟩=some (.bool sx)∧w'.cell? ⟨g1,1,none⟩=some (.slice Ax nx cx))∧(w'.cell? ⟨g2,0,none⟩=some (.bool sy)∧w'.cell? ⟨g2,1,none⟩=some (.slice Ay ny cy)) ∧
    (w'.cell? ⟨b,o+16,none⟩=some (.bool s8)∧w'.cell? ⟨b,o+17,none⟩=some (.slice A8 n8 c8)))∧w3.grownBy w' (some w.heap.size))
    (first
    | exact keepG C hn1 hn2 hn3 hG0
    | exact keepG C hn1 hn2 hn3 hG1
    | exact keepG C hn1 hn2 hn3 hG2
    | exact keepG C hn1 hn2 hn3 hG3
    | exact keepG C hn1 hn2 hn3 hG4
    | exact keepG C hn1 hn2 hn3 (gb_trans hG4 (gb2 _ _ _ _) (fun g hg=>.inl hg.symm))
    | exact keepG C hn1 hn2 hn3 (gb_trans hG4 (gb2 _ _ _ _) (fun g hg=>.inl hg))
    | exact keepG C hn1 hn2 hn3 (World.grownBy.refl _ _))
    (first
    | (go_at_call 184;(with_reducible refine (add_any (lo:=w1.heap.size) (lo':=w2.heap.size) _ _ (z6*X) (z7*Y) _ (hNx3.grown (by first | exact hG0|exact hG1|exact hG2) (.inl hix)) (hNy.grown (by first | exact hG0|exact hG1|exact hG2) (.inl hiy)) t1 t2).mono ?_);rintro e wp ⟨vp,rfl,hNp,hbp⟩;obtain ⟨sp,Ap,np,cp1,rfl⟩:=hNp.shape;have hG3:w3.grownBy wp (some w.heap.size):=gb_nx (by first | exact hG0|exact hG1|exact hG2) hbp;have hKp:Bk wp w.heap.size 166 #[.bool false,.slice none 0 0]:=Bk.nx (by first | exact hKr0|exact hKo|exact hKm) hbp)
    | (go_at_call 132;(with_reducible refine (of_any D _ hD1 hD2).mono ?_);rintro e wo ⟨vo,rfl,hNo,hbo⟩;obtain ⟨so,Ao,no,co,rfl⟩:=hNo.shape;have hG1:w3.grownBy wo (some w.heap.size):=gb_nx (by first | exact hG0|exact hG3) hbo;have hKo:Bk wo w.heap.size 166 #[.bool false,.slice none 0 0]:=Bk.nx (by first | exact hKr0|exact hKp) hbo)
    | (go_at_call 181;(with_reducible refine (mul_any (lo:=lo) (lo':=0) _ _ z8 D _ (hE3.kept hoffE (by first | exact hG1|exact hG3)) (by first | exact hNo.any|exact (hNo.nx hbp).any) hs8 hSD).mono ?_);rintro e wm ⟨vm,rfl,hNm,hbm⟩;obtain ⟨sm,Am,nm,cm,rfl⟩:=hNm.shape;have hG2:w3.grownBy wm (some w.heap.size):=gb_nx (by first | exact hG1|exact hG3) hbm;have hKm:Bk wm w.heap.size 166 #[.bool false,.slice none 0 0]:=Bk.nx (by first | exact hKo|exact hKp) hbm)
    | (go_at_call 184;(with_reducible refine (add_any (lo:=0) (lo':=0) _ _ (z6*X+z7*Y) (z8*D) _ (by first | exact hNp.any|exact (hNp.nx hbm).any|exact ((hNp.nx hbo).nx hbm).any) (by first | exact hNm.any|exact (hNm.nx hbp).any) t4 t3).mono ?_);rintro e wd ⟨vd,rfl,hNd,hbd⟩;obtain ⟨sd,Ad,nd,cd,rfl⟩:=hNd.shape;have hG4:w3.grownBy wd (some w.heap.size):=gb_nx (by first | exact hG2|exact hG3) hbd;have hKd:Bk wd w.heap.size 166 #[.bool false,.slice none 0 0]:=Bk.nx (by first | exact hKm|exact hKp) hbd;obtain ⟨u0,u1⟩:=hKd.cell2;have f0:=hKd.frozen 0;have f1:=hKd.frozen 1))
   all_goals
    go_wp2_with fail
    refine bodyPost_ret (res_big rfl (hKd.set2 _ _) rfl) rfl ?_
    rw [HU.out]
    have hbz:=below_of_gb hb3 hG4 (Nat.le_refl _) hb3.size
    exact ⟨_,rfl,(hNd.grown (gb2 wd _ _ _) (.inl (by first | exact hKm.lt|exact hKp.lt))).less (by first | exact Nat.le_of_lt hKm.lt|exact Nat.le_of_lt hKp.lt),below_of_gb hbz (gb2 wd _ _ _) (Nat.le_refl _) hbz.size⟩
end Go.Proofs.YtjbelhpgbcnlmaaGreat
end
section
set_option linter.unusedVariables false
namespace Go.Proofs.YtjbelhpgbcnlmaaGreat
open Go.RowKit
theorem undZ_lt {es:List Int} (h:∀ k,Ea (es.getD k 0)) (r:Nat) {X Y D:Int} (hX:I64 X) (hY:I64 Y) (hD:I64 D):((undZ es r X Y D).natAbs:Int)<Bp 25:=by
 have h1:=ea_mul (h (3*r)) hX
 have h2:=ea_mul (h (3*r+1)) hY
 have h3:=ea_mul (h (3*r+2)) hD
 have h4:=Bp1s 24
 have h5:=Bp_pos 24
 simp only [Nat.reduceAdd] at h4
 unfold undZ
 omega
theorem adj_ea {zs:List Int} (h:∀ k,En (zs.getD k 0)) (k:Nat):Ea ((adjZ zs).getD k 0):=by
 unfold adjZ adjP
 rcases Nat.lt_or_ge k 9 with hk|hk
 ·rw [List.getD_eq_getElem?_getD,List.getElem?_map,List.getElem?_range hk]
  exact adjE_lt h _ _
 ·rw [List.getD_eq_getElem?_getD,List.getElem?_eq_none (by simp;omega)]
  exact Bp_pos 19
def atZ (ms:List Int) (X Y D:Int):Option (Int × Int) :=
 if undZ (adjZ ms) 2 X Y D=0 then none
 else some (cutZ (flo (undZ (adjZ ms) 0 X Y D*65536) (undZ (adjZ ms) 2 X Y D)),cutZ (flo (undZ (adjZ ms) 1 X Y D*65536) (undZ (adjZ ms) 2 X Y D)))
def atV:Option (Int × Int)→Value
 | none=>.tuple #[.int .i64 0,.int .i64 0,.bool false]
 | some (x,y)=>.tuple #[.int .i64 x,.int .i64 y,.bool true]
set_option maxRecDepth 100000 in
set_option maxHeartbeats 2000000 in
theorem at_any (A:Option Addr) (c:Nat) (ms:List Int) (X Y D:Int) (w:World) {B:Nat} (hl:ms.length=9) (hr:Rd w B A (ms.map (Value.int .i64))) (hB:B≤w.heap.size) (hok:∀ z∈ms,-4611686018427387904≤z∧z≤4611686018427387904) (hX:I64 X) (hY:I64 Y) (hD:I64 D) :
 Calls Tryz.prog 115 #[.slice A 9 c,.int .i64 X,.int .i64 Y,.int .i64 D] w fun e w'=>e=.returned (atV (atZ ms X Y D))∧Below w.heap.size w w':=by
 have hen:∀ k,En (ms.getD k 0):=fun k=>by
  have h9:=Bp_mono (show 5≤9 by omega)
  have h5:=Bp5
  refine getD_all (P:=En) (fun z hz=>?_) en_zero k
  have:=hok z hz
  show (z.natAbs:Int)<Bp 9
  omega
 have hea:=adj_ea hen
 have hu0:=undZ_lt hea 0 hX hY hD
 have hu1:=undZ_lt hea 1 hX hY hD
 have hu2:=undZ_lt hea 2 hX hY hD
 have HAT:=Lib.hid (show atZ ms X Y D=(if undZ (adjZ ms) 2 X Y D=0 then none else some (cutZ (flo (undZ (adjZ ms) 0 X Y D*65536) (undZ (adjZ ms) 2 X Y D)),cutZ (flo (undZ (adjZ ms) 1 X Y D*65536) (undZ (adjZ ms) 2 X Y D)))) from rfl)
 have h25:=Bp_mono (show 25≤38 by omega)
 have hs2:=sm_38 (show ((undZ (adjZ ms) 2 X Y D).natAbs:Int)<Bp 38 by omega)
 have hok2:∀ z∈ms,-9223372036854775808≤z∧z≤9223372036854775807:=fun z hz=>by have:=hok z hz;omega
 have HOK:=Lib.hid hok2
 have HEN:=Lib.hid hen
 have HEA:=Lib.hid hea
 have HL:=Lib.hid hl
 have hal:(adjZ ms).length=9:=adjP_len ms 9
 have HAL:=Lib.hid hal
 have b0:=Lib.hid (show ((undZ (adjZ ms) 0 X Y D).natAbs:Int)<Bp 38 by omega)
 have b1:=Lib.hid (show ((undZ (adjZ ms) 1 X Y D).natAbs:Int)<Bp 38 by omega)
 have b2:=Lib.hid (show ((undZ (adjZ ms) 2 X Y D).natAbs:Int)<Bp 38 by omega)
 clear hok hok2 hen hea hl hal h25 hu0 hu1 hu2
 go_enter Tryz.func115,Tryz.ntmps115
 go_wp2_with fail
 refine (bigs_of A 9 c ms _ HL.out (by omega) hr hB HOK.out).mono ?_
 rintro e w1 ⟨v1,rfl,hB1,hb1⟩
 go_wp2_with fail
 refine (adj_any v1 ms _ hB1 HL.out HEN.out).mono ?_
 rintro e w2 ⟨v2,rfl,hB2,hb2⟩
 have hz1:=hb1.size
 have hz2:=hb2.size
 have hbz2:=hb1.trans (hb2.mono hz1)
 obtain ⟨A2,c2,rfl,_,_⟩:=hB2.form
 rw [HAL.out]
 have hB2':=hB2
 rw [HAL.out] at hB2'
 go_wp2_with fail
 refine (under2_any _ (adjZ ms) X Y D _ hB2' HAL.out HEA.out hX hY hD).mono ?_
 rintro e w3 ⟨v3,rfl,hN3,hb3⟩
 obtain ⟨s3,A3,n3,c3,rfl⟩:=hN3.shape
 have hz3:=hb3.size
 have hbz3:=hbz2.trans (hb3.mono (by omega))
 have hK3:=Bk.new w3 166 #[.bool s3,.slice A3 n3 c3]
 have hN3a:=hN3.alloc (.cells #[.bool s3,.slice A3 n3 c3] 166)
 have hbz4:=hbz3.alloc (by omega) (.cells #[.bool s3,.slice A3 n3 c3] 166)
 have hb3a:=hb3.alloc hz3 (.cells #[.bool s3,.slice A3 n3 c3] 166)
 have hlk:=hK3.lt
 go_wp2_with (first
  | (refine ldBig rfl _ rfl hK3 rfl ?_)
  | (go_at_call 105;(with_reducible refine (sign_any _ _ _ hN3a hs2).mono ?_);rintro e w4 ⟨rfl,hb4⟩;have hz4:=hb4.size))
 ·rename_i hz0
  have hz9:=(cmp_zero _ _).1 (by simpa using hz0)
  have hat:atZ ms X Y D=none:=by rw [HAT.out,if_pos hz9]
  go_returns
  exact ⟨by rw [hat];rfl,hbz4.trans (hb4.mono (by omega))⟩
 ·have hz0:(cmpI (undZ (adjZ ms) 2 X Y D) 0==0)=false:=by first | assumption|(simp;assumption)
  have hz9:undZ (adjZ ms) 2 X Y D≠0:=fun h=>by rw [(cmp_zero _ _).2 h] at hz0;simp at hz0
  have HZ9:=Lib.hid hz9
  have hat:=HAT.out
  rw [if_neg hz9] at hat
  have HAT2:=Lib.hid hat
  clear hat hz9 hz0 HAT
  have hb34:=hb3a.trans (hb4.mono (by omega))
  have hBd:Bigs w1.heap.size w4.drew (.slice A2 9 c2) (adjZ ms):=(hB2'.nx hb34).drew
  have hKd:Bk w4.drew w3.heap.size 166 #[.bool s3,.slice A3 n3 c3]:=(hK3.nx hb4).drew
  have hNd:=(hN3a.nx hb4).drew
  have hbz5:Below w.heap.size w w4.drew:=(hbz4.trans (hb4.mono (by omega))).drew
  have hld:=hKd.lt
  obtain ⟨d0,d1⟩:=hKd.cell2
  generalize undZ (adjZ ms) 2 X Y D=U2 at *
  have HU0:=Lib.hid (under0_any (.slice A2 9 c2) (adjZ ms) X Y D w4.drew hBd HAL.out HEA.out hX hY hD)
  have hu1:∀ W,Below w4.drew.heap.size w4.drew W→Calls Tryz.prog 108 #[.slice A2 9 c2,.int .i64 1,.int .i64 X,.int .i64 Y,.int .i64 D] W fun e w'=>∃ u,e=.returned u∧BigN W.heap.size w' u (undZ (adjZ ms) 1 X Y D)∧Below W.heap.size W w' :=
   fun W hW=>under1_any (.slice A2 9 c2) (adjZ ms) X Y D W (hBd.nx hW) HAL.out HEA.out hX hY hD
  have HU1:=Lib.hid hu1
  clear hu1 hB2' hB2 hBd
  generalize undZ (adjZ ms) 0 X Y D=U0 at *
  generalize undZ (adjZ ms) 1 X Y D=U1 at *
  go_region_held3 (fun w'=>w'.cell? ⟨w3.heap.size,0,none⟩=some (.bool s3)∧w'.cell? ⟨w3.heap.size,1,none⟩=some (.slice A3 n3 c3))
   (first | exact ⟨d0,d1⟩|exact ⟨p0,p1⟩|exact ⟨q0,q1⟩|exact ⟨r0,r1⟩|exact ⟨t0,t1⟩|(refine ⟨?_,?_⟩ <;> go_simp))
   (first
   | (go_at_call 108;(with_reducible refine (HU0.out).mono ?_);rintro e wa ⟨va,rfl,hNa,hba⟩;obtain ⟨sa,Aa,na,ca,rfl⟩:=hNa.shape;have hKa:=hKd.nx hba;obtain ⟨p0,p1⟩:=hKa.cell2;have hza:=hba.size)
   | (go_at_call 189;(with_reducible refine (place_any _ _ U0 U2 _ hNa (hNd.nx hba) HZ9.out b0.out b2.out).mono ?_);rintro e wb ⟨rfl,hbb⟩;have hKb:=hKa.nx hbb;obtain ⟨q0,q1⟩:=hKb.cell2;have hzb:=hbb.size)
   | (go_at_call 108;(with_reducible refine (HU1.out _ (hba.trans (hbb.mono hza))).mono ?_);rintro e wc ⟨vc,rfl,hNc,hbc⟩;obtain ⟨sc,Ac,nc,cc,rfl⟩:=hNc.shape;have hKc:=hKb.nx hbc;obtain ⟨r0,r1⟩:=hKc.cell2;have hzc:=hbc.size)
   | (go_at_call 189;(with_reducible refine (place_any _ _ U1 U2 _ hNc (((hNd.nx hba).nx hbb).nx hbc) HZ9.out b1.out b2.out).mono ?_);rintro e wd ⟨rfl,hbd⟩;have hKd':=hKc.nx hbd;obtain ⟨t0,t1⟩:=hKd'.cell2))
  go_wp2_with fail
  go_returns
  exact ⟨by rw [HAT2.out];rfl,(((hbz5.trans (hba.mono (by omega))).trans (hbb.mono (by omega))).trans (hbc.mono (by omega))).trans (hbd.mono (by omega))⟩
end Go.Proofs.YtjbelhpgbcnlmaaGreat
end
section
set_option linter.unusedVariables false
namespace Go.Proofs.YtjbelhpgbcnlmaaGreat
open Go.RowKit
def capL:List Int:=[16777216,16777216,2147483648,16777216,16777216,2147483648,4096,4096,16777216]
def capCells:Array Value:=#[.int .i64 16777216,.int .i64 16777216,.int .i64 2147483648,.int .i64 16777216,.int .i64 16777216,.int .i64 2147483648,.int .i64 4096,.int .i64 4096,.int .i64 16777216]
def InCap (ms:List Int) (k:Nat):Prop:=-(capL.getD k 0)≤ms.getD k 0∧ms.getD k 0≤capL.getD k 0
instance (ms:List Int) (k:Nat):Decidable (InCap ms k):=inferInstanceAs (Decidable (_∧_))
def allIn (ms:List Int):Bool:=(List.range 9).all (fun k=>decide (InCap ms k))
def corX (w:Int) (k:Nat):Int:=if k%2=1 then 2*w-1 else -1
def corY (h:Int) (k:Nat):Int:=if k/2=1 then 2*h-1 else -1
def sgnS (es:List Int) (w h:Int):Nat→Int
 | 0=>0
 | k+1=>sgnS es w h k+cmpI (undZ es 2 (corX w k) (corY h k) 2) 0
def chkZ (ms:List Int) (w h:Int):Int :=
 if ms.length≠9 then 12 else if allIn ms=false then 11 else if w<1∨32768<w∨h<1∨32768<h then 30 else if detZ ms=0 then 40
 else if sgnS (adjZ ms) w h 4=4∨sgnS (adjZ ms) w h 4=-4 then 0 else 41
theorem capL_ok (k:Nat) (h:k<9):4096≤capL.getD k 0∧capL.getD k 0≤2147483648:=by
 have:k=0∨k=1∨k=2∨k=3∨k=4∨k=5∨k=6∨k=7∨k=8:=by omega
 rcases this with rfl|rfl|rfl|rfl|rfl|rfl|rfl|rfl|rfl <;> decide
theorem capCells_get (k:Nat) (h:k<9):capCells[k]?=some (.int .i64 (capL.getD k 0)):=by
 have:k=0∨k=1∨k=2∨k=3∨k=4∨k=5∨k=6∨k=7∨k=8:=by omega
 rcases this with rfl|rfl|rfl|rfl|rfl|rfl|rfl|rfl|rfl <;> rfl
set_option maxHeartbeats 400000 in
theorem In18_any (a b:Int) (w:World) (hb0:0≤b) (hb:b≤9223372036854775807) :
 Calls Tryz.prog 102 #[.int .i64 a,.int .i64 b] w fun e w'=>e=.returned (.bool (decide (-b≤a)&&decide (a≤b)))∧w'=w:=by
 by_cases h1:-b≤a
 all_goals
  go_enter Tryz.func102,Tryz.ntmps102
  go_wp2
  go_ret
  exact ⟨ret_bool (by simp [h1] <;> omega),rfl⟩
theorem In18_yes (a b:Int) (w:World) (hb0:0≤b) (hb:b≤9223372036854775807) (h:-b≤a∧a≤b) :
 Calls Tryz.prog 102 #[.int .i64 a,.int .i64 b] w fun e w'=>e=.returned (.bool true)∧w'=w :=
 (In18_any a b w hb0 hb).mono fun e w' ⟨h1,h2⟩=>⟨by rw [h1];simp [h],h2⟩
theorem In18_no (a b:Int) (w:World) (hb0:0≤b) (hb:b≤9223372036854775807) (h:¬(-b≤a∧a≤b)) :
 Calls Tryz.prog 102 #[.int .i64 a,.int .i64 b] w fun e w'=>e=.returned (.bool false)∧w'=w :=
 (In18_any a b w hb0 hb).mono fun e w' ⟨h1,h2⟩=>⟨by rw [h1];simp;omega,h2⟩
theorem allIn_iff (ms:List Int):allIn ms=true ↔ ∀ k,k<9→InCap ms k:=by simp [allIn]
end Go.Proofs.YtjbelhpgbcnlmaaGreat
end
section
set_option linter.unusedVariables false
namespace Go.Proofs.YtjbelhpgbcnlmaaGreat
open Go.RowKit
theorem sg_fin {es:List Int} {W H sk u:Int} {k:Nat} (HS:sgnS es W H (k+1)=sk+cmpI u 0) (h1:-(k:Int)≤sk) (h2:sk≤k) (hk:k<4):Value.int .i64 (wrap64 (sk+cmpI u 0))=.int .i64 (sgnS es W H (k+1))∧-((k+1:Nat):Int)≤sgnS es W H (k+1)∧sgnS es W H (k+1)≤((k+1:Nat):Int):=by
 have hc:-1≤cmpI u 0∧cmpI u 0≤1:=by unfold cmpI;split <;> (try split) <;> omega
 refine ⟨?_,by omega,by omega⟩
 rw [HS,IntWalk.wrap64_in _ ⟨by omega,by omega⟩]
set_option maxRecDepth 100000 in
set_option maxHeartbeats 2000000 in
theorem chk_any (A:Option Addr) (n c:Nat) (ms:List Int) (W H:Int) (w:World) {B:Nat} (hl:ms.length=n) (hr:Rd w B A (ms.map (Value.int .i64))) (hB:B≤w.heap.size) (hok:∀ z∈ms,I64 z) (hW:I64 W) (hH:I64 H) :
 Calls Tryz.prog 51 #[.slice A n c,.int .i64 W,.int .i64 H] w fun e w'=>e=.returned (.int .i64 (chkZ ms W H))∧Below w.heap.size w w':=by
 have HL:=Lib.hid hl
 by_cases h9:n=9
 ·subst h9
  have hokk:∀ k,I64 (ms.getD k 0):=getD_all hok (by unfold I64;omega)
  have HOK:=Lib.hid hokk
  have HOKM:Hid (∀ z∈ms,-9223372036854775808≤z∧z≤9223372036854775807):=hok
  clear hok hokk hl
  go_enter Tryz.func51,Tryz.ntmps51
  go_wp2_with fail
  have hKc:=Bk.new w 2 capCells
  have hb0:Below w.heap.size w (w.alloc (.cells capCells 2)):=by go_grown
  have hzw:w.heap.size<(w.alloc (.cells capCells 2)).heap.size:=by simp
  go_loopw [8] (fun kv wr=>∃ k:Nat,k≤9∧kv=.int .i64 k∧(∀ i,i<k→InCap ms i)∧Bk wr w.heap.size 2 capCells∧Below w.heap.size w wr) (fun kv _=>9-(intOf kv).toNat)
  case atStart=>exact ⟨0,by omega,rfl,fun i hi=>absurd hi (by omega),hKc,hb0⟩
  case round =>
   obtain ⟨k,hk,rfl,hin,hK,hb⟩:=hrel
   have HIN:=Lib.hid hin
   clear hin
   rcases Nat.lt_or_ge k 9 with hlt|hge
   ·have hk3:(k:Int)<9:=by omega
    have hcap:=capL_ok k hlt
    obtain ⟨b,o,rfl,hb1,hc1⟩:=(hr.below' hb hB).get k (by simp [HL.out];omega)
    have hc1':wr.cell? ⟨b,o+k,none⟩=some (.int .i64 (ms.getD k 0)):=by
     rw [hc1,List.getElem_map]
     simp [HL.out,hlt]
    have hc2:wr.cell? ⟨w.heap.size,k,none⟩=some (.int .i64 (capL.getD k 0)):=by rw [hK.cell,capCells_get k hlt]
    clear hc1
    have hd:Hid (InCap ms k ↔ -(capL.getD k 0)≤ms.getD k 0∧ms.getD k 0≤capL.getD k 0):=Iff.rfl
    generalize hmk:ms.getD k 0=mk at *
    generalize hck:capL.getD k 0=ck at *
    clear hmk hck
    by_cases hi:-ck≤mk∧mk≤ck
    ·go_wp2_with fail
     go_quiet ((go_at_call 102;exact Calls.quiet_of_same (In18_yes mk ck _ (by omega) (by omega) hi)))
     go_wp2_with fail
     have hin2:∀ i,i<k+1→InCap ms i:=fun i hi2=>by
      rcases Nat.lt_or_ge i k with h|h
      ·exact HIN.out i h
      ·obtain rfl:i=k:=by omega
       exact hd.out.2 hi
     exact ⟨⟨k+1,by omega,by go_num,hin2,hK.drewN nq,below_drewN hb nq⟩,by simp only [intOf];omega⟩
    ·have hch:chkZ ms W H=11:=by
      have hf:allIn ms=false:=by
       rcases hb:allIn ms with _|_
       ·rfl
       ·exact absurd (hd.out.1 ((allIn_iff ms).1 hb k hlt)) hi
      unfold chkZ
      rw [if_neg (by rw [HL.out];simp),if_pos hf]
     have HCH:=Lib.hid hch
     clear hch
     go_wp2_with fail
     go_quiet ((go_at_call 102;exact Calls.quiet_of_same (In18_no mk ck _ (by omega) (by omega) hi)))
     go_wp2_with fail
     go_returns
     exact ⟨ret_int HCH.out.symm,below_drewN hb nq⟩
   ·obtain rfl:k=9:=by omega
    have hall:=(allIn_iff ms).2 HIN.out
    have HALL:=Lib.hid hall
    clear hall
    have hdim:(W<1∨32768<W∨H<1∨32768<H)∨(1≤W∧W≤32768∧1≤H∧H≤32768):=by omega
    rcases hdim with hdim|hdim
    ·have hch:chkZ ms W H=30:=by
      unfold chkZ
      rw [if_neg (by rw [HL.out];simp),if_neg (by rw [HALL.out];simp),if_pos hdim]
     have HCH:=Lib.hid hch
     clear hch
     have hd2:W<1∨(1≤W∧32768<W)∨(1≤W∧W≤32768∧H<1)∨(1≤W∧W≤32768∧1≤H∧32768<H):=by omega
     clear hdim
     rcases hd2 with h1|⟨h1,h2⟩|⟨h1,h2,h3⟩|⟨h1,h2,h3,h4⟩
     all_goals
      go_wp2_with fail
      go_returns
      exact ⟨ret_int HCH.out.symm,hb⟩
    ·obtain ⟨h1,h2,h3,h4⟩:=hdim
     have hen:∀ k,En (ms.getD k 0):=fun k=>by
      rcases Nat.lt_or_ge k 9 with hk9|hk9
      ·have q1:=(allIn_iff ms).1 HALL.out k hk9
       have q2:=capL_ok k hk9
       have q3:=Bp_mono (show 5≤9 by omega)
       have q4:=Bp5
       obtain ⟨q5,q6⟩:=q1
       show ((ms.getD k 0).natAbs:Int)<Bp 9
       omega
      ·rw [List.getD_eq_getElem?_getD,List.getElem?_eq_none (by rw [HL.out];omega)]
       exact en_zero
     have hea:=adj_ea hen
     have hok2:∀ z∈ms,-9223372036854775808≤z∧z≤9223372036854775807:=HOKM.out
     have HOK2:=Lib.hid hok2
     have HEN:=Lib.hid hen
     have HEA:=Lib.hid hea
     have hdl:=detSB_lt hen 3
     have hsd:Sm (detZ ms):=sm_38 (by
      have q1:=Bp_mono (show 29≤38 by omega)
      have q2:=Bp1s 28
      have q3:=Bp_pos 28
      simp only [Nat.reduceAdd] at q2
      show ((detSB ms 3).natAbs:Int)<Bp 38
      omega)
     have HAL:=Lib.hid (show (adjZ ms).length=9 from adjP_len ms 9)
     have hch:chkZ ms W H=if detZ ms=0 then 40 else if sgnS (adjZ ms) W H 4=4∨sgnS (adjZ ms) W H 4=-4 then 0 else 41:=by
      unfold chkZ
      rw [if_neg (by rw [HL.out];simp),if_neg (by rw [HALL.out];simp),if_neg (by omega)]
     have HCH:=Lib.hid hch
     have hrw:Rd wr B A (ms.map (Value.int .i64)):=hr.below' hb hB
     have hBw:B≤wr.heap.size:=Nat.le_trans hB hb.size
     clear hch hok2 hen hea hdl
     go_wp2_with fail
     refine (bigs_of A 9 c ms _ HL.out (by omega) hrw hBw HOK2.out).mono ?_
     rintro e w1 ⟨v1,rfl,hB1,hb1⟩
     have hz0:=hb.size
     have hz1:=hb1.size
     have hbz1:=hb.trans (hb1.mono hz0)
     go_wp2_with fail
     refine (det_any v1 ms _ hB1 HL.out HEN.out).mono ?_
     rintro e w2 ⟨v2,rfl,hN2,hb2⟩
     have hz2:=hb2.size
     have hbz2:=hbz1.trans (hb2.mono (by omega))
     go_wp2_with fail
     refine (sign_any _ _ _ hN2 hsd).mono ?_
     rintro e w3 ⟨rfl,hb3⟩
     have hz3:=hb3.size
     have hbz3:=hbz2.trans (hb3.mono (by omega))
     by_cases hdz:detZ ms=0
     ·have hdc:(cmpI (detZ ms) 0==0)=true:=by rw [(cmp_zero _ _).2 hdz];rfl
      have hch:=HCH.out
      rw [if_pos hdz] at hch
      have HCH2:=Lib.hid hch
      clear hch hdz
      go_wp2_with fail
      go_returns
      exact ⟨ret_int HCH2.out.symm,hbz3⟩
     ·have hdc:(cmpI (detZ ms) 0==0)=false:=by
       have:cmpI (detZ ms) 0≠0:=fun h=>hdz ((cmp_zero _ _).1 h)
       simpa using this
      have hch:=HCH.out
      rw [if_neg hdz] at hch
      have HCH2:=Lib.hid hch
      clear hch hdz
      go_wp2_with fail
      refine (adj_any v1 ms _ ((hB1.nx hb2).nx hb3) HL.out HEN.out).mono ?_
      rintro e w4 ⟨v4,rfl,hB4,hb4⟩
      have hz4:=hb4.size
      have hbz4:=hbz3.trans (hb4.mono (by omega))
      obtain ⟨A4,c4,rfl,_,_⟩:=hB4.form
      rw [HAL.out]
      have hB4':=hB4
      rw [HAL.out] at hB4'
      clear hB4
      clear hB1 hN2 hb1 hb2 hb3 hb4 hK hb
      go_wp2_with fail
      go_loopw [11,12] (fun sv kv wr=>∃ k:Nat,k≤4∧kv=.int .i64 k∧sv=.int .i64 (sgnS (adjZ ms) W H k)∧-k≤sgnS (adjZ ms) W H k∧sgnS (adjZ ms) W H k≤k∧Below w4.heap.size w4 wr) (fun _ kv _=>4-(intOf kv).toNat)
      case atStart=>exact ⟨0,by omega,rfl,rfl,by simp [sgnS],by simp [sgnS],Below.refl _ _⟩
      case round =>
       obtain ⟨k,hk,rfl,rfl,hs1,hs2,hb⟩:=hrel
       rcases Nat.lt_or_ge k 4 with hlt|hge
       ·have hk4:k=0∨k=1∨k=2∨k=3:=by omega
        have HS:=Lib.hid (show sgnS (adjZ ms) W H (k+1)=sgnS (adjZ ms) W H k+cmpI (undZ (adjZ ms) 2 (corX W k) (corY H k) 2) 0 from rfl)
        generalize sgnS (adjZ ms) W H k=sk at *
        have hBk:=hB4'.nx hb
        have hzk:=hb.size
        rcases hk4 with rfl|rfl|rfl|rfl
        all_goals
         first
         | rw [show corX W (0:Nat)=-1 from rfl,show corY H (0:Nat)=-1 from rfl] at HS
         | rw [show corX W (1:Nat)=2*W-1 from rfl,show corY H (1:Nat)=-1 from rfl] at HS
         | rw [show corX W (2:Nat)=-1 from rfl,show corY H (2:Nat)=2*H-1 from rfl] at HS
         | rw [show corX W (3:Nat)=2*W-1 from rfl,show corY H (3:Nat)=2*H-1 from rfl] at HS
         have hXX:I64 (-1)∧I64 (2*W-1)∧I64 (2*H-1)∧I64 2:=by unfold I64;omega
         have HXX:=Lib.hid hXX
         clear hXX
         go_wp2_with (first
          | (go_at_call 108;go_loud (with_reducible refine (under2_any _ (adjZ ms) _ _ _ _ hBk HAL.out HEA.out (by first | exact HXX.out.1|exact HXX.out.2.1) (by first | exact HXX.out.1|exact HXX.out.2.2.1) HXX.out.2.2.2).mono ?_);rintro e wu ⟨vu,rfl,hNu,hbu⟩;have hzu:=hbu.size)
          | (go_at_call 105;(with_reducible refine (sign_any _ _ _ hNu (sm_38 (Int.lt_of_lt_of_le (undZ_lt HEA.out 2 (by first | exact HXX.out.1|exact HXX.out.2.1) (by first | exact HXX.out.1|exact HXX.out.2.2.1) HXX.out.2.2.2) (Bp_mono (by omega))))).mono ?_);rintro e wv ⟨rfl,hbv⟩))
        all_goals first
         | exact ⟨⟨0+1,by omega,rfl,(sg_fin HS.out hs1 hs2 (by omega)).1,(sg_fin HS.out hs1 hs2 (by omega)).2.1,(sg_fin HS.out hs1 hs2 (by omega)).2.2,(hb.trans (hbu.mono hzk)).trans (hbv.mono (by omega))⟩,by simp [intOf]⟩
         | exact ⟨⟨1+1,by omega,rfl,(sg_fin HS.out hs1 hs2 (by omega)).1,(sg_fin HS.out hs1 hs2 (by omega)).2.1,(sg_fin HS.out hs1 hs2 (by omega)).2.2,(hb.trans (hbu.mono hzk)).trans (hbv.mono (by omega))⟩,by simp [intOf]⟩
         | exact ⟨⟨2+1,by omega,rfl,(sg_fin HS.out hs1 hs2 (by omega)).1,(sg_fin HS.out hs1 hs2 (by omega)).2.1,(sg_fin HS.out hs1 hs2 (by omega)).2.2,(hb.trans (hbu.mono hzk)).trans (hbv.mono (by omega))⟩,by simp [intOf]⟩
         | exact ⟨⟨3+1,by omega,rfl,(sg_fin HS.out hs1 hs2 (by omega)).1,(sg_fin HS.out hs1 hs2 (by omega)).2.1,(sg_fin HS.out hs1 hs2 (by omega)).2.2,(hb.trans (hbu.mono hzk)).trans (hbv.mono (by omega))⟩,by simp [intOf]⟩
       ·obtain rfl:k=4:=by omega
        have hbe:=hbz4.trans (hb.mono hbz4.size)
        by_cases e4:sgnS (adjZ ms) W H 4=4
        ·have HCH3:Hid (chkZ ms W H=0):=by show _=_;rw [HCH2.out,if_pos (.inl e4)]
         rw [e4]
         clear e4
         go_wp2_with fail
         go_returns
         exact ⟨ret_int HCH3.out.symm,hbe⟩
        ·by_cases e5:sgnS (adjZ ms) W H 4=-4
         ·have HCH3:Hid (chkZ ms W H=0):=by show _=_;rw [HCH2.out,if_pos (.inr e5)]
          rw [e5]
          clear e4 e5
          go_wp2_with fail
          go_returns
          exact ⟨ret_int HCH3.out.symm,hbe⟩
         ·have HCH3:Hid (chkZ ms W H=41):=by show _=_;rw [HCH2.out,if_neg (by rintro (h|h) <;> contradiction)]
          have n4:(sgnS (adjZ ms) W H 4 != 4)=true:=by simpa using e4
          have n5:(sgnS (adjZ ms) W H 4 != -4)=true:=by simpa using e5
          clear e4 e5 HCH2 HCH
          generalize sgnS (adjZ ms) W H 4=s4 at *
          go_wp2_with fail
          go_returns
          exact ⟨ret_int HCH3.out.symm,hbe⟩
 ·have hch:chkZ ms W H=12:=by unfold chkZ;rw [if_pos (by rw [hl];exact h9)]
  have h9':((n:Int) != 9)=true:=by simp;omega
  clear hl
  go_enter Tryz.func51,Tryz.ntmps51
  go_wp2_with fail
  go_returns
  exact ⟨ret_int hch.symm,Below.refl _ _⟩
end Go.Proofs.YtjbelhpgbcnlmaaGreat
end
section
set_option linter.unusedVariables false
namespace Go.Proofs.YtjbelhpgbcnlmaaGreat
open Go.RowKit
theorem flo_fq (x y:Int):flo x y=fq x y:=by
 unfold flo fq
 by_cases h:0<y
 ·rw [if_pos h,if_neg (by omega)]
 ·by_cases h2:y<0
  ·rw [if_neg h,if_pos h2]
  ·obtain rfl:y=0:=by omega
   simp
theorem cut_eq (z:Int):cutZ z=cutF z:=by
 unfold cutZ cutF
 rw [show lim=70368744177664 from rfl]
 split <;> split <;> omega
theorem plc_eq (x y:Int):cutZ (flo (x*65536) y)=plc x y:=by rw [flo_fq,cut_eq];rfl
theorem mn_00 (l:List Int):minorZ l 0 0=cf l 4*cf l 8-cf l 5*cf l 7:=rfl
theorem mn_01 (l:List Int):minorZ l 0 1=cf l 3*cf l 8-cf l 5*cf l 6:=rfl
theorem mn_02 (l:List Int):minorZ l 0 2=cf l 3*cf l 7-cf l 4*cf l 6:=rfl
theorem mn_10 (l:List Int):minorZ l 1 0=cf l 1*cf l 8-cf l 2*cf l 7:=rfl
theorem mn_11 (l:List Int):minorZ l 1 1=cf l 0*cf l 8-cf l 2*cf l 6:=rfl
theorem mn_12 (l:List Int):minorZ l 1 2=cf l 0*cf l 7-cf l 1*cf l 6:=rfl
theorem mn_20 (l:List Int):minorZ l 2 0=cf l 1*cf l 5-cf l 2*cf l 4:=rfl
theorem mn_21 (l:List Int):minorZ l 2 1=cf l 0*cf l 5-cf l 2*cf l 3:=rfl
theorem mn_22 (l:List Int):minorZ l 2 2=cf l 0*cf l 4-cf l 1*cf l 3:=rfl
theorem az_0 (l:List Int):(adjZ l).getD 0 0=adK (cf l) 9 0:=by
 rw [ad_0,show (adjZ l).getD 0 0=1*minorZ l 0 0 from rfl,mn_00];omega
theorem az_1 (l:List Int):(adjZ l).getD 1 0=adK (cf l) 9 1:=by
 rw [ad_1,show (adjZ l).getD 1 0=-1*minorZ l 1 0 from rfl,mn_10,Int.mul_comm (cf l 7),Int.mul_comm (cf l 8)];omega
theorem az_2 (l:List Int):(adjZ l).getD 2 0=adK (cf l) 9 2:=by
 rw [ad_2,show (adjZ l).getD 2 0=1*minorZ l 2 0 from rfl,mn_20];omega
theorem az_3 (l:List Int):(adjZ l).getD 3 0=adK (cf l) 9 3:=by
 rw [ad_3,show (adjZ l).getD 3 0=-1*minorZ l 0 1 from rfl,mn_01];omega
theorem az_4 (l:List Int):(adjZ l).getD 4 0=adK (cf l) 9 4:=by
 rw [ad_4,show (adjZ l).getD 4 0=1*minorZ l 1 1 from rfl,mn_11,Int.mul_comm (cf l 8),Int.mul_comm (cf l 6)];omega
theorem az_5 (l:List Int):(adjZ l).getD 5 0=adK (cf l) 9 5:=by
 rw [ad_5,show (adjZ l).getD 5 0=-1*minorZ l 2 1 from rfl,mn_21];omega
theorem az_6 (l:List Int):(adjZ l).getD 6 0=adK (cf l) 9 6:=by
 rw [ad_6,show (adjZ l).getD 6 0=1*minorZ l 0 2 from rfl,mn_02];omega
theorem az_7 (l:List Int):(adjZ l).getD 7 0=adK (cf l) 9 7:=by
 rw [ad_7,show (adjZ l).getD 7 0=-1*minorZ l 1 2 from rfl,mn_12,Int.mul_comm (cf l 6),Int.mul_comm (cf l 7)];omega
theorem az_8 (l:List Int):(adjZ l).getD 8 0=adK (cf l) 9 8:=by
 rw [ad_8,show (adjZ l).getD 8 0=1*minorZ l 2 2 from rfl,mn_22];omega
theorem und_0 (l:List Int) (X Y D:Int):undZ (adjZ l) 0 X Y D=smR (adK (cf l) 9 0) (adK (cf l) 9 1) (adK (cf l) 9 2) X Y D:=by
 unfold undZ smR;rw [az_0,az_1,az_2]
theorem und_1 (l:List Int) (X Y D:Int):undZ (adjZ l) 1 X Y D=smR (adK (cf l) 9 3) (adK (cf l) 9 4) (adK (cf l) 9 5) X Y D:=by
 unfold undZ smR;rw [az_3,az_4,az_5]
theorem und_2 (l:List Int) (X Y D:Int):undZ (adjZ l) 2 X Y D=smR (adK (cf l) 9 6) (adK (cf l) 9 7) (adK (cf l) 9 8) X Y D:=by
 unfold undZ smR;rw [az_6,az_7,az_8]
theorem und_R (l:List Int) {X Y D:Int} (h:rightH X Y D=true):undZ (adjZ l) 2 X Y D=undR (adK (cf l) 9) X Y D:=by
 rw [und_2];unfold undR smR;rw [if_pos h]
theorem det_eq (l:List Int):detZ l=detS (cf l) 3:=by
 have h:detS (cf l) 3=0+cof (cf l) 0 0*cf l 0+cof (cf l) 0 1*cf l 1+cof (cf l) 0 2*cf l 2:=rfl
 have h0:cof (cf l) 0 0=cf l 4*cf l 8-cf l 5*cf l 7:=rfl
 have h1:cof (cf l) 0 1=cf l 5*cf l 6-cf l 3*cf l 8:=rfl
 have h2:cof (cf l) 0 2=cf l 3*cf l 7-cf l 4*cf l 6:=rfl
 have g:detZ l=0+1*(cf l 0*minorZ l 0 0)+-1*(cf l 1*minorZ l 0 1)+1*(cf l 2*minorZ l 0 2):=rfl
 rw [g,mn_00,mn_01,mn_02,h,h0,h1,h2,Int.mul_comm (cf l 0),Int.mul_comm (cf l 1),Int.mul_comm (cf l 2),Int.sub_mul (cf l 3*cf l 8),Int.sub_mul (cf l 5*cf l 6)]
 omega
theorem at_eq (l:List Int) {X Y D:Int} (h:rightH X Y D=true):atZ l X Y D=if undR (adK (cf l) 9) X Y D=0 then none else some (atX (adK (cf l) 9) X Y D,atY (adK (cf l) 9) X Y D):=by
 unfold atZ
 rw [und_R l h,und_0,und_1,plc_eq,plc_eq]
 by_cases h0:undR (adK (cf l) 9) X Y D=0
 ·rw [if_pos h0,if_pos h0]
 ·rw [if_neg h0,if_neg h0]
  unfold atX atY
  rw [if_pos ⟨h,h0⟩,if_pos ⟨h,h0⟩]
theorem all_rg {l:List Int}:allIn l=rgB l:=by
 rw [Bool.eq_iff_iff,allIn_iff,rgB_iff]
 have hm:∀ i,i<9→capL.getD i 0=most i:=by
  intro i hi
  have:i=0∨i=1∨i=2∨i=3∨i=4∨i=5∨i=6∨i=7∨i=8:=by omega
  rcases this with rfl|rfl|rfl|rfl|rfl|rfl|rfl|rfl|rfl <;> rfl
 constructor
 ·intro h i hi
  have:=h i hi
  unfold InCap at this
  rw [hm i hi] at this
  exact inH_iff.2 this
 ·intro h i hi
  have:=inH_iff.1 (h i hi)
  unfold InCap
  rw [hm i hi]
  exact this
theorem sgn_4 (l:List Int) {W H:Int} (hW:1≤W∧W≤32768) (hH:1≤H∧H≤32768):(sgnS (adjZ l) W H 4=4∨sgnS (adjZ l) W H 4=-4) ↔ sgH (adK (cf l) 9) W H=true:=by
 have r1:rightH (-1) (-1) 2=true:=by decide
 have r2:rightH (2*W-1) (-1) 2=true:=by rw [rightH_iff];omega
 have r3:rightH (-1) (2*H-1) 2=true:=by rw [rightH_iff];omega
 have r4:rightH (2*W-1) (2*H-1) 2=true:=by rw [rightH_iff];omega
 have g:sgnS (adjZ l) W H 4=0+cmpI (undZ (adjZ l) 2 (-1) (-1) 2) 0+cmpI (undZ (adjZ l) 2 (2*W-1) (-1) 2) 0+cmpI (undZ (adjZ l) 2 (-1) (2*H-1) 2) 0+cmpI (undZ (adjZ l) 2 (2*W-1) (2*H-1) 2) 0:=rfl
 rw [g,und_R l r1,und_R l r2,und_R l r3,und_R l r4]
 unfold sgH mn4 mx4
 simp only [Bool.or_eq_true,decide_eq_true_eq]
 generalize undR (adK (cf l) 9) (-1) (-1) 2=u1
 generalize undR (adK (cf l) 9) (2*W-1) (-1) 2=u2
 generalize undR (adK (cf l) 9) (-1) (2*H-1) 2=u3
 generalize undR (adK (cf l) 9) (2*W-1) (2*H-1) 2=u4
 have c:∀ u:Int,(0<u∧cmpI u 0=1)∨(u=0∧cmpI u 0=0)∨(u<0∧cmpI u 0=-1):=by
  intro u
  unfold cmpI
  split
  ·right;right;exact ⟨by assumption,rfl⟩
  ·split
   ·left;exact ⟨by assumption,rfl⟩
   ·right;left;exact ⟨by omega,rfl⟩
 have c1:=c u1
 have c2:=c u2
 have c3:=c u3
 have c4:=c u4
 omega
theorem chk_eq (l:List Int) (W H:Int):chkZ l W H=newC l W H:=by
 unfold chkZ newC rngC
 by_cases h1:l.length≠9
 ·rw [if_pos h1,if_pos h1];simp
 ·rw [if_neg h1,if_neg h1,all_rg]
  cases h2:rgB l
  ·simp
  ·have e:(W<1∨32768<W∨H<1∨32768<H) ↔ szH W H=false:=by
    rw [← Bool.not_eq_true,szH_iff];omega
   by_cases h3:szH W H=false
   ·rw [if_neg (by simp),if_pos (e.2 h3)];simp [h3]
   ·rw [if_neg (by simp),if_neg (fun h=>h3 (e.1 h)),det_eq]
    have hz:szH W H=true:=by simpa using h3
    by_cases h4:detS (cf l) 3=0
    ·simp [h4,hz]
    ·have hs:=sgn_4 l (szH_iff.1 hz).1 (szH_iff.1 hz).2
     by_cases h5:sgH (adK (cf l) 9) W H=true
     ·rw [if_neg h4,if_pos (hs.2 h5)];simp [h4,hz,h5]
     ·rw [if_neg h4,if_neg (fun h=>h5 (hs.1 h))];simp [h4,hz,h5]
end Go.Proofs.YtjbelhpgbcnlmaaGreat
end
section
set_option linter.unusedVariables false
namespace Go.Proofs.YtjbelhpgbcnlmaaGreat
open Go.RowKit
theorem rcheck_any (l:List Int) (A:Option Addr) (n cp:Nat) (W H:Int) (w:World) {B:Nat} (hl:l.length=n) (hr:Rd w B A (l.map (Value.int .i64))) (hB:B≤w.heap.size) (hok:∀ z∈l,-9223372036854775808≤z∧z≤9223372036854775807) (hW:I64 W) (hH:I64 H) :
 Calls Tryz.prog 51 #[.slice A n cp,.int .i64 W,.int .i64 H] w fun e w'=>e=.returned (.int .i64 (newC l W H))∧Below w.heap.size w w':=by
 rw [← chk_eq]
 exact chk_any A n cp l W H w hl hr hB hok hW hH
theorem CfOk.b62 {l:List Int} (h:CfOk l):∀ z∈l,-4611686018427387904≤z∧z≤4611686018427387904:=by
 intro z hz
 obtain ⟨i,hi,rfl⟩:=List.getElem_of_mem hz
 have h9:i<9:=by rw [← h.len];exact hi
 have h1:=h.bd i h9
 have h2:=most_bd i
 have e:cf l i=l[i]:=by simp [cf,List.getD_eq_getElem?_getD,List.getElem?_eq_getElem hi]
 rw [e] at h1
 omega
theorem rat19_none (l:List Int) (A:Option Addr) (cp:Nat) (X Y D:Int) (w:World) {B:Nat} (h:CfOk l) (hr:Rd w B A (l.map (Value.int .i64))) (hB:B≤w.heap.size) (hp:rightH X Y D=true) (h0:undR (adK (cf l) 9) X Y D=0) :
 Calls Tryz.prog 115 #[.slice A 9 cp,.int .i64 X,.int .i64 Y,.int .i64 D] w fun e w'=>e=.returned (.tuple #[.int .i64 0,.int .i64 0,.bool false])∧Below w.heap.size w w':=by
 obtain ⟨⟨a,b⟩,⟨c,d⟩,e,f⟩:=rightH_iff.1 hp
 have:=at_any A cp l X Y D w h.len hr hB h.b62 ⟨by omega,by omega⟩ ⟨by omega,by omega⟩ ⟨by omega,by omega⟩
 rw [at_eq l hp,if_pos h0] at this
 exact this
theorem rat19_some (l:List Int) (A:Option Addr) (cp:Nat) (X Y D:Int) (w:World) {B:Nat} (h:CfOk l) (hr:Rd w B A (l.map (Value.int .i64))) (hB:B≤w.heap.size) (hp:rightH X Y D=true) (h0:undR (adK (cf l) 9) X Y D≠0) :
 Calls Tryz.prog 115 #[.slice A 9 cp,.int .i64 X,.int .i64 Y,.int .i64 D] w fun e w'=>e=.returned (.tuple #[.int .i64 (atX (adK (cf l) 9) X Y D),.int .i64 (atY (adK (cf l) 9) X Y D),.bool true])∧Below w.heap.size w w':=by
 obtain ⟨⟨a,b⟩,⟨c,d⟩,e,f⟩:=rightH_iff.1 hp
 have:=at_any A cp l X Y D w h.len hr hB h.b62 ⟨by omega,by omega⟩ ⟨by omega,by omega⟩ ⟨by omega,by omega⟩
 rw [at_eq l hp,if_neg h0] at this
 exact this
end Go.Proofs.YtjbelhpgbcnlmaaGreat
end
end
