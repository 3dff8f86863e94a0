/- Several texts in one: Several texts in one: The reference's halves of images. The reference's halves of images: whole. The reference's pyramid. -/
import Derived.Test.YtjbelhpgbcnlmaaGreatSamplePixelsZz7
import Derived.Test.YtjbelhpgbcnlmaaGreatSamplePixelsZz2
import Derived.Test.YtjbelhpgbcnlmaaGreatSamplePixelsZz16
import Derived.Test.YtjbelhpgbcnlmaaGreatSamplePixelsZz3
section
section
set_option linter.unusedVariables false
namespace Go.Proofs.YtjbelhpgbcnlmaaGreat
open Go.RowKit
def hfJ (W H C i n:Nat):Nat:=(min (2*(i/C/((W+1)/2))+n/2) (H-1)*W+min (2*(i/C%((W+1)/2))+n%2) (W-1))*C+i%C
def hfS (P:List Int) (W H C i:Nat):Nat→Int
 | 0=>2
 | n+1=>hfS P W H C i n+P.getD (hfJ W H C i n) 0
def hfB (P:List Int) (W H C i:Nat):Int:=hfS P W H C i 4/4
def hfN (W H C:Nat):Nat:=(W+1)/2*((H+1)/2)*C
theorem hfS_bd {P:List Int} (h:∀ j,0≤P.getD j 0∧P.getD j 0≤255) (W H C i:Nat):∀ n:Nat,2≤hfS P W H C i n∧hfS P W H C i n≤2+n*255
 | 0=>by simp [hfS]
 | n+1=>by
   have:=hfS_bd h W H C i n
   have:=h (hfJ W H C i n)
   simp only [hfS]
   omega
theorem hfB_bd {P:List Int} (h:∀ j,0≤P.getD j 0∧P.getD j 0≤255) (W H C i:Nat):0≤hfB P W H C i∧hfB P W H C i≤255:=by
 have:=hfS_bd h W H C i 4
 unfold hfB
 omega
theorem hf_max {w2 h2 C N q i:Nat} (hC:0<C) (hN:w2*h2*C=N) (hi:i<N) (hq:i/C=q):q<w2*h2:=by
 rw [← hq]
 exact Nat.div_lt_of_lt_mul (by rw [Nat.mul_comm];omega)
theorem hf_lt {W H C X Y k n:Nat} (hX:X<W) (hY:Y<H) (hk:k<C) (hn:n=W*H*C):(Y*W+X)*C+k<n:=by
 have h1:(Y+1)*W≤H*W:=Nat.mul_le_mul_right W (by omega)
 rw [Nat.add_mul,Nat.one_mul] at h1
 have h2:(Y*W+X+1)*C≤H*W*C:=Nat.mul_le_mul_right C (by omega)
 rw [Nat.add_mul (Y*W+X) 1 C,Nat.one_mul] at h2
 rw [hn,Nat.mul_comm W H]
 omega
attribute [local go_sem high] run_minM
set_option maxRecDepth 100000 in
set_option maxHeartbeats 16000000 in
theorem rhalf_walk (Wi Hi Ci w2 h2 Mi Ni:Int) (N:Nat) (A:Option Addr) (n cp:Nat) (S:Nat→Nat→Int) (Bt:Nat→Int) (kI xI yI:Nat→Int) (J:Nat→Nat→Nat) (P:List Int) (w:World) {B:Nat}
 (hW:1≤Wi∧Wi≤32768) (hH:1≤Hi∧Hi≤32768) (hC:1≤Ci∧Ci≤4) (h2a:(Wi+1)/2=w2) (h2b:(Hi+1)/2=h2) (hw2:1≤w2) (hM:w2*h2=Mi) (hMb:0≤Mi∧Mi≤4194304) (hN:Mi*Ci=Ni) (hNi:Ni.toNat=N) (hNb:0≤Ni∧Ni≤16777216)
 (hP:P.length=n) (hr:Rd w B A (P.map (Value.int .u8))) (hB:B≤w.heap.size) (hcp:n≤cp) (hby:∀ j,0≤P.getD j 0∧P.getD j 0≤255)
 (hk:∀ i:Nat,i<N→((i:Int)%Ci=kI i∧(i:Int)/Ci%w2=xI i∧(i:Int)/Ci/w2=yI i∧0≤(i:Int)/Ci∧0≤xI i∧xI i≤32768∧0≤yI i∧yI i≤32768))
 (hJ:∀ i a b:Nat,i<N→a<2→b<2→∀ w':World,Calls Tryz.prog 32 #[.agg #[.int .i64 Wi,.int .i64 Hi,.int .i64 Ci,.slice A n cp],.int .i64 (min (2*xI i+a) (Wi-1)),.int .i64 (min (2*yI i+b) (Hi-1)),.int .i64 (kI i)] w' fun e w''=>e=.returned (.int .i64 (J i (2*b+a):Nat))∧Below w'.heap.size w' w'')
 (hJn:∀ i c:Nat,i<N→c<4→J i c<n) (hn:n≤16777216)
 (hS0:∀ i,S i 0=2) (hS1:∀ i c,S i (c+1)=S i c+P.getD (J i c) 0) (hSb:∀ i c,c≤4→2≤S i c∧S i c≤1022) (hBt:∀ i,Bt i=S i 4/4) :
 Calls Tryz.prog 39 #[.agg #[.int .i64 Wi,.int .i64 Hi,.int .i64 Ci,.slice A n cp]] w fun e w'=>∃ s,e=.returned (.agg #[.int .i64 w2,.int .i64 h2,.int .i64 Ci,s])∧w'.ownsRow w.heap.size 5 1 s N (((List.range N).map Bt).map (Value.int .u8))∧Below w.heap.size w w':=by
 have e1:wrap64 (w2*h2)=Mi:=by rw [hM];exact IntWalk.wrap64_in _ ⟨by omega,by omega⟩
 have e2:wrap64 (Mi*Ci)=Ni:=by rw [hN];exact IntWalk.wrap64_in _ ⟨by omega,by omega⟩
 have HK:=Lib.hid hk
 have HJ:=Lib.hid hJ
 have HJN:=Lib.hid hJn
 have HS0:=Lib.hid hS0
 have HS1:=Lib.hid hS1
 have HSB:=Lib.hid hSb
 have HBT:=Lib.hid hBt
 have HBY:=Lib.hid hby
 have HP:=Lib.hid hP
 have hMd:=fun (A:Option Addr) (n c:Nat) (w':World)=>made_any w2 h2 Ci A n c w'
 have hL:=((Lie.start w).alloc #[.int .i64 Wi,.int .i64 Hi,.int .i64 Ci,.slice A n cp] 24).alloc #[.int .i64 0,.int .i64 0,.int .i64 0,.slice none 0 0] 24
 simp only [World.size_alloc] at hL
 have hCn:(Ci==0)=false:=by simp;omega
 have hwn:(w2==0)=false:=by simp;omega
 have hCn2:¬(Ci=0):=by omega
 have hwn2:¬(w2=0):=by omega
 clear hk hJ hJn hS0 hS1 hSb hBt hby hM hN hP
 go_enter Tryz.func39,Tryz.ntmps39
 go_wp2_with fail
 obtain ⟨g2,hg2⟩:∃ g2,w.heap.size+1=g2:=⟨_,rfl⟩
 rw [hg2] at hL
 simp only [hg2]
 have hg2l:w.heap.size<g2:=by omega
 clear hg2
 have hl2:g2+1≤((w.alloc (.cells #[.int .i64 Wi,.int .i64 Hi,.int .i64 Ci,.slice A n cp] 24)).alloc (.cells #[.int .i64 0,.int .i64 0,.int .i64 0,.slice none 0 0] 24)).heap.size:=(hL.k 0 (by simp)).lt
 try simp only [h2a,h2b]
 clear h2a h2b
 go_loopw [5,6] (fun sv iv wr=>∃ i:Nat,i≤N∧iv=.int .i64 i∧wr.ownsRow (g2+1) 5 1 sv i (((List.range i).map Bt).map (Value.int .u8))∧Lie w [(g2,24,#[.int .i64 0,.int .i64 0,.int .i64 0,.slice none 0 0]),(w.heap.size,24,#[.int .i64 Wi,.int .i64 Hi,.int .i64 Ci,.slice A n cp])] wr∧g2+1≤wr.heap.size) (fun _ iv _=>N-(intOf iv).toNat)
 case atStart=>exact ⟨0,by omega,rfl,World.ownsRow_nil _ _ _ _,hL,hl2⟩
 case round =>
  clear hL hl2
  obtain ⟨i,hi,rfl,hown,hLi,hsz⟩:=hrel
  obtain ⟨wq,rfl⟩:∃ wq:World,wq=wr:=⟨_,rfl⟩
  have k1:Bk wq w.heap.size 24 #[.int .i64 Wi,.int .i64 Hi,.int .i64 Ci,.slice A n cp]:=hLi.k 1 (by simp)
  obtain ⟨c0,c1,c2,c3⟩:=k1.cell4
  by_cases hlt:i<N
  ·have hiN:(i:Int)<Ni:=by omega
   obtain ⟨t1,t3,t4,q0,x0,x1,y0,y1⟩:=HK.out i hlt
   have hT:=HJ.out i
   have hTn:=HJN.out i
   have hst:=HS1.out i
   have hs0:=HS0.out i
   have hsb:=HSB.out i
   have HT:=Lib.hid (show ((List.range (i+1)).map Bt).map (Value.int .u8)=((List.range i).map Bt).map (Value.int .u8)++[.int .u8 (Bt i)] by rw [List.range_succ];simp)
   have hbt:=HBT.out i
   obtain ⟨q,hq⟩:∃ q,(i:Int)/Ci=q:=⟨_,rfl⟩
   rw [hq] at t3 t4 q0
   generalize kI i=kk at *
   generalize xI i=x at *
   generalize yI i=y at *
   generalize S i=Si at *
   generalize J i=Ji at *
   obtain ⟨bt,hbt2⟩:∃ bt,Bt i=bt:=⟨_,rfl⟩
   rw [hbt2] at hbt HT
   have hT00:=fun w'=>hT 0 0 hlt (by omega) (by omega) w'
   have hT10:=fun w'=>hT 1 0 hlt (by omega) (by omega) w'
   have hT01:=fun w'=>hT 0 1 hlt (by omega) (by omega) w'
   have hT11:=fun w'=>hT 1 1 hlt (by omega) (by omega) w'
   simp only [Int.add_zero,Nat.mul_zero,Nat.mul_one,Nat.zero_add,Nat.reduceAdd,show ((0:Nat):Int)=0 from rfl,show ((1:Nat):Int)=1 from rfl] at hT00 hT10 hT01 hT11
   have hqb:q≤16777216:=by rw [← hq];exact Int.le_trans (Int.ediv_le_self _ (by omega)) (by omega)
   have q1:wrap64 q=q:=IntWalk.wrap64_in _ ⟨by omega,by omega⟩
   have q2:q.tmod w2=x:=by rw [Int.tmod_eq_emod_of_nonneg q0];exact t3
   have q3:q.tdiv w2=y:=by rw [Int.tdiv_eq_ediv_of_nonneg q0];exact t4
   have q4:wrap64 y=y:=IntWalk.wrap64_in _ ⟨by omega,by omega⟩
   have q5:wrap64 x=x:=IntWalk.wrap64_in _ ⟨by omega,by omega⟩
   have HQ:=Lib.hid hq
   have HST:=Lib.hid hst
   have HS0':=Lib.hid hs0
   have HSB':=Lib.hid hsb
   have HTN:=Lib.hid hTn
   have HBt:=Lib.hid hbt
   clear hT hst hs0 hsb hTn hbt hbt2
   have hiNb:decide ((i:Int)<Ni)=true:=decide_eq_true hiN
   go_wp2_with fail
   try simp only [e1,e2,t1]
   clear e1 e2 t1 hq q1 q2 q3 q4 q5 t3 t4 hiNb
   go_loopw [10,11] (fun sv iv wr=>∃ c:Nat,c≤4∧iv=.int .i64 c∧sv=.int .i64 (Si c)∧Below wq.heap.size wq wr) (fun _ iv _=>4-(intOf iv).toNat)
   case atStart=>exact ⟨0,by omega,rfl,by rw [HS0'.out],Below.refl _ _⟩
   case round =>
    obtain ⟨c,hc4,rfl,rfl,hbq⟩:=hrel
    obtain ⟨wi,rfl⟩:∃ wi:World,wi=wr:=⟨_,rfl⟩
    have kq:=k1.nx hbq
    obtain ⟨d0,d1,d2,d3⟩:=kq.cell4
    rcases (show c=0∨c=1∨c=2∨c=3∨c=4 by omega) with rfl|rfl|rfl|rfl|rfl
    ·have hjn:=HTN.out 0 hlt (by omega)
     have hs1:=HST.out 0
     have hsb1:=HSB'.out 0 (by omega)
     have hpb:=HBY.out (Ji 0)
     obtain ⟨bb,oo,rfl,hbb,hcc⟩:=(hr.below' (hLi.bel.trans (hbq.mono hLi.sz)) hB).get (Ji 0) (by rw [List.length_map,HP.out];exact hjn)
     have hz:(P.map (Value.int .u8))[Ji 0]'(by rw [List.length_map,HP.out];exact hjn)=.int .u8 (P.getD (Ji 0) 0):=by
      rw [List.getElem_map,List.getD_eq_getElem?_getD,List.getElem?_eq_getElem (by rw [HP.out];exact hjn)];rfl
     rw [hz] at hcc
     have HS1':=Lib.hid hs1
     clear hz hs1 hT10 hT01 hT11
     obtain ⟨jz,hjz⟩:∃ jz:Int,((Ji 0:Nat):Int)=jz:=⟨_,rfl⟩
     rw [hjz] at hT00
     have j0:0≤jz:=by omega
     have j1:jz<(n:Int):=by omega
     have jt:jz.toNat=Ji 0:=by omega
     generalize Ji 0=jn at *
     generalize P.getD jn 0=Z at *
     generalize Si 0=s0 at *
     have g1:wrap64 Z=Z:=IntWalk.wrap64_in _ ⟨by omega,by omega⟩
     have g2':wrap64 (s0+Z)=s0+Z:=IntWalk.wrap64_in _ ⟨by omega,by omega⟩
     clear hjz hjn
     go_wp2_with (go_at_call 32;(with_reducible refine (hT00 _).mono ?_);rintro e w6 ⟨rfl,hb6⟩;have kq6:=kq.nx hb6;obtain ⟨i0,i1,i2,i3⟩:=kq6.cell4;have hz6:=(hb6.cell (p:=⟨bb,oo+jn,none⟩) (by show bb<_;have:=hbq.size;have:=hLi.sz;omega)).trans hcc)
     exact ⟨⟨1,by omega,by go_num,by rw [HS1'.out],hbq.trans (hb6.mono hbq.size)⟩,by simp [intOf]⟩
    ·have hjn:=HTN.out 1 hlt (by omega)
     have hs1:=HST.out 1
     have hsb1:=HSB'.out 1 (by omega)
     have hpb:=HBY.out (Ji 1)
     obtain ⟨bb,oo,rfl,hbb,hcc⟩:=(hr.below' (hLi.bel.trans (hbq.mono hLi.sz)) hB).get (Ji 1) (by rw [List.length_map,HP.out];exact hjn)
     have hz:(P.map (Value.int .u8))[Ji 1]'(by rw [List.length_map,HP.out];exact hjn)=.int .u8 (P.getD (Ji 1) 0):=by
      rw [List.getElem_map,List.getD_eq_getElem?_getD,List.getElem?_eq_getElem (by rw [HP.out];exact hjn)];rfl
     rw [hz] at hcc
     have HS1':=Lib.hid hs1
     clear hz hs1 hT00 hT01 hT11
     obtain ⟨jz,hjz⟩:∃ jz:Int,((Ji 1:Nat):Int)=jz:=⟨_,rfl⟩
     rw [hjz] at hT10
     have j0:0≤jz:=by omega
     have j1:jz<(n:Int):=by omega
     have jt:jz.toNat=Ji 1:=by omega
     generalize Ji 1=jn at *
     generalize P.getD jn 0=Z at *
     generalize Si 1=s0 at *
     have g1:wrap64 Z=Z:=IntWalk.wrap64_in _ ⟨by omega,by omega⟩
     have g2':wrap64 (s0+Z)=s0+Z:=IntWalk.wrap64_in _ ⟨by omega,by omega⟩
     clear hjz hjn
     go_wp2_with (go_at_call 32;(with_reducible refine (hT10 _).mono ?_);rintro e w6 ⟨rfl,hb6⟩;have kq6:=kq.nx hb6;obtain ⟨i0,i1,i2,i3⟩:=kq6.cell4;have hz6:=(hb6.cell (p:=⟨bb,oo+jn,none⟩) (by show bb<_;have:=hbq.size;have:=hLi.sz;omega)).trans hcc)
     exact ⟨⟨2,by omega,by go_num,by rw [HS1'.out],hbq.trans (hb6.mono hbq.size)⟩,by simp [intOf]⟩
    ·have hjn:=HTN.out 2 hlt (by omega)
     have hs1:=HST.out 2
     have hsb1:=HSB'.out 2 (by omega)
     have hpb:=HBY.out (Ji 2)
     obtain ⟨bb,oo,rfl,hbb,hcc⟩:=(hr.below' (hLi.bel.trans (hbq.mono hLi.sz)) hB).get (Ji 2) (by rw [List.length_map,HP.out];exact hjn)
     have hz:(P.map (Value.int .u8))[Ji 2]'(by rw [List.length_map,HP.out];exact hjn)=.int .u8 (P.getD (Ji 2) 0):=by
      rw [List.getElem_map,List.getD_eq_getElem?_getD,List.getElem?_eq_getElem (by rw [HP.out];exact hjn)];rfl
     rw [hz] at hcc
     have HS1':=Lib.hid hs1
     clear hz hs1 hT00 hT10 hT11
     obtain ⟨jz,hjz⟩:∃ jz:Int,((Ji 2:Nat):Int)=jz:=⟨_,rfl⟩
     rw [hjz] at hT01
     have j0:0≤jz:=by omega
     have j1:jz<(n:Int):=by omega
     have jt:jz.toNat=Ji 2:=by omega
     generalize Ji 2=jn at *
     generalize P.getD jn 0=Z at *
     generalize Si 2=s0 at *
     have g1:wrap64 Z=Z:=IntWalk.wrap64_in _ ⟨by omega,by omega⟩
     have g2':wrap64 (s0+Z)=s0+Z:=IntWalk.wrap64_in _ ⟨by omega,by omega⟩
     clear hjz hjn
     go_wp2_with (go_at_call 32;(with_reducible refine (hT01 _).mono ?_);rintro e w6 ⟨rfl,hb6⟩;have kq6:=kq.nx hb6;obtain ⟨i0,i1,i2,i3⟩:=kq6.cell4;have hz6:=(hb6.cell (p:=⟨bb,oo+jn,none⟩) (by show bb<_;have:=hbq.size;have:=hLi.sz;omega)).trans hcc)
     exact ⟨⟨3,by omega,by go_num,by rw [HS1'.out],hbq.trans (hb6.mono hbq.size)⟩,by simp [intOf]⟩
    ·have hjn:=HTN.out 3 hlt (by omega)
     have hs1:=HST.out 3
     have hsb1:=HSB'.out 3 (by omega)
     have hpb:=HBY.out (Ji 3)
     obtain ⟨bb,oo,rfl,hbb,hcc⟩:=(hr.below' (hLi.bel.trans (hbq.mono hLi.sz)) hB).get (Ji 3) (by rw [List.length_map,HP.out];exact hjn)
     have hz:(P.map (Value.int .u8))[Ji 3]'(by rw [List.length_map,HP.out];exact hjn)=.int .u8 (P.getD (Ji 3) 0):=by
      rw [List.getElem_map,List.getD_eq_getElem?_getD,List.getElem?_eq_getElem (by rw [HP.out];exact hjn)];rfl
     rw [hz] at hcc
     have HS1':=Lib.hid hs1
     clear hz hs1 hT00 hT10 hT01
     obtain ⟨jz,hjz⟩:∃ jz:Int,((Ji 3:Nat):Int)=jz:=⟨_,rfl⟩
     rw [hjz] at hT11
     have j0:0≤jz:=by omega
     have j1:jz<(n:Int):=by omega
     have jt:jz.toNat=Ji 3:=by omega
     generalize Ji 3=jn at *
     generalize P.getD jn 0=Z at *
     generalize Si 3=s0 at *
     have g1:wrap64 Z=Z:=IntWalk.wrap64_in _ ⟨by omega,by omega⟩
     have g2':wrap64 (s0+Z)=s0+Z:=IntWalk.wrap64_in _ ⟨by omega,by omega⟩
     clear hjz hjn
     go_wp2_with (go_at_call 32;(with_reducible refine (hT11 _).mono ?_);rintro e w6 ⟨rfl,hb6⟩;have kq6:=kq.nx hb6;obtain ⟨i0,i1,i2,i3⟩:=kq6.cell4;have hz6:=(hb6.cell (p:=⟨bb,oo+jn,none⟩) (by show bb<_;have:=hbq.size;have:=hLi.sz;omega)).trans hcc)
     exact ⟨⟨4,by omega,by go_num,by rw [HS1'.out],hbq.trans (hb6.mono hbq.size)⟩,by simp [intOf]⟩
    ·have hs4:=HSB'.out 4 (by omega)
     have hbt:=HBt.out
     have hown2:=own_below hown hbq (Nat.le_refl _)
     have hL2:=hLi.nx hbq
     have hsz2:=hbq.size
     generalize Si 4=s4 at *
     have v1:IntKind.u8.wrap (s4/4)=bt:=by rw [← hbt,IntKind.wrap_u8];omega
     have v0:0≤s4:=by omega
     clear hT00 hT10 hT01 hT11 hbt
     have hNi2:i≤16777216:=by omega
     go_wp2_with (at_builtin;refine app1 rfl _ _ _ rfl Tryz.underlying22 u8_info rfl (by omega) rfl rfl hown2 hL2.bel (by omega) (by omega) rfl ints1 (by omega) (by omega) ?_;intro v' w' hown' hbel' hlt' hgr _)
     have hge:=own_ge hown2
     refine ⟨⟨i+1,by omega,by go_num,?_,⟨hbel',fun z hz=>?_⟩,by omega⟩,by simp [intOf];omega⟩
     ·rw [HT.out];exact hown'
     ·have hz':=hL2.2 z hz
      refine hz'.grown hgr (fun e=>?_)
      have h1:=hge _ e.symm
      simp only [List.mem_cons,List.not_mem_nil,or_false] at hz
      rcases hz with rfl|rfl
      ·simp at h1;omega
      ·simp at h1;omega
  ·obtain rfl:i=N:=by omega
   have hiN:¬((i:Int)<Ni):=by omega
   obtain ⟨A5,c5,rfl,_⟩:=own_form hown
   have k2:Bk wq g2 24 #[.int .i64 0,.int .i64 0,.int .i64 0,.slice none 0 0]:=hLi.k 0 (by simp)
   go_wp2_with (first
    | (go_at_call 66;(with_reducible refine (hMd _ _ _ _).mono ?_);rintro e w6 ⟨rfl,hb6⟩;have hown6:=own_below hown hb6 (Nat.le_refl _);have k26:=k2.nx hb6;have hL6:=hLi.nx hb6)
    | (refine stImg rfl _ _ rfl k26 rfl rfl rfl ?_;intro w7 k7 hg7 hs7))
   refine bodyPost_ret (res_img rfl k7 rfl) rfl ?_
   refine ⟨_,rfl,own_base (own_gbr hown6 hg7 (fun b hb e=>?_)) (by omega),below_of_gb hL6.bel hg7 (by omega) hL6.sz⟩
   have:=own_ge hown6 b hb
   injection e with e
   omega
end Go.Proofs.YtjbelhpgbcnlmaaGreat
end
section
set_option linter.unusedVariables false
namespace Go.Proofs.YtjbelhpgbcnlmaaGreat
open Go.RowKit
theorem hf_min (q a W:Nat) (hW:1≤W):min (2*(q:Int)+a) ((W:Int)-1)=((min (2*q+a) (W-1):Nat):Int):=by omega
theorem half_bd {W H C:Nat} (hW:1≤W∧W≤32768) (hH:1≤H∧H≤32768) (hp:W*H≤4194304):(W+1)/2*((H+1)/2)≤4194304:=by
 have h1:(W+1)/2*((H+1)/2)≤W*H:=Nat.mul_le_mul (by omega) (by omega)
 omega
theorem half_q {W H C i:Nat} (hC:0<C) (hi:i<hfN W H C):i/C/((W+1)/2)<(H+1)/2:=by
 have h1:=hf_max (q:=i/C) hC rfl hi rfl
 exact Nat.div_lt_of_lt_mul (by rw [Nat.mul_comm] at h1;rw [Nat.mul_comm];exact h1)
theorem half_J {W H C n i c:Nat} (hW:1≤W) (hH:1≤H) (hC:0<C) (hn:n=W*H*C):hfJ W H C i c<n:=by
 unfold hfJ
 exact hf_lt (by omega) (by omega) (Nat.mod_lt _ hC) hn
set_option maxRecDepth 100000 in
set_option maxHeartbeats 4000000 in
theorem rhalf_any (W H C:Nat) (A:Option Addr) (n cp:Nat) (P:List Int) (w:World) {B:Nat} (h:checkC W H C n=0) (hP:P.length=n) (hr:Rd w B A (P.map (Value.int .u8))) (hB:B≤w.heap.size) (hcp:n≤cp) (hby:∀ j,0≤P.getD j 0∧P.getD j 0≤255) :
 Calls Tryz.prog 39 #[imgV W H C A n cp] w fun e w'=>∃ s,e=.returned (.agg #[.int .i64 ((W+1)/2:Nat),.int .i64 ((H+1)/2:Nat),.int .i64 C,s])∧w'.ownsRow w.heap.size 5 1 s (hfN W H C) (((List.range (hfN W H C)).map (hfB P W H C)).map (Value.int .u8))∧Below w.heap.size w w':=by
 obtain ⟨hf1,hf2⟩:=check_parts h
 obtain ⟨hc,hw1,hw2,hh1,hh2,hp⟩:=fitsC_ok hf1
 have hW1:1≤W:=by omega
 have hH1:1≤H:=by omega
 have hC0:0<C:=by omega
 have hp':W*H≤4194304:=by
  have:((W*H:Nat):Int)≤4194304:=by rw [Int.natCast_mul];exact hp
  omega
 have hn':n=W*H*C:=by
  have:((W*H*C:Nat):Int)=n:=by rw [Int.natCast_mul,Int.natCast_mul];exact hf2.symm
  omega
 have hM:=half_bd (C:=C) ⟨hW1,by omega⟩ ⟨hH1,by omega⟩ hp'
 have hnb:n≤16777216:=by
  have h1:W*H*C≤W*H*4:=Nat.mul_le_mul_left _ (by omega)
  omega
 have hNb:hfN W H C≤16777216:=by
  have h1:(W+1)/2*((H+1)/2)*C≤(W+1)/2*((H+1)/2)*4:=Nat.mul_le_mul_left _ (by omega)
  unfold hfN;omega
 refine rhalf_walk (W:Int) H C (((W+1)/2:Nat):Int) (((H+1)/2:Nat):Int) (((W+1)/2*((H+1)/2):Nat):Int) ((hfN W H C:Nat):Int) (hfN W H C) A n cp (hfS P W H C) (hfB P W H C) (fun i=>((i%C:Nat):Int)) (fun i=>((i/C%((W+1)/2):Nat):Int)) (fun i=>((i/C/((W+1)/2):Nat):Int)) (hfJ W H C) P w ⟨by omega,by omega⟩ ⟨by omega,by omega⟩ ⟨by omega,by omega⟩ (by omega) (by omega) (by omega) (by rw [Int.natCast_mul]) ⟨by omega,by omega⟩ (by unfold hfN;exact (Int.natCast_mul _ _).symm) (by omega) ⟨by omega,by omega⟩ hP hr hB hcp hby ?_ ?_ ?_ hnb (fun _=>rfl) (fun _ _=>rfl) (fun i c hc=>?_) (fun _=>rfl)
 ·intro i hi
  have h1:=half_q hC0 hi
  have h2:i/C%((W+1)/2)<(W+1)/2:=Nat.mod_lt _ (by omega)
  refine ⟨by simp,by simp,by simp,?_,?_,?_,?_,?_⟩
  ·exact Int.ediv_nonneg (Int.natCast_nonneg _) (Int.natCast_nonneg _)
  ·exact Int.natCast_nonneg _
  ·generalize i/C%((W+1)/2)=qx at *;omega
  ·exact Int.natCast_nonneg _
  ·generalize i/C/((W+1)/2)=qy at *;omega
 ·intro i a b hi ha hb w'
  have h1:=half_q hC0 hi
  have h2:i/C%((W+1)/2)<(W+1)/2:=Nat.mod_lt _ (by omega)
  have e1:(2*b+a)/2=b:=by omega
  have e2:(2*b+a)%2=a:=by omega
  simp only [hf_min _ _ _ hW1,hf_min _ _ _ hH1]
  refine (rplace_any W H C A n cp _ _ (i%C) w' h ⟨?_,?_⟩ ⟨?_,?_⟩ (Nat.mod_lt _ hC0)).mono ?_
  ·omega
  ·generalize i/C%((W+1)/2)=qx;omega
  ·omega
  ·generalize i/C/((W+1)/2)=qy;omega
  ·rintro e w'' ⟨rfl,hb'⟩
   refine ⟨?_,hb'⟩
   unfold hfJ
   rw [e1,e2,Int.natCast_add,Int.natCast_mul,Int.natCast_add,Int.natCast_mul]
 ·intro i c _ _
  exact half_J hW1 hH1 hC0 hn'
 ·have:=hfS_bd hby W H C i c
  omega
def halfIm (m:Im):Im:=⟨(((m.W.toNat+1)/2:Nat):Int),(((m.H.toNat+1)/2:Nat):Int),m.C,(List.range (hfN m.W.toNat m.H.toNat m.C.toNat)).map (hfB m.px m.W.toNat m.H.toNat m.C.toNat)⟩
def ImR (m:Im):Prop:=checkC m.W m.H m.C m.px.length=0∧∀ j,0≤m.px.getD j 0∧m.px.getD j 0≤255
theorem ImR.nat {m:Im} (h:ImR m):∃ W H C:Nat,m.W=W∧m.H=H∧m.C=C∧(1≤W∧W≤32768)∧(1≤H∧H≤32768)∧(C=1∨C=3∨C=4)∧W*H≤4194304∧m.px.length=W*H*C:=by
 obtain ⟨hf1,hf2⟩:=check_parts h.1
 obtain ⟨hc,hw1,hw2,hh1,hh2,hp⟩:=fitsC_ok hf1
 obtain ⟨W,hW⟩:=Int.eq_ofNat_of_zero_le (show 0≤m.W by omega)
 obtain ⟨H,hH⟩:=Int.eq_ofNat_of_zero_le (show 0≤m.H by omega)
 obtain ⟨C,hC⟩:=Int.eq_ofNat_of_zero_le (show 0≤m.C by omega)
 refine ⟨W,H,C,hW,hH,hC,by omega,by omega,by omega,?_,?_⟩
 ·rw [hW,hH] at hp
  have:((W*H:Nat):Int)≤4194304:=by rw [Int.natCast_mul];exact hp
  omega
 ·rw [hW,hH,hC] at hf2
  have:((W*H*C:Nat):Int)=m.px.length:=by rw [Int.natCast_mul,Int.natCast_mul];exact hf2.symm
  omega
theorem fitsC_mk {W H C:Int} (hC:C=1∨C=3∨C=4) (hW:1≤W∧W≤32768) (hH:1≤H∧H≤32768) (hp:W*H≤4194304):fitsC W H C=0:=by
 unfold fitsC
 rw [if_neg (by omega),if_neg (by omega),if_neg (by omega)]
theorem checkC_mk {W H C:Int} {n:Nat} (h:fitsC W H C=0) (hn:(n:Int)=W*H*C):checkC W H C n=0:=by
 unfold checkC
 rw [if_neg (fun e=>e.2 hn)]
 exact h
theorem halfIm_ok {m:Im} (h:ImR m):ImR (halfIm m)∧(halfIm m).C=m.C:=by
 obtain ⟨W,H,C,hW,hH,hC,hWb,hHb,hCb,hp,hn⟩:=h.nat
 refine ⟨⟨?_,fun j=>?_⟩,rfl⟩
 ·have hb:=half_bd (C:=C) hWb hHb hp
  simp only [halfIm,hW,hH,hC,Int.toNat_natCast,List.length_map,List.length_range]
  refine checkC_mk (fitsC_mk (by omega) ⟨by omega,by omega⟩ ⟨by omega,by omega⟩ ?_) ?_
  ·rw [← Int.natCast_mul];omega
  ·unfold hfN;rw [Int.natCast_mul,Int.natCast_mul]
 ·simp only [halfIm]
  rw [List.getD_eq_getElem?_getD,List.getElem?_map]
  rcases Nat.lt_or_ge j (hfN m.W.toNat m.H.toNat m.C.toNat) with hj|hj
  ·rw [List.getElem?_range hj]
   exact hfB_bd h.2 _ _ _ _
  ·rw [List.getElem?_eq_none (by simpa using hj)]
   simp
theorem rhalf_im (m:Im) (A:Option Addr) (cp:Nat) (w:World) {B:Nat} (h:ImR m) (hr:Rd w B A (m.px.map (Value.int .u8))) (hB:B≤w.heap.size) (hcp:m.px.length≤cp) :
 Calls Tryz.prog 39 #[.agg #[.int .i64 m.W,.int .i64 m.H,.int .i64 m.C,.slice A m.px.length cp]] w fun e w'=>∃ s,e=.returned (.agg #[.int .i64 (halfIm m).W,.int .i64 (halfIm m).H,.int .i64 (halfIm m).C,s])∧w'.ownsRow w.heap.size 5 1 s (halfIm m).px.length ((halfIm m).px.map (Value.int .u8))∧Below w.heap.size w w':=by
 obtain ⟨W,H,C,hW,hH,hC,hWb,hHb,hCb,hp,hn⟩:=h.nat
 have hk:=h.1
 rw [hW,hH,hC] at hk
 have hl:(halfIm m).px.length=hfN W H C:=by simp [halfIm,hW,hH,hC]
 have hx:(halfIm m).px=(List.range (hfN W H C)).map (hfB m.px W H C):=by simp [halfIm,hW,hH,hC]
 have e1:(halfIm m).W=(((W+1)/2:Nat):Int):=by simp [halfIm,hW]
 have e2:(halfIm m).H=(((H+1)/2:Nat):Int):=by simp [halfIm,hH]
 have e3:(halfIm m).C=C:=hC
 rw [hl,hx,e1,e2,e3,hW,hH,hC]
 exact rhalf_any W H C A m.px.length cp m.px w hk rfl hr hB hcp h.2
def pyrU:Nat→Im→List Im
 | 0,m=>[m]
 | n+1,m=>if m.W*m.H=1 then [m] else m::pyrU n (halfIm m)
theorem pyrU_len:∀ (n:Nat) (m:Im),1≤(pyrU n m).length∧(pyrU n m).length≤n+1
 | 0,m=>by simp [pyrU]
 | n+1,m=>by
   have:=pyrU_len n (halfIm m)
   unfold pyrU
   split <;> simp <;> omega
theorem pyrU_ok:∀ (n:Nat) (m:Im),ImR m→∀ x∈pyrU n m,ImR x∧x.C=m.C
 | 0,m,h,x,hx=>by simp [pyrU] at hx;subst hx;exact ⟨h,rfl⟩
 | n+1,m,h,x,hx=>by
   unfold pyrU at hx
   split at hx
   ·simp at hx;subst hx;exact ⟨h,rfl⟩
   ·rcases List.mem_cons.1 hx with rfl|hx
    ·exact ⟨h,rfl⟩
    ·have h2:=halfIm_ok h
     have:=pyrU_ok n _ h2.1 x hx
     exact ⟨this.1,this.2.trans h2.2⟩
theorem imsC_ok {C0:Int}:∀ {ims:List Im},(∀ m∈ims,ImR m∧m.C=C0)→imsC C0 ims=0
 | [],_=>rfl
 | a::r,h=>by
   have h1:=h a (List.mem_cons_self ..)
   unfold imsC
   rw [if_neg (by rw [h1.1.1];decide),if_neg (by rw [h1.2];exact fun e=>e rfl)]
   exact imsC_ok fun m hm=>h m (List.mem_cons_of_mem _ hm)
theorem pyrU_images {n:Nat} {m:Im} (h:ImR m):imagesC (pyrU n m)=0:=by
 have h1:=pyrU_ok n m h
 have h2:=pyrU_len n m
 cases hp:pyrU n m with
 | nil=>rw [hp] at h2;simp at h2
 | cons a r =>
   rw [hp] at h1
   have ha:=h1 a (List.mem_cons_self ..)
   show imsC a.C (a::r)=0
   exact imsC_ok fun x hx=>⟨(h1 x hx).1,by rw [(h1 x hx).2,ha.2]⟩
end Go.Proofs.YtjbelhpgbcnlmaaGreat
end
end
section
set_option linter.unusedVariables false
namespace Go.Proofs.YtjbelhpgbcnlmaaGreat
open Go.RowKit
def ImP (w:World) (lo B:Nat) (cs:List Value) (m:Im):Prop:=ImOwn w lo cs m∨∃ (A:Option Addr) (c:Nat),cs=[.int .i64 m.W,.int .i64 m.H,.int .i64 m.C,.slice A m.px.length c]∧m.px.length≤c∧Rd w B A (m.px.map (Value.int .u8))
def PyRow (w:World) (lo B:Nat) (v:Value) (ims:List Im):Prop:=∃ xs:List (List Value),w.ownsRow lo 24 4 v ims.length xs.flatten∧xs.length=ims.length∧∀ (i:Nat) (h:i<ims.length) (h':i<xs.length),ImP w lo B xs[i] ims[i]
section
variable {w w':World} {lo B:Nat} {v:Value} {ims:List Im} {m:Im} {cs:List Value}
theorem ImP.nx (h:ImP w lo B cs m) (hb:Below w.heap.size w w') (hB:B≤w.heap.size):ImP w' lo B cs m:=by
 rcases h with ⟨s,e,ho⟩|⟨A,c,e,hc,hr⟩
 ·exact .inl ⟨s,e,own_below ho hb (Nat.le_refl _)⟩
 ·exact .inr ⟨A,c,e,hc,hr.below' hb hB⟩
theorem PyRow.nx (h:PyRow w lo B v ims) (hb:Below w.heap.size w w') (hB:B≤w.heap.size):PyRow w' lo B v ims:=by
 obtain ⟨xs,h1,h2,h3⟩:=h
 exact ⟨xs,own_below h1 hb (Nat.le_refl _),h2,fun i a b=>(h3 i a b).nx hb hB⟩
theorem ImP.at (h:ImP w lo B cs m) (hB:B≤w.heap.size):ImAt w 0 cs m:=by
 rcases h with h|⟨A,c,e,hc,hr⟩
 ·exact h.at.less (Nat.zero_le _)
 ·exact ⟨A,c,e,hc,(hr.more hB).rdl⟩
theorem PyRow.form (h:PyRow w lo B v ims) (hB:B≤w.heap.size):∃ A c,v=.slice A ims.length c∧ims.length≤c∧c≤maxLen∧ImsAt w 0 A ims:=by
 obtain ⟨xs,h1,h2,h3⟩:=h
 obtain ⟨A,c,rfl,hc,hm,_⟩:=own_form h1
 exact ⟨A,c,rfl,hc,hm,xs,(RdL.of_own h1).less (Nat.zero_le _),h2,fun i a b=>(h3 i a b).at hB⟩
theorem ImP.gb (h:ImP w lo B cs m) (hg:w.grownBy w' v.ownBlock) {b n:Nat} {xs:List Value} (hv:w.ownsRow b 24 4 v n xs) (hb:B≤b) (hB:B≤w.heap.size):ImP w' lo B cs m:=by
 rcases h with ⟨s,e,ho⟩|⟨A,c,e,hc,hr⟩
 ·exact .inl ⟨s,e,own_gbr ho hg (own_ne ho hv (by decide))⟩
 ·exact .inr ⟨A,c,e,hc,hr.grown hg hB fun g hg'=>by have:=own_ge hv g hg';omega⟩
theorem PyRow.snoc {v' s:Value} {xs:List (List Value)} (hlo:B≤lo) (hB:B≤w.heap.size) (h1:w.ownsRow lo 24 4 v ims.length xs.flatten) (h2:xs.length=ims.length) (h3:∀ (i:Nat) (h:i<ims.length) (h':i<xs.length),ImP w lo B xs[i] ims[i])
 (ho:w.ownsRow lo 5 1 s m.px.length (m.px.map (Value.int .u8))) (hg:w.grownBy w' v.ownBlock)
 (hv:w'.ownsRow lo 24 4 v' (ims.length+1) (xs.flatten++[.int .i64 m.W,.int .i64 m.H,.int .i64 m.C,s])):PyRow w' lo B v' (ims++[m]):=by
 refine ⟨xs++[[.int .i64 m.W,.int .i64 m.H,.int .i64 m.C,s]],?_,by simp [h2],?_⟩
 ·simpa using hv
 ·intro i hi hi'
  by_cases hlt:i<ims.length
  ·rw [List.getElem_append_left (by omega),List.getElem_append_left hlt]
   exact (h3 i hlt (by omega)).gb hg h1 hlo hB
  ·have hil:i=ims.length:=by simp at hi;omega
   subst hil
   refine .inl ⟨s,?_,?_⟩
   ·rw [List.getElem_append_right (by omega),List.getElem_append_right (Nat.le_refl _)];simp [h2]
   ·rw [List.getElem_append_right (Nat.le_refl _)];simp
    exact own_gbr ho hg (own_ne ho h1 (by decide))
theorem PyRow.one {A:Option Addr} {cp:Nat} (hcp:m.px.length≤cp) (hr:Rd w B A (m.px.map (Value.int .u8))) (hB:B≤w.heap.size) (hlo:lo≤w.heap.size):PyRow (w.alloc (.cells #[.int .i64 m.W,.int .i64 m.H,.int .i64 m.C,.slice A m.px.length cp] 24)) lo B (.slice (some ⟨w.heap.size,0,none⟩) 1 1) [m]:=by
 refine ⟨[[.int .i64 m.W,.int .i64 m.H,.int .i64 m.C,.slice A m.px.length cp]],⟨rfl,.inr ⟨w.heap.size,1,_,rfl,hlo,Bk.new w _ _,Nat.le_refl _,by simp [maxLen],rfl,rfl⟩⟩,rfl,?_⟩
 intro i h h'
 have:i=0:=by simp at h;omega
 subst this
 exact .inr ⟨A,cp,rfl,hcp,hr.alloc hB _⟩
end
def PyrP (m:Im) (nn:Int) (w:World) (e:Ending) (w':World):Prop:=Below w.heap.size w w'∧((∃ z,z≠0∧e=.returned (.tuple #[.slice none 0 0,.int .i64 z]))∨(ImR m∧0≤nn∧nn≤15∧∃ A c,e=.returned (.tuple #[.slice A (pyrU nn.toNat m).length c,.int .i64 0])∧(pyrU nn.toNat m).length≤c∧c≤maxLen∧ImsAt w' 0 A (pyrU nn.toNat m)))
set_option maxRecDepth 100000 in
set_option maxHeartbeats 16000000 in
theorem rpyr_any (m:Im) (A:Option Addr) (cp:Nat) (nn:Int) (w:World) {B:Nat} (hr:Rd w B A (m.px.map (Value.int .u8))) (hB:B≤w.heap.size) (hcp:m.px.length≤cp) (hby:∀ j,0≤m.px.getD j 0∧m.px.getD j 0≤255) :
 Calls Tryz.prog 10 #[.agg #[.int .i64 m.W,.int .i64 m.H,.int .i64 m.C,.slice A m.px.length cp],.int .i64 nn] w (PyrP m nn w):=by
 have HBY:=Lib.hid hby
 clear hby
 have hIC:=fun w=>ircheck_any m.W m.H m.C A m.px.length cp w
 obtain ⟨ck,hck⟩:∃ ck,checkC m.W m.H m.C m.px.length=ck:=⟨_,rfl⟩
 simp only [hck] at hIC
 have HCK:=Lib.hid hck
 clear hck
 go_enter Tryz.func10,Tryz.ntmps10
 have hk0:=Bk.new w 24 #[.int .i64 m.W,.int .i64 m.H,.int .i64 m.C,.slice A m.px.length cp]
 have hb0:Below w.heap.size w (w.alloc (.cells #[.int .i64 m.W,.int .i64 m.H,.int .i64 m.C,.slice A m.px.length cp] 24)):=(Below.refl _ _).alloc (Nat.le_refl _) _
 by_cases hck:ck=0
 ·have hcb:(ck != 0)=false:=by simpa using hck
  have hR:ImR m:=⟨by rw [HCK.out,hck],HBY.out⟩
  have HCZ:=Lib.hid hck
  clear hck
  go_wp2_with fail
  refine (hIC _).mono ?_
  rintro e w2 ⟨rfl,hb2⟩
  have hk2:=hk0.nx hb2
  have hb3:=hb0.trans (hb2.mono hb0.size)
  have hz3:=hb3.size
  have hs2:=hb2.size
  simp only [World.size_alloc] at hs2
  clear hb2 hk0 hb0 hIC
  by_cases hn:0≤nn∧nn≤15
  ·have g1:decide (nn<0)=false:=by simp;omega
   have g2:decide (nn > 15)=false:=by simp;omega
   have g3:decide (15<nn)=false:=by simp;omega
   obtain ⟨d0,d1,d2,d3⟩:=hk2.cell4
   have hP1:=PyRow.one (lo:=w.heap.size) hcp (hr.below' hb3 hB) (Nat.le_trans hB hz3) hz3
   obtain ⟨N,hN⟩:∃ N:Nat,nn=N:=⟨nn.toNat,by omega⟩
   subst hN
   have HCM:=Lib.hid hcp
   have HRR:=Lib.hid hr
   clear hr hcp
   have hN15:N≤15:=by omega
   have hBw:B≤w.heap.size:=hB
   clear hn g1 g2 g3
   have g1:decide ((N:Int)<0)=false:=by simp
   have g2:decide ((N:Int) > 15)=false:=by simp;omega
   have g3:decide (15<(N:Int))=false:=by simp;omega
   go_wp2_with fail
   go_loopw [7,8] (fun v i wr=>∃ (k:Nat) (pre:List Im) (last:Im),i=.int .i64 k∧k≤N∧pre.length=k∧pyrU N m=pre++pyrU (N-k) last∧ImR last∧PyRow wr w.heap.size B v (pre++[last])∧Below w.heap.size w wr) (fun _ i _=>N-(intOf i).toNat)
   case atStart =>
    refine ⟨0,[],m,rfl,by omega,rfl,by simp,hR,?_,?_⟩
    ·exact hP1
    ·exact hb3.alloc hz3 _
   case round =>
    obtain ⟨k,pre,last,rfl,hk,hpl,hpy,hRl,hrow,hbel⟩:=hrel
    have HPY:=Lib.hid hpy
    have HRL:=Lib.hid hRl
    have HPL:=Lib.hid hpl
    clear hpy hRl hpl
    have hsz:=hbel.size
    have hlen:(pre++[last]).length=k+1:=by simp [HPL.out]
    have hf:=hrow.form (Nat.le_trans hB hsz)
    rw [hlen] at hf
    obtain ⟨A1,c1,rfl,hlc,hmx,hat⟩:=hf
    by_cases hlt:k<N
    ·obtain ⟨b,o,Ai,ci,rfl,_,hbw,q0,q1,q2,q3,hci,hri⟩:=hat.get k (by omega)
     have hel:(pre++[last])[k]'(by omega)=last:=by
      rw [List.getElem_append_right (by rw [HPL.out];exact Nat.le_refl _)];simp
     rw [hel] at q0 q1 q2 q3 hci hri
     obtain ⟨W,H,C,hW,hH,hC,hWb,hHb,hCb,hpp,hnn⟩:=HRL.out.nat
     have hm1:wrap64 (last.W*last.H)=last.W*last.H:=by
      rw [hW,hH,← Int.natCast_mul];exact IntWalk.wrap64_in _ ⟨by omega,by omega⟩
     have HW:=Lib.hid hW
     have HH:=Lib.hid hH
     clear hW hH hC hWb hHb hCb hpp hnn hel
     have hl1:((k+1:Nat):Int)-1=k:=by omega
     have hw1:wrap64 (((k+1:Nat):Int)-1)=k:=by rw [hl1];exact IntWalk.wrap64_in (k:Int) ⟨by omega,by omega⟩
     go_upto_region 11 with fail
     have hb1:Below wr.heap.size wr (wr.alloc (.cells #[.int .i64 last.W,.int .i64 last.H,.int .i64 last.C,.slice Ai last.px.length ci] 24)):=(Below.refl _ _).alloc (Nat.le_refl _) _
     have kq:=Bk.new wr 24 #[.int .i64 last.W,.int .i64 last.H,.int .i64 last.C,.slice Ai last.px.length ci]
     have hz1:wr.heap.size<(wr.alloc (.cells #[.int .i64 last.W,.int .i64 last.H,.int .i64 last.C,.slice Ai last.px.length ci] 24)).heap.size:=by simp
     generalize wr.alloc (.cells #[.int .i64 last.W,.int .i64 last.H,.int .i64 last.C,.slice Ai last.px.length ci] 24)=w1 at *
     obtain ⟨e0,e1,e2,e3⟩:=kq.cell4
     clear q0 q1 q2 q3
     have hrow1:=hrow.nx hb1 (Nat.le_trans hB hsz)
     have hbel1:=hbel.trans (hb1.mono hsz)
     by_cases h1:last.W*last.H=1
     ·have hpx:pyrU N m=pre++[last]:=by
       rw [HPY.out,show N-k=(N-k-1)+1 by omega]
       unfold pyrU
       rw [if_pos h1]
      have HPX:=Lib.hid hpx
      have hq:(last.W*last.H==1)=true:=by rw [h1];rfl
      have hq2:(wrap64 (last.W*last.H)==1)=true:=by rw [hm1];exact hq
      clear hpx h1 hm1
      go_wp2_with fail
      go_returns
      have hat1:=hat.nx hb1 (Nat.le_refl _)
      rw [← HPX.out] at hat1 hlen
      refine ⟨hbel1,.inr ⟨hR,by omega,by omega,some ⟨b,o,none⟩,c1,?_,?_,hmx,?_⟩⟩
      ·rw [Int.toNat_natCast,hlen];rfl
      ·rw [Int.toNat_natCast,hlen];exact hlc
      ·rw [Int.toNat_natCast];exact hat1
     ·have hpx:pyrU N m=(pre++[last])++pyrU (N-(k+1)) (halfIm last):=by
       rw [HPY.out,show N-k=(N-(k+1))+1 by omega]
       conv=>lhs;unfold pyrU
       rw [if_neg h1];simp
      have HPX:=Lib.hid hpx
      have hq:(last.W*last.H==1)=false:=by simpa using h1
      have hHf:=fun w' hr' hB'=>rhalf_im last Ai ci w' (B:=w'.heap.size) HRL.out hr' hB' hci
      have hq2:(wrap64 (last.W*last.H)==1)=false:=by rw [hm1];exact hq
      clear hpx h1 hm1
      go_wp2_with fail
      refine (hHf _ (hri.below hb1 (Nat.le_refl _)).rd (Nat.le_refl _)).mono ?_
      rintro e w3 ⟨s3,rfl,ho3,hb3'⟩
      have hrow3:=hrow1.nx hb3' (by omega)
      have hbel3:=hbel1.trans (hb3'.mono (by omega))
      have hz3':=hb3'.size
      obtain ⟨xs3,hx0,hx1,hx2⟩:=hrow3
      have hx5:=hx0
      rw [hlen] at hx5
      have hsz3:w.heap.size≤w3.heap.size:=by omega
      clear hb1 hb3' kq e0 e1 e2 e3 hrow hrow1 hri hat hbel hbel1
      obtain ⟨A3,c3,rfl,_⟩:=own_form ho3
      have HHL:=Lib.hid (halfIm_ok HRL.out).1
      generalize halfIm last=hl at *
      go_wp2_with (at_builtin;go_loud (refine app1o rfl _ _ _ rfl Tryz.underlying36 img_info rfl (by omega) hx5 rfl rfl hbel3 (Nat.le_refl _) hsz3 rfl (by simp [Value.oneCell']) (by omega) (by omega) ?_);intro v' w7 ho7 hb7 hs7 hg7 _)
      have ho3':=own_base ho3 (show w.heap.size≤w1.heap.size by omega)
      have hno8:PyRow w7 w.heap.size B v' ((pre++[last])++[hl]):=PyRow.snoc hB (by omega) hx0 hx1 hx2 ho3' hg7 (by rw [hlen];exact ho7)
      exact ⟨⟨k+1,pre++[last],hl,by go_num,by omega,hlen,HPX.out,HHL.out,hno8,hb7⟩,by simp [intOf];omega⟩
    ·obtain rfl:k=N:=by omega
     have hpx:pyrU k m=pre++[last]:=by
      rw [HPY.out,Nat.sub_self];rfl
     have HPX:=Lib.hid hpx
     clear hpx
     go_wp2_with fail
     go_returns
     rw [← HPX.out] at hat hlen
     refine ⟨hbel,.inr ⟨hR,by omega,by omega,A1,c1,?_,?_,hmx,?_⟩⟩
     ·rw [Int.toNat_natCast,hlen];rfl
     ·rw [Int.toNat_natCast,hlen];exact hlc
     ·rw [Int.toNat_natCast];exact hat
  ·by_cases hn0:nn<0
   ·have g1:decide (nn<0)=true:=by simp;omega
    have HN:=Lib.hid hn0
    clear hn hn0
    go_wp2_with fail
    go_returns
    exact ⟨hb3,.inl ⟨10,by decide,rfl⟩⟩
   ·have g1:decide (nn<0)=false:=by simp;omega
    have g2:decide (nn > 15)=true:=by simp;omega
    have g3:decide (15<nn)=true:=by simp;omega
    have HN:=Lib.hid hn0
    clear hn hn0
    go_wp2_with fail
    go_returns
    exact ⟨hb3,.inl ⟨10,by decide,rfl⟩⟩
 ·have hcb:(ck != 0)=true:=by simpa using hck
  have HCZ:=Lib.hid hck
  clear hck
  go_wp2_with (go_at_call 27;(with_reducible refine (hIC _).mono ?_);rintro e w2 ⟨rfl,hb2⟩)
  go_returns
  exact ⟨hb0.trans (hb2.mono hb0.size),.inl ⟨ck,HCZ.out,rfl⟩⟩
end Go.Proofs.YtjbelhpgbcnlmaaGreat
end
