/- Several texts in one: The reference's mesh: where a place comes from. (Printed by wip/tools/genn4.py.) Several texts in one: The reference's maps answer as the program's: affine and mesh, plain. The reference's xform: where a place comes from, by a mesh. The reference's xform: where a place comes from, by a shear; by any kind. The reference's xform: where a place comes from, by a map of any kind. -/
import Derived.Test.YtjbelhpgbcnlmaaGreatSamplePixelsZz32
import Derived.Test.YtjbelhpgbcnlmaaGreatSamplePixelsZz5
import Derived.Test.YtjbelhpgbcnlmaaGreatSamplePixelsZz33
import Derived.Test.YtjbelhpgbcnlmaaGreatSamplePixelsZz34
import Derived.Test.YtjbelhpgbcnlmaaGreatSamplePixelsZz35
section
set_option linter.unusedVariables false
namespace Go.Proofs.YtjbelhpgbcnlmaaGreat
open Go.RowKit
attribute [local go_sem high] run_maxM run_minM
def rmU (l:List Int) (t:Nat) (px py d:Int):Int:=cutZ (flo (meSm l (fun i k=>knW l i k t) px py d) (meAl l d))
theorem keepN {w w':World} {B b p q:Nat} {u v:Value} (h1:w.cell? ⟨b,p,none⟩=some u) (h2:w.cell? ⟨b,q,none⟩=some v) (hb:b<B) (h:Below B w w') :
 w'.cell? ⟨b,p,none⟩=some u∧w'.cell? ⟨b,q,none⟩=some v∧Below B w w':=⟨(h.cell hb).trans h1,(h.cell hb).trans h2,h⟩
theorem knW_bd {l:List Int} (h:MeF l) (t:Nat) (i k:Int):-2147483648≤knW l i k t∧knW l i k t≤2147483648:=h.far _ (by omega)
set_option maxRecDepth 100000 in
set_option maxHeartbeats 32000000 in
theorem rat21 (l:List Int) (A:Option Addr) (n cp:Nat) (px py d:Int) (t:Nat) (w:World) {B:Nat} (hF:MeF l) (hl:l.length=n) (hln:(l.length:Int)=meLn l) (hr:Rd w B A (l.map (Value.int .i64))) (hB:B≤w.heap.size) (hd:1≤d∧d≤16) (hpx:-4194304≤px∧px≤4194304) (hpy:-4194304≤py∧py≤4194304) (ht:t<2) :
 Calls Tryz.prog 117 #[.slice A n cp,.int .i64 px,.int .i64 py,.int .i64 d,.int .i64 (t:Int)] w fun e w'=>e=.returned (.int .i64 (rmU l t px py d))∧Below w.heap.size w w':=by
 have hb0:=Below.refl w.heap.size w
 obtain ⟨hK,hK2,hK3⟩:=ln_K hF hln
 obtain ⟨b,o,rfl,hb,hc⟩:=lget4 (by omega) hr
 rw [hl] at hc
 have hbw:b<w.heap.size:=by omega
 have d0:=hc 0 (by omega)
 have d1:=hc 1 (by omega)
 have d2:=hc 2 (by omega)
 have d3:=hc 3 (by omega)
 rw [Nat.add_zero] at d0
 have l0:(0:Int)<(n:Int):=by omega
 have l1:(1:Int)<(n:Int):=by omega
 have l2:(2:Int)<(n:Int):=by omega
 have l3:(3:Int)<(n:Int):=by omega
 obtain ⟨hwt,hal⟩:=meWt_bd (px:=px) (py:=py) hF hd
 have hvb:=meV_bd (fun i k=>knW_bd hF t i k) (meI (cf l 0) (cf l 2) px d) (meI (cf l 1) (cf l 3) py d)
 have hmx:=fun j hj=>mx_bd hwt hvb j hj
 have hcx:=fun w'=>(rmcell_any (cf l 0) (cf l 2) px d w' hF.gx hF.nx hd hpx).mono (R':=fun e w''=>e=.returned (.tuple #[.int .i64 (meI (cf l 0) (cf l 2) px d),.int .i64 (meT (cf l 0) (cf l 2) px d)])∧w''=w') fun e w'' ⟨q1,q2⟩=>⟨q1,q2.symm⟩
 have hcy:=fun w'=>(rmcell_any (cf l 1) (cf l 3) py d w' hF.gy hF.ny hd hpy).mono (R':=fun e w''=>e=.returned (.tuple #[.int .i64 (meI (cf l 1) (cf l 3) py d),.int .i64 (meT (cf l 1) (cf l 3) py d)])∧w''=w') fun e w'' ⟨q1,q2⟩=>⟨q1,q2.symm⟩
 obtain ⟨_,⟨i0,i1⟩,s0,s1⟩:=meB (p:=px) hF.gx.1 hF.nx.1 hd.1
 obtain ⟨_,⟨j0,j1⟩,t0,t1⟩:=meB (p:=py) hF.gy.1 hF.ny.1 hd.1
 obtain ⟨_,_,w0,w1⟩:=me_room hF.gx hF.nx hd
 obtain ⟨_,_,h0,h1⟩:=me_room hF.gy hF.ny hd
 have hnx:=hF.nx
 have hny:=hF.ny
 have HU:Hid (rmU l t px py d=cutZ (flo (mxs (meV (fun i k=>knW l i k t) (meI (cf l 0) (cf l 2) px d) (meI (cf l 1) (cf l 3) py d)) (meWt l px py d) 4) (meAl l d))):=rfl
 have hWt:∀ j,meWt l px py d j=meB4 (cf l 0*d) (meT (cf l 0) (cf l 2) px d) (cf l 1*d) (meT (cf l 1) (cf l 3) py d) j:=fun _=>rfl
 have hAl:meAl l d=(cf l 0*d)*(cf l 1*d):=rfl
 have e1:IntKind.i64.wrap (cf l 0*d)=cf l 0*d:=IntWalk.i64_in _ ⟨by omega,by omega⟩
 have e2:IntKind.i64.wrap (cf l 1*d)=cf l 1*d:=IntWalk.i64_in _ ⟨by omega,by omega⟩
 generalize rmU l t px py d=RES at *
 obtain ⟨Is,hIs⟩:∃ z,meI (cf l 0) (cf l 2) px d=z:=⟨_,rfl⟩
 obtain ⟨Js,hJs⟩:∃ z,meI (cf l 1) (cf l 3) py d=z:=⟨_,rfl⟩
 obtain ⟨S,hS⟩:∃ z,meT (cf l 0) (cf l 2) px d=z:=⟨_,rfl⟩
 obtain ⟨T,hT⟩:∃ z,meT (cf l 1) (cf l 3) py d=z:=⟨_,rfl⟩
 rw [hIs] at hvb hmx hcx i0 i1 HU
 rw [hJs] at hvb hmx hcy j0 j1 HU
 rw [hS] at hcx hWt s0 s1
 rw [hT] at hcy hWt t0 t1
 obtain ⟨wt,hwte⟩:∃ z,meWt l px py d=z:=⟨_,rfl⟩
 rw [hwte] at hwt hmx HU hWt
 obtain ⟨vv,hvve⟩:∃ z,meV (fun i k=>knW l i k t) Is Js=z:=⟨_,rfl⟩
 rw [hvve] at hvb hmx HU
 have hV0:vv 0=knW l Is Js t:=by rw [← hvve];rfl
 have hV1:vv 1=knW l (Is+1) Js t:=by rw [← hvve];rfl
 have hV2:vv 2=knW l Is (Js+1) t:=by rw [← hvve];rfl
 have hV3:vv 3=knW l (Is+1) (Js+1) t:=by rw [← hvve];rfl
 obtain ⟨AL,hALe⟩:∃ z,meAl l d=z:=⟨_,rfl⟩
 rw [hALe] at hal hAl HU
 have HWt:=Lib.hid hWt
 have HAl:=Lib.hid hAl
 have HV:=Lib.hid (show vv 0=knW l Is Js t∧vv 1=knW l (Is+1) Js t∧vv 2=knW l Is (Js+1) t∧vv 3=knW l (Is+1) (Js+1) t from ⟨hV0,hV1,hV2,hV3⟩)
 have HF:Hid (MeF l):=hF
 have HM:=Lib.hid hmx
 have HWb:=Lib.hid hwt
 have HVb:=Lib.hid hvb
 have HL:=Lib.hid hl
 have HLn:=Lib.hid hln
 clear hV0 hV1 hV2 hV3 hALe hvve hwte hIs hJs hS hT hWt hAl hF hmx hwt hvb hK hK2 hK3 hl hln hc hpx hpy hd
 have HCc0:=Lib.hid d0
 have HCc1:=Lib.hid d1
 go_enter Tryz.func117,Tryz.ntmps117
 go_upto_region 1 with fail
 go_quiet ((go_at_call 191;with_reducible exact Calls.quiet_of_same (hcx _)))
 replace hb0:=below_drewN hb0 nq
 generalize w.drewN nq=w4 at *
 replace d1:=(hb0.cell (p:=⟨b,o+1,none⟩) hbw).trans d1
 replace d3:=(hb0.cell (p:=⟨b,o+3,none⟩) hbw).trans d3
 go_upto_region 2 with fail
 go_quiet ((go_at_call 191;with_reducible exact Calls.quiet_of_same (hcy _)))
 replace hb0:=below_drewN hb0 nq
 generalize w4.drewN nq=w5 at *
 clear hcx hcy d0 d1 d2 d3
 have d0:=(hb0.cell (p:=⟨b,o,none⟩) hbw).trans HCc0.out
 have d1:=(hb0.cell (p:=⟨b,o+1,none⟩) hbw).trans HCc1.out
 go_wp2_with fail
 refine (of_any 0 _ (by omega) (by omega)).mono ?_
 rintro e w6 ⟨v1,rfl,hN1,hb1⟩
 obtain ⟨s1',A1,n1,c1,rfl⟩:=hN1.shape
 have hz1:=hb1.size
 have hz0:=hb0.size
 generalize cf l 0*d=W at *
 generalize cf l 1*d=H at *
 have ws:IntKind.i64.wrap (W-S)=W-S:=IntWalk.i64_in _ ⟨by omega,by omega⟩
 have hs:IntKind.i64.wrap (H-T)=H-T:=IntWalk.i64_in _ ⟨by omega,by omega⟩
 have wi0:IntKind.i64.wrap Is=Is:=IntWalk.i64_in _ ⟨by omega,by omega⟩
 have wi1:IntKind.i64.wrap (Is+1)=Is+1:=IntWalk.i64_in _ ⟨by omega,by omega⟩
 have wj0:IntKind.i64.wrap Js=Js:=IntWalk.i64_in _ ⟨by omega,by omega⟩
 have wz0:IntKind.i64.wrap 0=0:=by decide
 have wz1:IntKind.i64.wrap 1=1:=by decide
 have wj1:IntKind.i64.wrap (Js+1)=Js+1:=IntWalk.i64_in _ ⟨by omega,by omega⟩
 go_wp2_with fail
 go_loopw [18] (fun iv wr=>∃ (k:Nat) (s:Bool) (A:Option Addr) (m c:Nat),k≤4∧iv=.int .i64 k∧Bk wr w6.heap.size 166 #[.bool s,.slice A m c] ∧
  BigN w.heap.size wr (.agg #[.bool s,.slice A m c]) (mxs vv wt k)∧Below w.heap.size w wr) (fun iv _=>4-(intOf iv).toNat)
 case atStart =>
  refine ⟨0,s1',A1,n1,c1,by omega,rfl,Bk.new w6 _ _,(hN1.alloc _).less (by omega),?_⟩
  exact (hb0.trans (hb1.mono (by omega))).alloc (by omega) _
 case round =>
  obtain ⟨k,s,A3,n3,c3,hk,rfl,hK3,hN,hbr⟩:=hrel
  have hl3:=hK3.lt
  have hrr:=hr.below' hbr hB
  have hMk:=HM.out k hk
  have hzr:=hbr.size
  clear hb0 hb1 hN1 d0 d1
  rcases (show k=0∨k=1∨k=2∨k=3∨k=4 by omega) with rfl|rfl|rfl|rfl|rfl
  ·obtain ⟨z,hz⟩:∃ z,wt 0=z:=⟨_,rfl⟩
   have hzw:z=(W-S)*(H-T):=by rw [← hz,HWt.out];rfl
   have hzb:=HWb.out 0
   rw [hz] at hzb
   obtain ⟨hv0,hv1,hv2,hv3⟩:=HV.out
   have hvk:=HVb.out 0
   have hMn:=HM.out 1 (by omega)
   have hzz:IntKind.i64.wrap ((W-S)*(H-T))=z:=by rw [← hzw];exact IntWalk.i64_in _ ⟨by omega,by omega⟩
   have HKn:Hid (∀ (w':World),Below w.heap.size w w'→Calls Tryz.prog 192 #[.slice (some ⟨b,o,none⟩) n cp,.int .i64 (Is),.int .i64 (Js),.int .i64 (t:Int)] w' fun e w''=>e=.returned (.int .i64 (vv 0))∧w'=w''):=fun w' hw'=>by
    rw [hv0]
    exact rknot_any l _ n cp (Is) (Js) t w' HF.out HL.out HLn.out (hr.below' hw' hB) (by omega) (by omega) ht
   have HS1:Hid (mxs vv wt 1=mxs vv wt 0+z*vv 0):=by rw [← hz];rfl
   have hp:=hMk.2.2
   rw [hz] at hp
   generalize vv 0=y at *
   have sz:Sm z:=sm_of (by omega) (by omega)
   have sy:Sm y:=sm_of (by omega) (by omega)
   have sp:Sm (z*y):=sm_of (by omega) (by omega)
   have ss:Sm (mxs vv wt 0):=sm_of (by omega) (by omega)
   have HT2:=Lib.hid hv0
   have HMn:=Lib.hid hMn
   clear hv0 hv1 hv2 hv3 hzw hp hMk hMn HM HV HVb HWb HWt
   go_upto_region 15 with fail
   obtain ⟨c0,c1⟩:=hK3.cell2
   have hN':=hN.drew
   have hBr:=hbr.drew
   go_region_with (first
    | (go_at_call 132;(with_reducible refine (of_any z _ (by omega) (by omega)).mono ?_);rintro e wa ⟨va,rfl,hNa,hba⟩;have hza:=hba.size;have hBa:Below wr.heap.size wr wa:=(by first | exact hBb.trans (hba.mono hBb.size)|exact ((Below.refl wr.heap.size wr).drew).trans (hba.mono (Nat.le_refl _)));have ca0:=(hBa.cell (p:=⟨w6.heap.size,0,none⟩) hl3).trans c0;have ca1:=(hBa.cell (p:=⟨w6.heap.size,1,none⟩) hl3).trans c1)
    | (go_at_call 132;(with_reducible refine (of_any y _ (by omega) (by omega)).mono ?_);rintro e wb ⟨vb,rfl,hNb,hbb⟩;have hzb2:=hbb.size;have hBb:Below wr.heap.size wr wb:=(by first | exact hBa.trans (hbb.mono hBa.size)|exact ((Below.refl wr.heap.size wr).drew).trans (hbb.mono (Nat.le_refl _)));have cb0:=(hBb.cell (p:=⟨w6.heap.size,0,none⟩) hl3).trans c0;have cb1:=(hBb.cell (p:=⟨w6.heap.size,1,none⟩) hl3).trans c1)
    | (go_at_call 192;(with_reducible refine (HKn.out _ (by first | exact hbr.trans (hBb.mono hzr)|exact hbr.trans (hBa.mono hzr)|exact hBr)).mono ?_);rintro e w' ⟨rfl,rfl⟩)
    | (go_at_call 181;(with_reducible refine (mul_any _ _ z y _ (by first | exact hNa|exact hNa.nx hbb) (by first | exact hNb|exact hNb.nx hba) sz sy).mono ?_);rintro e wm ⟨vm,rfl,hNm,hbm⟩;have hzm:=hbm.size;have hBm:Below wr.heap.size wr wm:=(by first | exact hBb.trans (hbm.mono hBb.size)|exact hBa.trans (hbm.mono hBa.size));have cm0:=(hBm.cell (p:=⟨w6.heap.size,0,none⟩) hl3).trans c0;have cm1:=(hBm.cell (p:=⟨w6.heap.size,1,none⟩) hl3).trans c1)
    | (go_at_call 184;(with_reducible refine (add_any _ _ _ _ _ (hN.keep hBm (Nat.le_refl _)) hNm ss sp).mono ?_);rintro e wd ⟨vd,rfl,hNd,hbd⟩;obtain ⟨sd,Ad,nd,cd,rfl⟩:=hNd.shape;have hzd:=hbd.size;have hBd:Below wr.heap.size wr wd:=hBm.trans (hbd.mono hBm.size);have hK3d:=hK3.below hBd hl3;obtain ⟨cd0,cd1⟩:=hK3d.cell2;have fd0:=hK3d.frozen 0;have fd1:=hK3d.frozen 1))
   all_goals
    go_wp2_with fail
    have hzz9:=hBd.size
    have hzz8:=hBm.size
    rw [← HS1.out] at hNd
    exact ⟨⟨1,sd,Ad,nd,cd,by omega,rfl,hK3d.set2 _ _,(hNd.grown (gb2 wd _ _ _) (.inl (by omega))).less (by omega),below_of_gb (hbr.trans (hBd.mono hzr)) (gb2 wd _ _ _) (by omega) (by omega)⟩,by simp [intOf]⟩
  ·obtain ⟨z,hz⟩:∃ z,wt 1=z:=⟨_,rfl⟩
   have hzw:z=S*(H-T):=by rw [← hz,HWt.out];rfl
   have hzb:=HWb.out 1
   rw [hz] at hzb
   obtain ⟨hv0,hv1,hv2,hv3⟩:=HV.out
   have hvk:=HVb.out 1
   have hMn:=HM.out 2 (by omega)
   have hzz:IntKind.i64.wrap (S*(H-T))=z:=by rw [← hzw];exact IntWalk.i64_in _ ⟨by omega,by omega⟩
   have HKn:Hid (∀ (w':World),Below w.heap.size w w'→Calls Tryz.prog 192 #[.slice (some ⟨b,o,none⟩) n cp,.int .i64 (Is+1),.int .i64 (Js),.int .i64 (t:Int)] w' fun e w''=>e=.returned (.int .i64 (vv 1))∧w'=w''):=fun w' hw'=>by
    rw [hv1]
    exact rknot_any l _ n cp (Is+1) (Js) t w' HF.out HL.out HLn.out (hr.below' hw' hB) (by omega) (by omega) ht
   have HS1:Hid (mxs vv wt 2=mxs vv wt 1+z*vv 1):=by rw [← hz];rfl
   have hp:=hMk.2.2
   rw [hz] at hp
   generalize vv 1=y at *
   have sz:Sm z:=sm_of (by omega) (by omega)
   have sy:Sm y:=sm_of (by omega) (by omega)
   have sp:Sm (z*y):=sm_of (by omega) (by omega)
   have ss:Sm (mxs vv wt 1):=sm_of (by omega) (by omega)
   have HT2:=Lib.hid hv0
   have HMn:=Lib.hid hMn
   clear hv0 hv1 hv2 hv3 hzw hp hMk hMn HM HV HVb HWb HWt
   go_upto_region 15 with fail
   obtain ⟨c0,c1⟩:=hK3.cell2
   have hN':=hN.drew
   have hBr:=hbr.drew
   go_region_with (first
    | (go_at_call 132;(with_reducible refine (of_any z _ (by omega) (by omega)).mono ?_);rintro e wa ⟨va,rfl,hNa,hba⟩;have hza:=hba.size;have hBa:Below wr.heap.size wr wa:=(by first | exact hBb.trans (hba.mono hBb.size)|exact ((Below.refl wr.heap.size wr).drew).trans (hba.mono (Nat.le_refl _)));have ca0:=(hBa.cell (p:=⟨w6.heap.size,0,none⟩) hl3).trans c0;have ca1:=(hBa.cell (p:=⟨w6.heap.size,1,none⟩) hl3).trans c1)
    | (go_at_call 132;(with_reducible refine (of_any y _ (by omega) (by omega)).mono ?_);rintro e wb ⟨vb,rfl,hNb,hbb⟩;have hzb2:=hbb.size;have hBb:Below wr.heap.size wr wb:=(by first | exact hBa.trans (hbb.mono hBa.size)|exact ((Below.refl wr.heap.size wr).drew).trans (hbb.mono (Nat.le_refl _)));have cb0:=(hBb.cell (p:=⟨w6.heap.size,0,none⟩) hl3).trans c0;have cb1:=(hBb.cell (p:=⟨w6.heap.size,1,none⟩) hl3).trans c1)
    | (go_at_call 192;(with_reducible refine (HKn.out _ (by first | exact hbr.trans (hBb.mono hzr)|exact hbr.trans (hBa.mono hzr)|exact hBr)).mono ?_);rintro e w' ⟨rfl,rfl⟩)
    | (go_at_call 181;(with_reducible refine (mul_any _ _ z y _ (by first | exact hNa|exact hNa.nx hbb) (by first | exact hNb|exact hNb.nx hba) sz sy).mono ?_);rintro e wm ⟨vm,rfl,hNm,hbm⟩;have hzm:=hbm.size;have hBm:Below wr.heap.size wr wm:=(by first | exact hBb.trans (hbm.mono hBb.size)|exact hBa.trans (hbm.mono hBa.size));have cm0:=(hBm.cell (p:=⟨w6.heap.size,0,none⟩) hl3).trans c0;have cm1:=(hBm.cell (p:=⟨w6.heap.size,1,none⟩) hl3).trans c1)
    | (go_at_call 184;(with_reducible refine (add_any _ _ _ _ _ (hN.keep hBm (Nat.le_refl _)) hNm ss sp).mono ?_);rintro e wd ⟨vd,rfl,hNd,hbd⟩;obtain ⟨sd,Ad,nd,cd,rfl⟩:=hNd.shape;have hzd:=hbd.size;have hBd:Below wr.heap.size wr wd:=hBm.trans (hbd.mono hBm.size);have hK3d:=hK3.below hBd hl3;obtain ⟨cd0,cd1⟩:=hK3d.cell2;have fd0:=hK3d.frozen 0;have fd1:=hK3d.frozen 1))
   all_goals
    go_wp2_with fail
    have hzz9:=hBd.size
    have hzz8:=hBm.size
    rw [← HS1.out] at hNd
    exact ⟨⟨2,sd,Ad,nd,cd,by omega,rfl,hK3d.set2 _ _,(hNd.grown (gb2 wd _ _ _) (.inl (by omega))).less (by omega),below_of_gb (hbr.trans (hBd.mono hzr)) (gb2 wd _ _ _) (by omega) (by omega)⟩,by simp [intOf]⟩
  ·obtain ⟨z,hz⟩:∃ z,wt 2=z:=⟨_,rfl⟩
   have hzw:z=(W-S)*(T):=by rw [← hz,HWt.out];rfl
   have hzb:=HWb.out 2
   rw [hz] at hzb
   obtain ⟨hv0,hv1,hv2,hv3⟩:=HV.out
   have hvk:=HVb.out 2
   have hMn:=HM.out 3 (by omega)
   have hzz:IntKind.i64.wrap ((W-S)*(T))=z:=by rw [← hzw];exact IntWalk.i64_in _ ⟨by omega,by omega⟩
   have HKn:Hid (∀ (w':World),Below w.heap.size w w'→Calls Tryz.prog 192 #[.slice (some ⟨b,o,none⟩) n cp,.int .i64 (Is),.int .i64 (Js+1),.int .i64 (t:Int)] w' fun e w''=>e=.returned (.int .i64 (vv 2))∧w'=w''):=fun w' hw'=>by
    rw [hv2]
    exact rknot_any l _ n cp (Is) (Js+1) t w' HF.out HL.out HLn.out (hr.below' hw' hB) (by omega) (by omega) ht
   have HS1:Hid (mxs vv wt 3=mxs vv wt 2+z*vv 2):=by rw [← hz];rfl
   have hp:=hMk.2.2
   rw [hz] at hp
   generalize vv 2=y at *
   have sz:Sm z:=sm_of (by omega) (by omega)
   have sy:Sm y:=sm_of (by omega) (by omega)
   have sp:Sm (z*y):=sm_of (by omega) (by omega)
   have ss:Sm (mxs vv wt 2):=sm_of (by omega) (by omega)
   have HT2:=Lib.hid hv0
   have HMn:=Lib.hid hMn
   clear hv0 hv1 hv2 hv3 hzw hp hMk hMn HM HV HVb HWb HWt
   go_upto_region 15 with fail
   obtain ⟨c0,c1⟩:=hK3.cell2
   have hN':=hN.drew
   have hBr:=hbr.drew
   go_region_with (first
    | (go_at_call 132;(with_reducible refine (of_any z _ (by omega) (by omega)).mono ?_);rintro e wa ⟨va,rfl,hNa,hba⟩;have hza:=hba.size;have hBa:Below wr.heap.size wr wa:=(by first | exact hBb.trans (hba.mono hBb.size)|exact ((Below.refl wr.heap.size wr).drew).trans (hba.mono (Nat.le_refl _)));have ca0:=(hBa.cell (p:=⟨w6.heap.size,0,none⟩) hl3).trans c0;have ca1:=(hBa.cell (p:=⟨w6.heap.size,1,none⟩) hl3).trans c1)
    | (go_at_call 132;(with_reducible refine (of_any y _ (by omega) (by omega)).mono ?_);rintro e wb ⟨vb,rfl,hNb,hbb⟩;have hzb2:=hbb.size;have hBb:Below wr.heap.size wr wb:=(by first | exact hBa.trans (hbb.mono hBa.size)|exact ((Below.refl wr.heap.size wr).drew).trans (hbb.mono (Nat.le_refl _)));have cb0:=(hBb.cell (p:=⟨w6.heap.size,0,none⟩) hl3).trans c0;have cb1:=(hBb.cell (p:=⟨w6.heap.size,1,none⟩) hl3).trans c1)
    | (go_at_call 192;(with_reducible refine (HKn.out _ (by first | exact hbr.trans (hBb.mono hzr)|exact hbr.trans (hBa.mono hzr)|exact hBr)).mono ?_);rintro e w' ⟨rfl,rfl⟩)
    | (go_at_call 181;(with_reducible refine (mul_any _ _ z y _ (by first | exact hNa|exact hNa.nx hbb) (by first | exact hNb|exact hNb.nx hba) sz sy).mono ?_);rintro e wm ⟨vm,rfl,hNm,hbm⟩;have hzm:=hbm.size;have hBm:Below wr.heap.size wr wm:=(by first | exact hBb.trans (hbm.mono hBb.size)|exact hBa.trans (hbm.mono hBa.size));have cm0:=(hBm.cell (p:=⟨w6.heap.size,0,none⟩) hl3).trans c0;have cm1:=(hBm.cell (p:=⟨w6.heap.size,1,none⟩) hl3).trans c1)
    | (go_at_call 184;(with_reducible refine (add_any _ _ _ _ _ (hN.keep hBm (Nat.le_refl _)) hNm ss sp).mono ?_);rintro e wd ⟨vd,rfl,hNd,hbd⟩;obtain ⟨sd,Ad,nd,cd,rfl⟩:=hNd.shape;have hzd:=hbd.size;have hBd:Below wr.heap.size wr wd:=hBm.trans (hbd.mono hBm.size);have hK3d:=hK3.below hBd hl3;obtain ⟨cd0,cd1⟩:=hK3d.cell2;have fd0:=hK3d.frozen 0;have fd1:=hK3d.frozen 1))
   all_goals
    go_wp2_with fail
    have hzz9:=hBd.size
    have hzz8:=hBm.size
    rw [← HS1.out] at hNd
    exact ⟨⟨3,sd,Ad,nd,cd,by omega,rfl,hK3d.set2 _ _,(hNd.grown (gb2 wd _ _ _) (.inl (by omega))).less (by omega),below_of_gb (hbr.trans (hBd.mono hzr)) (gb2 wd _ _ _) (by omega) (by omega)⟩,by simp [intOf]⟩
  ·obtain ⟨z,hz⟩:∃ z,wt 3=z:=⟨_,rfl⟩
   have hzw:z=S*(T):=by rw [← hz,HWt.out];rfl
   have hzb:=HWb.out 3
   rw [hz] at hzb
   obtain ⟨hv0,hv1,hv2,hv3⟩:=HV.out
   have hvk:=HVb.out 3
   have hMn:=HM.out 4 (by omega)
   have hzz:IntKind.i64.wrap (S*(T))=z:=by rw [← hzw];exact IntWalk.i64_in _ ⟨by omega,by omega⟩
   have HKn:Hid (∀ (w':World),Below w.heap.size w w'→Calls Tryz.prog 192 #[.slice (some ⟨b,o,none⟩) n cp,.int .i64 (Is+1),.int .i64 (Js+1),.int .i64 (t:Int)] w' fun e w''=>e=.returned (.int .i64 (vv 3))∧w'=w''):=fun w' hw'=>by
    rw [hv3]
    exact rknot_any l _ n cp (Is+1) (Js+1) t w' HF.out HL.out HLn.out (hr.below' hw' hB) (by omega) (by omega) ht
   have HS1:Hid (mxs vv wt 4=mxs vv wt 3+z*vv 3):=by rw [← hz];rfl
   have hp:=hMk.2.2
   rw [hz] at hp
   generalize vv 3=y at *
   have sz:Sm z:=sm_of (by omega) (by omega)
   have sy:Sm y:=sm_of (by omega) (by omega)
   have sp:Sm (z*y):=sm_of (by omega) (by omega)
   have ss:Sm (mxs vv wt 3):=sm_of (by omega) (by omega)
   have HT2:=Lib.hid hv0
   have HMn:=Lib.hid hMn
   clear hv0 hv1 hv2 hv3 hzw hp hMk hMn HM HV HVb HWb HWt
   go_upto_region 15 with fail
   obtain ⟨c0,c1⟩:=hK3.cell2
   have hN':=hN.drew
   have hBr:=hbr.drew
   go_region_with (first
    | (go_at_call 132;(with_reducible refine (of_any z _ (by omega) (by omega)).mono ?_);rintro e wa ⟨va,rfl,hNa,hba⟩;have hza:=hba.size;have hBa:Below wr.heap.size wr wa:=(by first | exact hBb.trans (hba.mono hBb.size)|exact ((Below.refl wr.heap.size wr).drew).trans (hba.mono (Nat.le_refl _)));have ca0:=(hBa.cell (p:=⟨w6.heap.size,0,none⟩) hl3).trans c0;have ca1:=(hBa.cell (p:=⟨w6.heap.size,1,none⟩) hl3).trans c1)
    | (go_at_call 132;(with_reducible refine (of_any y _ (by omega) (by omega)).mono ?_);rintro e wb ⟨vb,rfl,hNb,hbb⟩;have hzb2:=hbb.size;have hBb:Below wr.heap.size wr wb:=(by first | exact hBa.trans (hbb.mono hBa.size)|exact ((Below.refl wr.heap.size wr).drew).trans (hbb.mono (Nat.le_refl _)));have cb0:=(hBb.cell (p:=⟨w6.heap.size,0,none⟩) hl3).trans c0;have cb1:=(hBb.cell (p:=⟨w6.heap.size,1,none⟩) hl3).trans c1)
    | (go_at_call 192;(with_reducible refine (HKn.out _ (by first | exact hbr.trans (hBb.mono hzr)|exact hbr.trans (hBa.mono hzr)|exact hBr)).mono ?_);rintro e w' ⟨rfl,rfl⟩)
    | (go_at_call 181;(with_reducible refine (mul_any _ _ z y _ (by first | exact hNa|exact hNa.nx hbb) (by first | exact hNb|exact hNb.nx hba) sz sy).mono ?_);rintro e wm ⟨vm,rfl,hNm,hbm⟩;have hzm:=hbm.size;have hBm:Below wr.heap.size wr wm:=(by first | exact hBb.trans (hbm.mono hBb.size)|exact hBa.trans (hbm.mono hBa.size));have cm0:=(hBm.cell (p:=⟨w6.heap.size,0,none⟩) hl3).trans c0;have cm1:=(hBm.cell (p:=⟨w6.heap.size,1,none⟩) hl3).trans c1)
    | (go_at_call 184;(with_reducible refine (add_any _ _ _ _ _ (hN.keep hBm (Nat.le_refl _)) hNm ss sp).mono ?_);rintro e wd ⟨vd,rfl,hNd,hbd⟩;obtain ⟨sd,Ad,nd,cd,rfl⟩:=hNd.shape;have hzd:=hbd.size;have hBd:Below wr.heap.size wr wd:=hBm.trans (hbd.mono hBm.size);have hK3d:=hK3.below hBd hl3;obtain ⟨cd0,cd1⟩:=hK3d.cell2;have fd0:=hK3d.frozen 0;have fd1:=hK3d.frozen 1))
   all_goals
    go_wp2_with fail
    have hzz9:=hBd.size
    have hzz8:=hBm.size
    rw [← HS1.out] at hNd
    exact ⟨⟨4,sd,Ad,nd,cd,by omega,rfl,hK3d.set2 _ _,(hNd.grown (gb2 wd _ _ _) (.inl (by omega))).less (by omega),below_of_gb (hbr.trans (hBd.mono hzr)) (gb2 wd _ _ _) (by omega) (by omega)⟩,by simp [intOf]⟩
  ·have hs4:Sm (mxs vv wt 4):=sm_of (by omega) (by omega)
   have hy:AL≠0:=by omega
   have hAB:AL≤16384*16384:=by rw [HAl.out];exact Int.mul_le_mul w1 h1 (by omega) (by omega)
   have hsy:(AL.natAbs:Int)<Bp 38:=by
    have:=Bp_mono (show 5≤38 by omega)
    have:=Bp5
    omega
   have hWH:IntKind.i64.wrap (W*H)=AL:=by rw [← HAl.out];exact IntWalk.i64_in _ ⟨by omega,by omega⟩
   have hs2:Sm (flo (mxs vv wt 4) AL):=by
    have h1:=flo_zero (x:=mxs vv wt 4) hy
    have h2:((mxs vv wt 4).natAbs:Int)<Bp 40:=hs4
    show ((flo (mxs vv wt 4) AL).natAbs:Int)<Bp 40
    omega
   have HY:=Lib.hid hy
   have HSY:=Lib.hid hsy
   clear hy hsy hMk HM HV HVb HWb HWt HAl
   go_upto_region 16 with fail
   obtain ⟨c0,c1⟩:=hK3.cell2
   have hN':=hN.drew
   have hBr:=hbr.drew
   go_region_held3 (fun w'=>w'.cell? ⟨w6.heap.size,0,none⟩=some (.bool s)∧w'.cell? ⟨w6.heap.size,1,none⟩=some (.slice A3 n3 c3)∧Below wr.heap.size wr w')
    (first
      | exact keepN c0 c1 hl3 (by first | exact hBc|exact hBf|exact hBa)
      | exact keepN c0 c1 hl3 ((Below.refl wr.heap.size wr).drew))
    (first
      | (go_at_call 132;(with_reducible refine (of_any AL _ (by omega) (by omega)).mono ?_);rintro e wa ⟨va,rfl,hNa,hba⟩;have hza:=hba.size;have hBa:Below wr.heap.size wr wa:=((Below.refl wr.heap.size wr).drew).trans (hba.mono (Nat.le_refl _)))
      | (go_at_call 194;(with_reducible refine (floor_any _ _ _ _ _ (hN.keep hBa (Nat.le_refl _)) hNa HY.out hs4 HSY.out).mono ?_);rintro e wf ⟨vf,rfl,hNf,hbf⟩;have hzf:=hbf.size;have hBf:Below wr.heap.size wr wf:=hBa.trans (hbf.mono hBa.size))
      | (go_at_call 193;(with_reducible refine (cut_any _ _ _ hNf hs2).mono ?_);rintro e wc ⟨rfl,hbc⟩;have hBc:Below wr.heap.size wr wc:=hBf.trans (hbc.mono hBf.size)))
   go_wp2_with fail
   go_returns
   exact ⟨ret_int HU.out.symm,hbr.trans (hBc.mono hzr)⟩
end Go.Proofs.YtjbelhpgbcnlmaaGreat
end
section
section
set_option linter.unusedVariables false
namespace Go.Proofs.YtjbelhpgbcnlmaaGreat
open Go.RowKit
theorem fq_flo (a b:Int):fq a b=flo a b:=by
 unfold fq flo
 by_cases h:b<0
 ·rw [if_pos h,if_neg (by omega)]
 ·rw [if_neg h]
  by_cases h2:0<b
  ·rw [if_pos h2]
  ·rw [if_neg h2]
   have:b=0:=by omega
   subst this
   simp
theorem rmU_x {l:List Int} {px py d:Int} (h:rightH px py d=true):rmU l 0 px py d=meU l px py d:=by
 unfold rmU meU
 rw [if_pos h,cut_eq,fq_flo]
 rfl
theorem rmU_y {l:List Int} {px py d:Int} (h:rightH px py d=true):rmU l 1 px py d=meVv l px py d:=by
 unfold rmU meVv
 rw [if_pos h,cut_eq,fq_flo]
 rfl
theorem rA18_x {l:List Int} {px py d:Int} (h:rightH px py d=true):rA18 l px py d=afX l px py d:=by
 unfold rA18 afX plc
 rw [if_pos h,cut_eq,fq_flo]
 have e1:d*dtA l=dtA l*d:=Int.mul_comm _ _
 have e2:rU18 l px py d=smR (afU l 0) (afU l 1) (afU l 2) px py d:=by
  unfold rU18 rX18 rY18 smR afU
  grind
 rw [e1,e2]
theorem rB18_y {l:List Int} {px py d:Int} (h:rightH px py d=true):rB18 l px py d=afY l px py d:=by
 unfold rB18 afY plc
 rw [if_pos h,cut_eq,fq_flo]
 have e1:d*dtA l=dtA l*d:=Int.mul_comm _ _
 have e2:rV18 l px py d=smR (afU l 3) (afU l 4) (afU l 5) px py d:=by
  unfold rV18 rX18 rY18 smR afU
  grind
 rw [e1,e2]
end Go.Proofs.YtjbelhpgbcnlmaaGreat
end
section
set_option linter.unusedVariables false
namespace Go.Proofs.YtjbelhpgbcnlmaaGreat
open Go.RowKit
set_option maxRecDepth 100000 in
set_option maxHeartbeats 16000000 in
theorem rat24_4 (l:List Int) (A:Option Addr) (n cp:Nat) (W H px py d:Int) (w:World) {B:Nat} (hl:l.length=n) (hr:Rd w B A (l.map (Value.int .i64))) (hB:B≤w.heap.size) (hC:meC l W H=0) (hp:rightH px py d=true) :
 Calls Tryz.prog 59 #[xfV 4 A n cp,.int .i64 px,.int .i64 py,.int .i64 d] w fun e w'=>e=.returned (.tuple #[.int .i64 (rmU l 0 px py d),.int .i64 (rmU l 1 px py d),.int .i64 0])∧Below w.heap.size w w':=by
 obtain ⟨⟨px0,px1⟩,⟨py0,py1⟩,dd0,dd1⟩:=rightH_iff.1 hp
 have hF:=meC_F hC
 have hln:=(meC_zero.1 hC).2.2.1
 have hL:=(Lie.start w).alloc #[.int .i64 4,.slice A n cp] 32
 have hb:=hL.bel
 have kt:=hL.k 0 (by simp)
 simp only [List.getElem_cons_zero] at kt
 have h21a:∀ w',Below w.heap.size w w'→Calls Tryz.prog 117 #[.slice A n cp,.int .i64 px,.int .i64 py,.int .i64 d,.int .i64 0] w' fun e w''=>e=.returned (.int .i64 (rmU l 0 px py d))∧Below w'.heap.size w' w'':=fun w' hb'=>rat21 l A n cp px py d 0 w' hF hl hln (hr.below' hb' hB) (Nat.le_trans hB hb'.size) ⟨dd0,dd1⟩ (by omega) (by omega) (by omega)
 have h21b:∀ w',Below w.heap.size w w'→Calls Tryz.prog 117 #[.slice A n cp,.int .i64 px,.int .i64 py,.int .i64 d,.int .i64 1] w' fun e w''=>e=.returned (.int .i64 (rmU l 1 px py d))∧Below w'.heap.size w' w'':=fun w' hb'=>rat21 l A n cp px py d 1 w' hF hl hln (hr.below' hb' hB) (Nat.le_trans hB hb'.size) ⟨dd0,dd1⟩ (by omega) (by omega) (by omega)
 generalize rmU l 0 px py d=U at *
 generalize rmU l 1 px py d=V at *
 clear hC hl hr hF hln hL
 go_enter Tryz.func59,Tryz.ntmps59
 go_wp2_with (first
  | (go_at_call 113;(with_reducible refine (rright_h _ _ _ _).mono ?_);rintro e w' ⟨rfl,rfl⟩;rw [hp]))
 generalize w.alloc (.cells #[.int .i64 4,.slice A n cp] 32)=w1 at *
 obtain ⟨c0,c1⟩:=kt.cell2
 have hlt:=kt.lt
 have hz:=hb.size
 have hR:=(Below.refl w1.heap.size w1).drew
 go_region_with (first
  | (go_at_call 117;(with_reducible refine (h21a _ (hb.trans (hR.mono hz))).mono ?_);rintro e wa ⟨rfl,hba⟩;have hBa:Below w1.heap.size w1 wa:=hR.trans (hba.mono hR.size);have ca1:=(hBa.cell (p:=⟨w.heap.size,1,none⟩) hlt).trans c1)
  | (go_at_call 117;(with_reducible refine (h21b _ (hb.trans (hR.mono hz))).mono ?_);rintro e wa ⟨rfl,hba⟩;have hBa:Below w1.heap.size w1 wa:=hR.trans (hba.mono hR.size);have ca1:=(hBa.cell (p:=⟨w.heap.size,1,none⟩) hlt).trans c1)
  | (go_at_call 117;(with_reducible refine (h21a _ (hb.trans (hBa.mono hz))).mono ?_);rintro e wb ⟨rfl,hbb⟩;have hBb:Below w1.heap.size w1 wb:=hBa.trans (hbb.mono hBa.size);have cb1:=(hBb.cell (p:=⟨w.heap.size,1,none⟩) hlt).trans c1)
  | (go_at_call 117;(with_reducible refine (h21b _ (hb.trans (hBa.mono hz))).mono ?_);rintro e wb ⟨rfl,hbb⟩;have hBb:Below w1.heap.size w1 wb:=hBa.trans (hbb.mono hBa.size);have cb1:=(hBb.cell (p:=⟨w.heap.size,1,none⟩) hlt).trans c1))
 all_goals
  go_wp2_with fail
  go_returns
  exact ⟨rfl,hb.trans (hBb.mono hz)⟩
end Go.Proofs.YtjbelhpgbcnlmaaGreat
end
section
set_option linter.unusedVariables false
namespace Go.Proofs.YtjbelhpgbcnlmaaGreat
open Go.RowKit
set_option maxRecDepth 100000 in
set_option maxHeartbeats 16000000 in
theorem rat24_5 (l:List Int) (A:Option Addr) (n cp:Nat) (px py d:Int) (w:World) {B:Nat} (hl:l.length=n) (hr:Rd w B A (l.map (Value.int .i64))) (hB:B≤w.heap.size) (hC:shC l=0) (hp:rightH px py d=true) :
 Calls Tryz.prog 59 #[xfV 5 A n cp,.int .i64 px,.int .i64 py,.int .i64 d] w fun e w'=>e=.returned (.tuple #[.int .i64 (shU l px py d),.int .i64 (shV l px py d),.int .i64 0])∧Below w.heap.size w w':=by
 obtain ⟨⟨px0,px1⟩,⟨py0,py1⟩,dd0,dd1⟩:=rightH_iff.1 hp
 obtain ⟨hlen,hrg⟩:=shC_zero.1 hC
 obtain rfl:n=4:=by rw [← hl];exact hlen
 have hL:=(Lie.start w).alloc #[.int .i64 5,.slice A 4 cp] 32
 have hb:=hL.bel
 have kt:=hL.k 0 (by simp)
 simp only [List.getElem_cons_zero] at kt
 have bx:=nr_bd (p:=px) (d:=d) (B:=1048576) dd0 (by omega) (by omega) (by omega)
 have bY:=nr_bd (p:=py) (d:=d) (B:=1048576) dd0 (by omega) (by omega) (by omega)
 have hP:∀ w',Below w.heap.size w w'→Calls Tryz.prog 118 #[.slice A 4 cp,.int .i64 (nrF px d),.int .i64 (nrF py d)] w' fun e w''=>e=.returned (.tuple #[.int .i64 (slZ l (nrF px d) (nrF py d)+cf l 2),.int .i64 (slY l (nrF px d) (nrF py d)+cf l 3)])∧Below w'.heap.size w' w'':=fun w' hb'=>rpixel22 l A cp (nrF px d) (nrF py d) w' hlen hrg (hr.below' hb' hB) (by omega) (by omega)
 have hN1:=fun w'=>rnear_any px d w' dd0 (by omega) (by omega) (by omega)
 have hN2:=fun w'=>rnear_any py d w' dd0 (by omega) (by omega) (by omega)
 have hS:=slB hrg (x:=nrF px d) (y:=nrF py d) (by omega) (by omega)
 obtain ⟨_,_,b2,b3⟩:=rg4_bd hrg
 obtain ⟨_,_,_,_,_,y1,_,x2⟩:=hS
 have hU:Hid (shU l px py d=65536*(slZ l (nrF px d) (nrF py d)+cf l 2)):=rfl
 have hV:Hid (shV l px py d=65536*(slY l (nrF px d) (nrF py d)+cf l 3)):=rfl
 obtain ⟨zu,hzu⟩:∃ z,slZ l (nrF px d) (nrF py d)+cf l 2=z:=⟨_,rfl⟩
 obtain ⟨zv,hzv⟩:∃ z,slY l (nrF px d) (nrF py d)+cf l 3=z:=⟨_,rfl⟩
 have w1':IntKind.i64.wrap (65536*zu)=65536*zu:=IntWalk.i64_in _ ⟨by omega,by omega⟩
 have w2':IntKind.i64.wrap (65536*zv)=65536*zv:=IntWalk.i64_in _ ⟨by omega,by omega⟩
 rw [hzu] at hP hU
 rw [hzv] at hP hV
 generalize nrF px d=X at *
 generalize nrF py d=Y at *
 clear hC hl hr hlen hrg hL bx bY b2 b3 y1 x2 hzu hzv
 go_enter Tryz.func59,Tryz.ntmps59
 go_wp2_with (first
  | (go_at_call 113;(with_reducible refine (rright_h _ _ _ _).mono ?_);rintro e w' ⟨rfl,rfl⟩;rw [hp]))
 generalize w.alloc (.cells #[.int .i64 5,.slice A 4 cp] 32)=w1 at *
 obtain ⟨c0,c1⟩:=kt.cell2
 have hz:=hb.size
 have hR:=(Below.refl w1.heap.size w1).drew
 go_region_with (first
  | (go_at_call 119;(with_reducible refine (hN1 _).mono ?_);rintro e wa ⟨rfl,rfl⟩)
  | (go_at_call 119;(with_reducible refine (hN2 _).mono ?_);rintro e wa ⟨rfl,rfl⟩)
  | (go_at_call 118;(with_reducible refine (hP _ (hb.trans (hR.mono hz))).mono ?_);rintro e wb ⟨rfl,hbb⟩;have hBb:Below w1.heap.size w1 wb:=hR.trans (hbb.mono hR.size)))
 all_goals
  go_wp2_with fail
  go_returns
  exact ⟨by rw [hU.out,hV.out];rfl,hb.trans (hBb.mono hz)⟩
end Go.Proofs.YtjbelhpgbcnlmaaGreat
end
section
set_option linter.unusedVariables false
namespace Go.Proofs.YtjbelhpgbcnlmaaGreat
open Go.RowKit
theorem rat24 (k:Int) (l:List Int) (A:Option Addr) (n cp:Nat) (W H px py d:Int) (w:World) {B:Nat} (hl:l.length=n) (hr:Rd w B A (l.map (Value.int .i64))) (hB:B≤w.heap.size) (hC:xC k l W H=0) :
 Calls Tryz.prog 59 #[xfV k A n cp,.int .i64 px,.int .i64 py,.int .i64 d] w fun e w'=>e=.returned (.tuple #[.int .i64 (xF k l px py d),.int .i64 (xG k l px py d),.int .i64 (xE k l px py d)])∧Below w.heap.size w w':=by
 cases hp:rightH px py d
 ·exact rat24_no k l A n cp W H px py d w hC hp
 obtain ⟨hk,_,hx⟩:=xC_zero hC
 have hE:afE px py d=0:=by unfold afE;rw [if_pos hp]
 rcases (show k=1∨k=2∨k=3∨k=4∨k=5∨k=6 by omega) with rfl|rfl|rfl|rfl|rfl|rfl
 ·have h:=rat24_1 l A n cp px py d w hl hr hB hx hp
  rw [rA18_x hp,rB18_y hp] at h
  show Calls _ _ _ _ fun e w'=>e=.returned (.tuple #[.int .i64 (afX l px py d),.int .i64 (afY l px py d),.int .i64 (afE px py d)])∧_
  rw [hE];exact h
 ·show Calls _ _ _ _ fun e w'=>e=.returned (.tuple #[.int .i64 (atX (adK (cf l) 9) px py d),.int .i64 (atY (adK (cf l) 9) px py d),.int .i64 (atE (adK (cf l) 9) px py d)])∧_
  by_cases h0:undR (adK (cf l) 9) px py d=0
  ·have e1:atX (adK (cf l) 9) px py d=0:=by unfold atX;simp [h0]
   have e2:atY (adK (cf l) 9) px py d=0:=by unfold atY;simp [h0]
   have e3:atE (adK (cf l) 9) px py d=41:=by unfold atE;simp [hp,h0]
   rw [e1,e2,e3]
   exact rat24_2n l A n cp W H px py d w hl hr hB hx hp h0
  ·have e3:atE (adK (cf l) 9) px py d=0:=by unfold atE;simp [hp,h0]
   rw [e3]
   exact rat24_2 l A n cp W H px py d w hl hr hB hx hp h0
 ·show Calls _ _ _ _ fun e w'=>e=.returned (.tuple #[.int .i64 (lnF l px py d),.int .i64 (lnG l px py d),.int .i64 (lnE l px py d)])∧_
  cases hf:farL l px py d
  ·have e1:lnF l px py d=leU l px py d:=by unfold lnF leIs;simp [hp,hf]
   have e2:lnG l px py d=leV l px py d:=by unfold lnG leIs;simp [hp,hf]
   have e3:lnE l px py d=0:=by unfold lnE leIs;simp [hp,hf]
   rw [e1,e2,e3]
   exact rat24_3 l A n cp W H px py d w hl hr hB hx hp hf
  ·have e1:lnF l px py d=0:=by unfold lnF leIs;simp [hf]
   have e2:lnG l px py d=0:=by unfold lnG leIs;simp [hf]
   have e3:lnE l px py d=11:=by unfold lnE leIs;simp [hf]
   rw [e1,e2,e3]
   exact rat24_3n l A n cp W H px py d w hl hr hB hx hp hf
 ·have h:=rat24_4 l A n cp W H px py d w hl hr hB hx hp
  rw [rmU_x hp,rmU_y hp] at h
  have e3:meE px py d=0:=by unfold meE;rw [if_pos hp]
  show Calls _ _ _ _ fun e w'=>e=.returned (.tuple #[.int .i64 (meU l px py d),.int .i64 (meVv l px py d),.int .i64 (meE px py d)])∧_
  rw [e3];exact h
 ·have h:=rat24_5 l A n cp px py d w hl hr hB hx hp
  show Calls _ _ _ _ fun e w'=>e=.returned (.tuple #[.int .i64 (shF l px py d),.int .i64 (shG l px py d),.int .i64 (afE px py d)])∧_
  have e1:shF l px py d=shU l px py d:=by unfold shF;rw [if_pos hp]
  have e2:shG l px py d=shV l px py d:=by unfold shG;rw [if_pos hp]
  rw [e1,e2,hE];exact h
 ·have h:=rat24_6 l A n cp px py d w hl hr hB hx hp
  show Calls _ _ _ _ fun e w'=>e=.returned (.tuple #[.int .i64 (tuF l px py d),.int .i64 (tuG l px py d),.int .i64 (afE px py d)])∧_
  have e1:tuF l px py d=65536*tuPx l px py d/d:=by unfold tuF;rw [if_pos hp]
  have e2:tuG l px py d=65536*tuPy l px py d/d:=by unfold tuG;rw [if_pos hp]
  rw [e1,e2,hE];exact h
end Go.Proofs.YtjbelhpgbcnlmaaGreat
end
end
