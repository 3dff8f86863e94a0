/- Several texts in one: SamplePixels: many places of one pixel. The reference's nearer quotients, as bytes. -/
import Derived.Test.YtjbelhpgbcnlmaaGreatSamplePixelsZz18
import Derived.Test.YtjbelhpgbcnlmaaGreatSamplePixelsZz11
import Derived.Lib.QuietBelow
import Derived.Test.YtjbelhpgbcnlmaaGreatSamplePixelsZz5
import Derived.Test.YtjbelhpgbcnlmaaGreatSamplePixelsZz1
import Derived.Deep.RegionHeld3
section
set_option linter.unusedVariables false
namespace Go.Proofs.YtjbelhpgbcnlmaaGreat
open Go.RowKit
def manyS (Lr:Nat→List Int):Nat→Nat→Int
 | 0,_=>0
 | t+1,j=>manyS Lr t j+(Lr t).getD j 0
theorem manyS_bd {Lr:Nat→List Int} (h:∀ t j,0≤(Lr t).getD j 0∧(Lr t).getD j 0≤255) (j:Nat):∀ t:Nat,0≤manyS Lr t j∧manyS Lr t j≤255*t
 | 0=>by simp [manyS]
 | t+1=>by
   have:=manyS_bd h j t
   have:=h t j
   simp only [manyS]
   omega
set_option maxRecDepth 100000 in
set_option maxHeartbeats 16000000 in
theorem many_any (g C n:Nat) (v nm fb fr:Value) (sup:Bool) (mo c0 c1 c2 c3:Int) (p:Option Addr) (k x y:Int) (X Y:Nat→Int) (U V:Nat→Int) (Lr:Nat→List Int) (w:World)
 (hK:Bk w g 95 (samA v nm fb fr n sup mo c0 c1 c2 c3)) (hn:1≤n∧n≤8) (hC:C≤4) (hx:0≤x∧x≤32768) (hy:0≤y∧y≤32768)
 (hX:∀ j,X j=2*n*x+2*j+1-n) (hY:∀ i,Y i=2*n*y+2*i+1-n)
 (hCh:∀ w',Below w.heap.size w w'→Calls Tryz.prog 369 #[v] w' fun e w''=>e=.returned (.int .i64 C)∧w'=w'')
 (hL:∀ t,t<n*n→(Lr t).length=C) (hb:∀ t j,0≤(Lr t).getD j 0∧(Lr t).getD j 0≤255)
 (hAt:∀ i j,i<n→j<n→∀ w',Below w.heap.size w w'→Calls Tryz.prog 48 #[.pointer p,.int .i64 (X j),.int .i64 (Y i),.int .i64 (2*n)] w' fun e w''=>e=.returned (.tuple #[.int .i64 (U (i*n+j)),.int .i64 (V (i*n+j)),.int .i64 0])∧Below w'.heap.size w' w'')
 (hS:∀ t,t<n*n→∀ w',Below w.heap.size w w'→Calls Tryz.prog 49 #[.pointer (some ⟨g,0,none⟩),.int .i64 k,.int .i64 (U t),.int .i64 (V t)] w' fun e w''=>∃ s,e=.returned (.tuple #[s,.int .i64 0])∧w''.ownsRow w'.heap.size 5 1 s C ((Lr t).map (Value.int .u8))∧Below w'.heap.size w' w'') :
 Calls Tryz.prog 47 #[.pointer (some ⟨g,0,none⟩),.pointer p,.int .i64 k,.int .i64 x,.int .i64 y] w fun e w'=>∃ s,e=.returned (.tuple #[s,.int .i64 0])∧w'.ownsRow w.heap.size 5 1 s C (((List.range C).map fun j=>meanZ (manyS Lr (n*n) j) (n*n)).map (Value.int .u8))∧Below w.heap.size w w':=by
 have hM:=fun (v:Value) (w:World)=>me_channels v w
 have HX:=Lib.hid hX
 have HY:=Lib.hid hY
 have HL:=Lib.hid hL
 have HB:=Lib.hid hb
 have HA:=Lib.hid hAt
 have HS:=Lib.hid hS
 have hgl:=hK.lt
 have hmk:=run_make1 (P:=Tryz.prog) Tryz.underlying150 sums_info rfl (C:Int) C rfl (by omega) (by omega)
 have d0:=(hK.cell 0).trans (show _=some (.iface 86 v) from rfl)
 have d4:=(hK.cell 4).trans (show _=some (.int .i64 n) from rfl)
 clear hX hY hL hb hAt hS
 go_enter Tryz.func47,Tryz.ntmps47
 go_wp2_with (go_at_call 369;(with_reducible refine (hCh _ (Below.refl _ _)).mono ?_);rintro e w1 ⟨rfl,rfl⟩)
 obtain ⟨n0,n8⟩:=hn
 obtain ⟨x0,x1⟩:=hx
 obtain ⟨y0,y1⟩:=hy
 clear hCh hM hmk d0 d4
 go_loopw [32] (fun v wr=>∃ i:Nat,v=.int .i64 i∧i≤n∧Bk wr w.heap.size 3 (fnA C (manyS Lr (i*n)))∧Below w.heap.size w wr) (fun v _=>n-(intOf v).toNat)
 case atStart =>
  refine ⟨0,rfl,by omega,?_,(Below.refl _ _).alloc (Nat.le_refl _) _⟩
  rw [fnA_zero]
  have:fnA C (manyS Lr (0*n))=fnA C (fun _=>0):=fnA_ext fun j _=>by rw [Nat.zero_mul];rfl
  rw [this]
  exact Bk.new w _ _
 case round =>
  obtain ⟨i,rfl,hi,hB,hbel⟩:=hrel
  obtain ⟨wq,rfl⟩:∃ wq:World,wq=wr:=⟨_,rfl⟩
  by_cases hlt:i<n
  ·have hKq:=hK.nx hbel
   have d4:=(hKq.cell 4).trans (show _=some (.int .i64 n) from rfl)
   have hin:(i:Int)<(n:Int):=by omega
   go_wp2_with fail
   clear d4
   go_loopw [39] (fun v wr=>∃ j:Nat,v=.int .i64 j∧j≤n∧Bk wr w.heap.size 3 (fnA C (manyS Lr (i*n+j)))∧Below w.heap.size w wr) (fun v _=>n-(intOf v).toNat)
   case atStart=>exact ⟨0,rfl,by omega,hB,hbel⟩
   case round =>
    clear hB hbel hKq
    obtain ⟨j,rfl,hj,hB,hbel⟩:=hrel
    by_cases hlj:j<n
    ·have hKr:=hK.nx hbel
     have d4:=(hKr.cell 4).trans (show _=some (.int .i64 n) from rfl)
     have hjn:(j:Int)<(n:Int):=by omega
     have htn:i*n+j<n*n:=by
      have h1:(i+1)*n≤n*n:=Nat.mul_le_mul_right n (by omega)
      rw [Nat.add_mul,Nat.one_mul] at h1
      omega
     have p0:0≤2*(n:Int)*x:=Int.mul_nonneg (by omega) x0
     have p1:2*(n:Int)*x≤2*(n:Int)*32768:=Int.mul_le_mul_of_nonneg_left x1 (by omega)
     have q0:0≤2*(n:Int)*y:=Int.mul_nonneg (by omega) y0
     have q1:2*(n:Int)*y≤2*(n:Int)*32768:=Int.mul_le_mul_of_nonneg_left y1 (by omega)
     have hA1:=HA.out i j hlt hlj
     rw [HX.out j,HY.out i] at hA1
     have hS1:=HS.out (i*n+j) htn
     have hL1:=HL.out (i*n+j) htn
     have hnx:manyS Lr (i*n+(j+1))=fun a=>manyS Lr (i*n+j) a+(Lr (i*n+j)).getD a 0:=rfl
     have HNX:=Lib.hid hnx
     have hbd:=fun a=>manyS_bd HB.out a (i*n+j)
     have hnn:n*n≤64:=by
      have:n*n≤8*8:=Nat.mul_le_mul n8 n8
      omega
     clear hnx
     generalize U (i*n+j)=Ut at *
     generalize V (i*n+j)=Vt at *
     have a1:wrap64 (2*(n:Int))=2*(n:Int):=IntWalk.wrap64_in _ ⟨by omega,by omega⟩
     have a2:wrap64 (2*(n:Int)*x)=2*(n:Int)*x:=IntWalk.wrap64_in _ ⟨by omega,by omega⟩
     have a3:wrap64 (2*(j:Int))=2*(j:Int):=IntWalk.wrap64_in _ ⟨by omega,by omega⟩
     have a4:wrap64 (2*(n:Int)*x+2*(j:Int))=2*(n:Int)*x+2*(j:Int):=IntWalk.wrap64_in _ ⟨by omega,by omega⟩
     have a5:wrap64 (2*(n:Int)*x+2*(j:Int)+1)=2*(n:Int)*x+2*(j:Int)+1:=IntWalk.wrap64_in _ ⟨by omega,by omega⟩
     have a6:wrap64 (2*(n:Int)*x+2*(j:Int)+1-(n:Int))=2*(n:Int)*x+2*(j:Int)+1-(n:Int):=IntWalk.wrap64_in _ ⟨by omega,by omega⟩
     have b2:wrap64 (2*(n:Int)*y)=2*(n:Int)*y:=IntWalk.wrap64_in _ ⟨by omega,by omega⟩
     have b3:wrap64 (2*(i:Int))=2*(i:Int):=IntWalk.wrap64_in _ ⟨by omega,by omega⟩
     have b4:wrap64 (2*(n:Int)*y+2*(i:Int))=2*(n:Int)*y+2*(i:Int):=IntWalk.wrap64_in _ ⟨by omega,by omega⟩
     have b5:wrap64 (2*(n:Int)*y+2*(i:Int)+1)=2*(n:Int)*y+2*(i:Int)+1:=IntWalk.wrap64_in _ ⟨by omega,by omega⟩
     have b6:wrap64 (2*(n:Int)*y+2*(i:Int)+1-(n:Int))=2*(n:Int)*y+2*(i:Int)+1-(n:Int):=IntWalk.wrap64_in _ ⟨by omega,by omega⟩
     have r4:=fun (d:Nat) (os:Array Obj)=>cell_regrown d4 d os
     have hAB:=fun (nq:Nat) (os:Array Obj)=>hA1 (Go.Sort.grow (redrawn wr nq) os) (hbel.trans ((below_regrown wr nq os).mono hbel.size))
     clear d4 hA1 p0 p1 q0 q1
     go_upto_region 9 with fail
     refine wp_region_quiet_late 40 40 (by kernel_rfl) (by kernel_rfl) ?_
     simp only [List.take_succ_cons,List.take_zero]
     repeat (first | go_big_quiet_step (with_reducible exact quiet_below (hAB _ _))|quiet_step (with_reducible exact quiet_below (hAB _ _)))
     refine wpQuiet_nil ?_
     intro _ hw'
     obtain ⟨⟨d,os⟩,hw''⟩:=hw'
     subst hw''
     have hbx:=below_regrown wr d os
     generalize Go.Sort.grow (redrawn wr d) os=wx at *
     have kx:=hKr.nx hbx
     have hBx:=hB.nx hbx
     have hbelx:=hbel.trans (hbx.mono hbel.size)
     have hxz:=hbelx.size
     clear r4 hAB a1 a2 a3 a4 a5 a6 b2 b3 b4 b5 b6
     show wpAny _ _ _ _ 6 _ _ _
     refine wpAny_ext (i:=40) _ _ _ _ _ rfl rfl rfl rfl rfl rfl (by kernel_rfl) (by kernel_rfl) (by kernel_rfl) (fun _ _ _ h=>h) ?_
     refine wpAny_ext (i:=41) _ _ _ _ _ rfl rfl rfl rfl rfl rfl (by kernel_rfl) (by kernel_rfl) (by kernel_rfl) (fun _ _ _ h=>h) ?_
     refine wpAny_ext (i:=42) _ _ _ _ _ rfl rfl rfl rfl rfl rfl (by kernel_rfl) (by kernel_rfl) (by kernel_rfl) (fun _ _ _ h=>h) ?_
     refine wpAny_tail 43 rfl (by kernel_rfl) ?_
     simp only [Act.put,List.setIfInBounds_toArray,List.set_cons_zero,List.set_cons_succ,List.drop_succ_cons,List.drop_zero,List.getElem_toArray,List.getElem_cons_succ,List.getElem_cons_zero]
     go_wp2_with fail
     refine (hS1 wx hbelx).mono ?_
     rintro e w3 ⟨s3,rfl,ho3,hb3⟩
     obtain ⟨A3,q3,rfl,hq3,_⟩:=own_form ho3
     have hB3:=hBx.nx hb3
     have hbel3:=hbelx.trans (hb3.mono hxz)
     have hr3:=(RdL.of_own ho3).less (show w.heap.size+1≤wx.heap.size from hBx.lt)
     have hAd:=sadd_any C w.heap.size (manyS Lr (i*n+j)) (Lr (i*n+j)) A3 q3 w3 hL1 hC hB3 hr3 (fun a=>by have:=hbd a;omega) (HB.out _)
     rw [← HNX.out] at hAd
     have h3z:=hbel3.size
     clear hS1 hBx hB3 hr3 ho3 hb3 kx hKr hB hbel hbx hbelx hbd hL1
     go_wp2_with fail
     refine hAd.mono ?_
     rintro e w4 ⟨rfl,hB4,hg4⟩
     have hbel4:=below_of_gb hbel3 hg4 (Nat.le_refl _) h3z
     clear hAd
     go_wp2_with fail
     exact ⟨⟨j+1,by go_num,by omega,hB4,hbel4⟩,by simp [intOf];omega⟩
    ·have hjn:j=n:=by omega
     rw [hjn] at hB ⊢
     have hnx:manyS Lr ((i+1)*n)=manyS Lr (i*n+n):=by rw [Nat.add_mul,Nat.one_mul]
     rw [← hnx] at hB
     clear hjn hj hlj hnx
     go_wp2_with fail
     exact ⟨⟨i+1,by go_num,by omega,hB,hbel⟩,by simp [intOf];omega⟩
  ·have hin:i=n:=by omega
   rw [hin] at hB ⊢
   have hKr:=hK.nx hbel
   have d4:=(hKr.cell 4).trans (show _=some (.int .i64 n) from rfl)
   have hlg:g<wq.heap.size:=hKr.lt
   have hnn:n*n≤64:=by
    have:n*n≤8*8:=Nat.mul_le_mul n8 n8
    omega
   have hn1:1≤n*n:=Nat.mul_pos (by omega) (by omega)
   have hcn:((n*n:Nat):Int)=(n:Int)*(n:Int):=Int.natCast_mul n n
   have a1:wrap64 ((n:Int)*(n:Int))=(n:Int)*(n:Int):=IntWalk.wrap64_in _ ⟨by omega,by omega⟩
   have a2:IntKind.i64.wrap ((n:Int)*(n:Int))=(n:Int)*(n:Int):=IntWalk.i64_in _ ⟨by omega,by omega⟩
   have hbd:=fun a=>manyS_bd HB.out a (n*n)
   have hMn:=fun (w':World) (h:Bk w' w.heap.size 3 (fnA C (manyS Lr (n*n))))=>smean_any C w.heap.size (manyS Lr (n*n)) ((n:Int)*(n:Int)) w' hC h ⟨by omega,by omega⟩ (fun a=>by have:=hbd a;omega)
   clear hin hi hlt hbd hK hKr hcn hn1 hnn
   go_upto_region 18 with fail
   go_region_held3 (fun w'=>w'.cell? ⟨g,4,none⟩=some (.int .i64 n))
    (first | with_reducible exact d4|with_reducible exact hd4|go_keep)
    (first | (go_at_call 98;(with_reducible refine (hMn _ (by first | exact hB|exact hB.drew|exact hB.drew.drew)).mono ?_);rintro e w2 ⟨s2,rfl,ho2,hb2⟩;have hd4:=(hb2.cell (p:=⟨g,4,none⟩) (by exact hlg)).trans d4))
   go_wp2_with fail
   go_returns
   exact ⟨s2,rfl,own_base ho2 hbel.size,hbel.drew.trans (hb2.mono hbel.size)⟩
end Go.Proofs.YtjbelhpgbcnlmaaGreat
end
section
set_option linter.unusedVariables false
namespace Go.Proofs.YtjbelhpgbcnlmaaGreat
open Go.RowKit
theorem keep44 {w w' W:World} {B B' b b':Nat} {u v u' v':Value} (h1:w.cell? ⟨b,0,none⟩=some u) (h2:w.cell? ⟨b,1,none⟩=some v) (h3:w.cell? ⟨b',0,none⟩=some u') (h4:w.cell? ⟨b',1,none⟩=some v') (hb:b<B) (hb':b'<B) (h:Below B w w') (h':Below B' W w') :
 (w'.cell? ⟨b,0,none⟩=some u∧w'.cell? ⟨b,1,none⟩=some v)∧(w'.cell? ⟨b',0,none⟩=some u'∧w'.cell? ⟨b',1,none⟩=some v')∧Below B' W w' :=
 ⟨⟨(h.cell (by exact hb)).trans h1,(h.cell (by exact hb)).trans h2⟩,⟨(h.cell (by exact hb')).trans h3,(h.cell (by exact hb')).trans h4⟩,h'⟩
theorem keep44s {w' W:World} {b b' g:Nat} {u v u' v':Value} (h:(w'.cell? ⟨b,0,none⟩=some u∧w'.cell? ⟨b,1,none⟩=some v)∧(w'.cell? ⟨b',0,none⟩=some u'∧w'.cell? ⟨b',1,none⟩=some v')∧Below W.heap.size W w') (hb:b≠g) (hb':b'≠g) (hg:W.heap.size≤g) (x y:Value) :
 ((((w'.setCell ⟨g,0,none⟩ x).setCell ⟨g,1,none⟩ y)).cell? ⟨b,0,none⟩=some u∧(((w'.setCell ⟨g,0,none⟩ x).setCell ⟨g,1,none⟩ y)).cell? ⟨b,1,none⟩=some v)∧((((w'.setCell ⟨g,0,none⟩ x).setCell ⟨g,1,none⟩ y)).cell? ⟨b',0,none⟩=some u'∧(((w'.setCell ⟨g,0,none⟩ x).setCell ⟨g,1,none⟩ y)).cell? ⟨b',1,none⟩=some v')∧Below W.heap.size W ((w'.setCell ⟨g,0,none⟩ x).setCell ⟨g,1,none⟩ y):=by
 obtain ⟨⟨a1,a2⟩,⟨a3,a4⟩,a5⟩:=h
 have e:∀ (q:Addr),q.block≠g→(((w'.setCell ⟨g,0,none⟩ x).setCell ⟨g,1,none⟩ y)).cell? q=w'.cell? q:=fun q hq=>by
  show ((w'.setCell ⟨g,0,none⟩ x).setCell ⟨g,1,none⟩ y).cell? q=_
  rw [World.cell?_setCell_other _ _ _ _ (fun e=>hq (by rw [← e])),World.cell?_setCell_other _ _ _ _ (fun e=>hq (by rw [← e]))]
 refine ⟨⟨(e _ hb).trans a1,(e _ hb).trans a2⟩,⟨(e _ hb').trans a3,(e _ hb').trans a4⟩,?_⟩
 exact ((a5.setCell (p:=⟨g,0,none⟩) hg x).setCell (p:=⟨g,1,none⟩) hg y)
theorem flo_near {x y:Int} (hy:0<y):flo (x+x+y) (y+y)=nearZ x y:=by
 rw [flo_pos _ (by omega)];unfold nearZ;rw [show x+x+y=2*x+y by omega,show y+y=2*y by omega]
set_option maxRecDepth 100000 in
set_option maxHeartbeats 4000000 in
theorem bnear_any (va vb:Value) (x y:Int) (w:World) {lo lo':Nat} (ha:BigN lo w va x) (hb:BigN lo' w vb y) (hy:0<y) (hx1:-1000000000000000000000000≤x) (hx2:x≤1000000000000000000000000) (hy2:y≤1000000000000000000) :
 Calls Tryz.prog 305 #[va,vb] w fun e w'=>∃ v,e=.returned v∧BigN w.heap.size w' v (nearZ x y)∧Below w.heap.size w w':=by
 obtain ⟨s,A,n,c,rfl⟩:=ha.shape
 obtain ⟨s',A',n',c',rfl⟩:=hb.shape
 have sx:Sm x:=sm_of (by omega) (by omega)
 have sy:Sm y:=sm_of (by omega) (by omega)
 have s2:Sm (x+x):=sm_of (by omega) (by omega)
 have s3:Sm (x+x+y):=sm_of (by omega) (by omega)
 have s4:((y+y).natAbs:Int)<Bp 38:=by
  have h1:=Bp_mono (show 5≤38 by omega)
  have h2:=Bp5
  omega
 have HE:=Lib.hid (flo_near (x:=x) hy)
 have hy0:y+y≠0:=by omega
 have hL:=(((Lie.start w).alloc #[.bool s,.slice A n c] 166).alloc #[.bool s',.slice A' n' c'] 166).alloc #[.bool false,.slice none 0 0] 166
 have ha3:=ha.nx hL.bel
 have hb3:=hb.nx hL.bel
 have hK0:Bk (((w.alloc (.cells #[.bool s,.slice A n c] 166)).alloc (.cells #[.bool s',.slice A' n' c'] 166)).alloc (.cells #[.bool false,.slice none 0 0] 166)) w.heap.size 166 #[.bool s,.slice A n c]:=hL.k 2 (by simp)
 have hK1:Bk (((w.alloc (.cells #[.bool s,.slice A n c] 166)).alloc (.cells #[.bool s',.slice A' n' c'] 166)).alloc (.cells #[.bool false,.slice none 0 0] 166)) (w.heap.size+1) 166 #[.bool s',.slice A' n' c']:=by have:=hL.k 1 (by simp);simpa using this
 have hK2:Bk (((w.alloc (.cells #[.bool s,.slice A n c] 166)).alloc (.cells #[.bool s',.slice A' n' c'] 166)).alloc (.cells #[.bool false,.slice none 0 0] 166)) (w.heap.size+2) 166 #[.bool false,.slice none 0 0]:=by have:=hL.k 0 (by simp);simpa using this
 have hbz:=hL.bel
 have hsz:(((w.alloc (.cells #[.bool s,.slice A n c] 166)).alloc (.cells #[.bool s',.slice A' n' c'] 166)).alloc (.cells #[.bool false,.slice none 0 0] 166)).heap.size=w.heap.size+3:=by simp
 clear hx1 hx2 hy2 hy ha hb
 go_enter Tryz.func305,Tryz.ntmps305
 go_upto_region 1 with fail
 clear hL
 generalize (((w.alloc (.cells #[.bool s,.slice A n c] 166)).alloc (.cells #[.bool s',.slice A' n' c'] 166)).alloc (.cells #[.bool false,.slice none 0 0] 166))=w5 at *
 obtain ⟨c10,c11⟩:=hK0.cell2
 obtain ⟨c20,c21⟩:=hK1.cell2
 have hl1:=hK0.lt
 have hl2:=hK1.lt
 have hl4:=hK2.lt
 have hne1:w.heap.size≠w.heap.size+2:=by omega
 have hne2:w.heap.size+1≠w.heap.size+2:=by omega
 have hge:w.heap.size≤w.heap.size+2:=by omega
 have HSZ:=Lib.hid hsz
 clear hsz
 go_region_held3 (fun w'=>(w'.cell? ⟨w.heap.size,0,none⟩=some (.bool s)∧w'.cell? ⟨w.heap.size,1,none⟩=some (.slice A n c))∧(w'.cell? ⟨w.heap.size+1,0,none⟩=some (.bool s')∧w'.cell? ⟨w.heap.size+1,1,none⟩=some (.slice A' n' c'))∧Below (w.heap.size) w w')
  (first
    | exact keep44 c10 c11 c20 c21 hl1 hl2 hB1 (hbz.trans (hB1.mono (by omega)))
    | exact keep44 c10 c11 c20 c21 hl1 hl2 hB2 (hbz.trans (hB2.mono (by omega)))
    | exact keep44 c10 c11 c20 c21 hl1 hl2 hB3 (hbz.trans (hB3.mono (by omega)))
    | exact keep44 c10 c11 c20 c21 hl1 hl2 ((Below.refl _ w5).drew) (hbz.drew)
    | exact keep44 c10 c11 c20 c21 hl1 hl2 hB4 (hbz.trans (hB4.mono (by omega)))
    | exact keep44s (keep44 c10 c11 c20 c21 hl1 hl2 hB4 (hbz.trans (hB4.mono (by omega)))) hne1 hne2 hge _ _)
  (first
    | (go_at_call 184;(with_reducible refine (add_any _ _ x x _ ha3.drew ha3.drew sx sx).mono ?_);rintro e wa ⟨va,rfl,hNa,hba⟩;obtain ⟨qa,Aa,na,ca,rfl⟩:=hNa.shape;have hB1:Below w5.heap.size w5 wa:=Below.trans (by go_grown) hba)
    | (go_at_call 184;(with_reducible refine (add_any _ _ (x+x) y _ hNa (hb3.nx hB1) s2 sy).mono ?_);rintro e wb ⟨vb,rfl,hNb,hbb⟩;obtain ⟨qb,Ab,nb,cb,rfl⟩:=hNb.shape;have hB2:Below w5.heap.size w5 wb:=Below.trans hB1 (hbb.mono hB1.size))
    | (go_at_call 184;(with_reducible refine (add_any _ _ y y _ (hb3.nx hB2) (hb3.nx hB2) sy sy).mono ?_);rintro e wc ⟨vc,rfl,hNc,hbc⟩;obtain ⟨qc,Ac,nc,cc,rfl⟩:=hNc.shape;have hNb2:=hNb.nx hbc;have hB3:Below w5.heap.size w5 wc:=Below.trans hB2 (hbc.mono hB2.size))
    | (go_at_call 194;(with_reducible refine (floor_any _ _ (x+x+y) (y+y) _ hNb2 hNc hy0 s3 s4).mono ?_);rintro e wd ⟨vd,rfl,hNd,hbd⟩;obtain ⟨qd,Ad,nd,cd,rfl⟩:=hNd.shape;have hB4:Below w5.heap.size w5 wd:=Below.trans hB3 (hbd.mono hB3.size);have hK4p:=hK2.below hB4 hl4;obtain ⟨k0,k1⟩:=hK4p.cell2;have f0:=hK4p.frozen 0;have f1:=hK4p.frozen 1))
 all_goals
  rename_i hHeld
  go_wp2_with fail
  refine bodyPost_ret (res_big rfl (hK4p.set2 _ _) rfl) rfl ?_
  have hq:=HSZ.out
  have hz3:=hB3.size
  have hB5:=hbz.trans (hB4.mono (by omega))
  refine ⟨_,rfl,?_,below_of_gb hB5 (gb2 wd _ _ _) (by omega) (by have:=hB4.size;omega)⟩
  rw [← HE.out]
  exact (hNd.grown (gb2 wd _ _ _) (.inl (by omega))).less (by omega)
theorem keep2b {w w':World} {B b:Nat} {u v:Value} (h1:w.cell? ⟨b,0,none⟩=some u) (h2:w.cell? ⟨b,1,none⟩=some v) (hb:b<B) (h:Below B w w') :
 w'.cell? ⟨b,0,none⟩=some u∧w'.cell? ⟨b,1,none⟩=some v∧Below B w w' :=
 ⟨(h.cell (by exact hb)).trans h1,(h.cell (by exact hb)).trans h2,h⟩
set_option maxRecDepth 100000 in
set_option maxHeartbeats 4000000 in
theorem bbyte_any (va vb:Value) (x y:Int) (w:World) {lo lo':Nat} (ha:BigN lo w va x) (hb:BigN lo' w vb y) (hy:0<y) (hx1:-1000000000000000000000000≤x) (hx2:x≤1000000000000000000000000) (hy2:y≤1000000000000000000) (hz1:-9223372036854775808≤nearZ x y) (hz2:nearZ x y≤9223372036854775807) :
 Calls Tryz.prog 263 #[va,vb] w fun e w'=>e=.returned (.int .u8 (byteZ x y))∧Below w.heap.size w w':=by
 obtain ⟨s,A,n,c,rfl⟩:=ha.shape
 obtain ⟨s',A',n',c',rfl⟩:=hb.shape
 have hL:=((Lie.start w).alloc #[.bool s,.slice A n c] 166).alloc #[.bool s',.slice A' n' c'] 166
 have hNr:=fun (w':World) (hb':Below w.heap.size w w')=>bnear_any _ _ x y w' (ha.nx hb') (hb.nx hb') hy hx1 hx2 hy2
 have HB:Hid (byteZ x y=max 0 (min (nearZ x y) 255)):=rfl
 generalize nearZ x y=z at *
 have sz:Sm z:=sm_of (by omega) (by omega)
 have s0:Sm 0:=sm_of (by omega) (by omega)
 have s255:Sm 255:=sm_of (by omega) (by omega)
 clear hx1 hx2 hy2 hy ha hb
 have hO0:=fun (w':World)=>of_any 0 w' (by omega) (by omega)
 have hO1:=fun (w':World)=>of_any 255 w' (by omega) (by omega)
 have hC0:=fun (va vb:Value) (l1 l2:Nat) (w':World) (ha:BigN l1 w' va z) (hb:BigN l2 w' vb 0)=>cmp_any va vb z 0 w' ha hb sz s0
 have hC1:=fun (va vb:Value) (l1 l2:Nat) (w':World) (ha:BigN l1 w' va z) (hb:BigN l2 w' vb 255)=>cmp_any va vb z 255 w' ha hb sz s255
 have hSm:=fun (va:Value) (l1:Nat) (w':World) (ha:BigN l1 w' va z)=>small_any va z w' ha hz1 hz2
 rcases (show z<0∨(0≤z∧z≤255)∨(0≤z∧255<z) by omega) with h|⟨h,h2⟩|⟨h,h2⟩
 ·have HB2:Hid (byteZ x y=0):=by have:=HB.out;show _=_;omega
  have e1:cmpI z 0=-1:=by unfold cmpI;rw [if_pos h]
  rw [e1] at hC0
  clear HB e1 hC1 hSm hO1 hz1 hz2 h
  go_enter Tryz.func263,Tryz.ntmps263
  go_upto_region 2 with (go_at_call 305;(with_reducible refine (hNr _ hL.bel).mono ?_);rintro e w2 ⟨v2,rfl,hN2,hb2⟩;obtain ⟨s2,A2,n2,c2,rfl⟩:=hN2.shape)
  have hL3:=(hL.nx hb2).alloc #[.bool s2,.slice A2 n2 c2] 166
  have hN3:=hN2.alloc (.cells #[.bool s2,.slice A2 n2 c2] 166)
  have hK3:=Bk.new w2 166 #[.bool s2,.slice A2 n2 c2]
  generalize hg:w2.heap.size=g3 at *
  generalize w2.alloc (.cells #[.bool s2,.slice A2 n2 c2] 166)=w3 at *
  clear hg hN2 hb2 hL
  obtain ⟨c0,c1⟩:=hK3.cell2
  have hl3:=hK3.lt
  have hbz:=hL3.bel
  have hzz:=hbz.size
  clear hL3
  go_region_held3 (fun w'=>w'.cell? ⟨g3,0,none⟩=some (.bool s2)∧w'.cell? ⟨g3,1,none⟩=some (.slice A2 n2 c2)∧Below w3.heap.size w3 w')
   (first
     | exact keep2b c0 c1 hl3 hB2
     | exact keep2b c0 c1 hl3 hB1
     | (refine keep2b c0 c1 hl3 ?_;go_grown))
   (first
     | (go_at_call 132;(with_reducible refine (hO0 _).mono ?_);rintro e w4 ⟨v4,rfl,hN4,hb4⟩;obtain ⟨s4,A4,n4,c4,rfl⟩:=hN4.shape;have hB1:Below w3.heap.size w3 w4:=(by first | exact hb4|exact Below.trans (by go_grown) hb4))
     | (go_at_call 131;(with_reducible refine (hC0 _ _ _ _ _ (by first | exact hN3.nx hB1|exact (hN3.nx hB1).drew) (by first | exact hN4|exact hN4.drew)).mono ?_);rintro e w5 ⟨rfl,hb5⟩;have hB2:Below w3.heap.size w3 w5:=(by first | exact hB1.trans (hb5.mono hB1.size)|exact hB1.drew.trans (hb5.mono hB1.size))))
  all_goals
   rename_i hHeld
   go_wp2_with fail
   go_returns
   exact ⟨by rw [HB2.out];rfl,hbz.trans (hB2.mono hzz)⟩
 ·have HB2:Hid (byteZ x y=z):=by have:=HB.out;show _=_;omega
  have hu:IntKind.u8.wrap z=z:=by rw [IntKind.wrap_u8];omega
  obtain ⟨q0,hq0⟩:∃ q,cmpI z 0=q:=⟨_,rfl⟩
  obtain ⟨q1,hq1⟩:∃ q,cmpI z 255=q:=⟨_,rfl⟩
  have k0:0≤q0:=by have:=cmp_neg z 0;omega
  have k1:q1≤0:=by have:=cmp_pos z 255;omega
  rw [hq0] at hC0
  rw [hq1] at hC1
  clear hq0 hq1
  clear HB hz1 hz2 h h2
  go_enter Tryz.func263,Tryz.ntmps263
  go_upto_region 2 with (go_at_call 305;(with_reducible refine (hNr _ hL.bel).mono ?_);rintro e w2 ⟨v2,rfl,hN2,hb2⟩;obtain ⟨s2,A2,n2,c2,rfl⟩:=hN2.shape)
  have hL3:=(hL.nx hb2).alloc #[.bool s2,.slice A2 n2 c2] 166
  have hN3:=hN2.alloc (.cells #[.bool s2,.slice A2 n2 c2] 166)
  have hK3:=Bk.new w2 166 #[.bool s2,.slice A2 n2 c2]
  generalize hg:w2.heap.size=g3 at *
  generalize w2.alloc (.cells #[.bool s2,.slice A2 n2 c2] 166)=w3 at *
  clear hg hN2 hb2 hL
  obtain ⟨c0,c1⟩:=hK3.cell2
  have hl3:=hK3.lt
  have hbz:=hL3.bel
  have hzz:=hbz.size
  clear hL3
  go_region_held3 (fun w'=>w'.cell? ⟨g3,0,none⟩=some (.bool s2)∧w'.cell? ⟨g3,1,none⟩=some (.slice A2 n2 c2)∧Below w3.heap.size w3 w')
   (first
     | exact keep2b c0 c1 hl3 hB2
     | exact keep2b c0 c1 hl3 hB1
     | (refine keep2b c0 c1 hl3 ?_;go_grown))
   (first
     | (go_at_call 132;(with_reducible refine (hO0 _).mono ?_);rintro e w4 ⟨v4,rfl,hN4,hb4⟩;obtain ⟨s4,A4,n4,c4,rfl⟩:=hN4.shape;have hB1:Below w3.heap.size w3 w4:=(by first | exact hb4|exact Below.trans (by go_grown) hb4))
     | (go_at_call 131;(with_reducible refine (hC0 _ _ _ _ _ (by first | exact hN3.nx hB1|exact (hN3.nx hB1).drew) (by first | exact hN4|exact hN4.drew)).mono ?_);rintro e w5 ⟨rfl,hb5⟩;have hB2:Below w3.heap.size w3 w5:=(by first | exact hB1.trans (hb5.mono hB1.size)|exact hB1.drew.trans (hb5.mono hB1.size))))
  rename_i hHeld
  clear hHeld
  have hK5:=hK3.nx hB2
  have hN5:=hN3.nx hB2
  have hbz5:=hbz.trans (hB2.mono hzz)
  clear hK3 hN3 hbz hzz hB1 hB2 hN4 hb4 hb5 c0 c1 hl3
  go_upto_region 4 with fail
  obtain ⟨c0,c1⟩:=hK5.cell2
  have hl3:=hK5.lt
  have hzz:=hbz5.size
  go_region_held3 (fun w'=>w'.cell? ⟨g3,0,none⟩=some (.bool s2)∧w'.cell? ⟨g3,1,none⟩=some (.slice A2 n2 c2)∧Below w5.heap.size w5 w')
   (first
     | exact keep2b c0 c1 hl3 hB4
     | exact keep2b c0 c1 hl3 hB3
     | (refine keep2b c0 c1 hl3 ?_;go_grown))
   (first
     | (go_at_call 132;(with_reducible refine (hO1 _).mono ?_);rintro e w6 ⟨v6,rfl,hN6,hb6⟩;obtain ⟨s6,A6,n6,c6,rfl⟩:=hN6.shape;have hB3:Below w5.heap.size w5 w6:=(by first | exact hb6|exact Below.trans (by go_grown) hb6))
     | (go_at_call 131;(with_reducible refine (hC1 _ _ _ _ _ (by first | exact hN5.nx hB3|exact (hN5.nx hB3).drew) (by first | exact hN6|exact hN6.drew)).mono ?_);rintro e w7 ⟨rfl,hb7⟩;have hB4:Below w5.heap.size w5 w7:=(by first | exact hB3.trans (hb7.mono hB3.size)|exact hB3.drew.trans (hb7.mono hB3.size))))
  rename_i hHeld
  clear hHeld
  have hK7:=hK5.nx hB4
  have hN7:=hN5.nx hB4
  have hbz7:=hbz5.trans (hB4.mono hzz)
  obtain ⟨c0,c1⟩:=hK7.cell2
  clear hK5 hN5 hN6 hb6 hb7 hB3 hB4
  go_wp2_with (go_at_call 133;(with_reducible refine (hSm _ _ _ hN7).mono ?_);rintro e w8 ⟨rfl,hb8⟩)
  go_returns
  exact ⟨by rw [HB2.out];first | rfl|(rw [← hu];rfl),hbz7.trans (hb8.mono hbz7.size)⟩
 ·have HB2:Hid (byteZ x y=255):=by have:=HB.out;show _=_;omega
  obtain ⟨q0,hq0⟩:∃ q,cmpI z 0=q:=⟨_,rfl⟩
  obtain ⟨q1,hq1⟩:∃ q,cmpI z 255=q:=⟨_,rfl⟩
  have k0:0≤q0:=by have:=cmp_neg z 0;omega
  have k1:0<q1:=by have:=cmp_pos z 255;omega
  rw [hq0] at hC0
  rw [hq1] at hC1
  clear hq0 hq1
  clear HB hz1 hz2 h h2
  go_enter Tryz.func263,Tryz.ntmps263
  go_upto_region 2 with (go_at_call 305;(with_reducible refine (hNr _ hL.bel).mono ?_);rintro e w2 ⟨v2,rfl,hN2,hb2⟩;obtain ⟨s2,A2,n2,c2,rfl⟩:=hN2.shape)
  have hL3:=(hL.nx hb2).alloc #[.bool s2,.slice A2 n2 c2] 166
  have hN3:=hN2.alloc (.cells #[.bool s2,.slice A2 n2 c2] 166)
  have hK3:=Bk.new w2 166 #[.bool s2,.slice A2 n2 c2]
  generalize hg:w2.heap.size=g3 at *
  generalize w2.alloc (.cells #[.bool s2,.slice A2 n2 c2] 166)=w3 at *
  clear hg hN2 hb2 hL
  obtain ⟨c0,c1⟩:=hK3.cell2
  have hl3:=hK3.lt
  have hbz:=hL3.bel
  have hzz:=hbz.size
  clear hL3
  go_region_held3 (fun w'=>w'.cell? ⟨g3,0,none⟩=some (.bool s2)∧w'.cell? ⟨g3,1,none⟩=some (.slice A2 n2 c2)∧Below w3.heap.size w3 w')
   (first
     | exact keep2b c0 c1 hl3 hB2
     | exact keep2b c0 c1 hl3 hB1
     | (refine keep2b c0 c1 hl3 ?_;go_grown))
   (first
     | (go_at_call 132;(with_reducible refine (hO0 _).mono ?_);rintro e w4 ⟨v4,rfl,hN4,hb4⟩;obtain ⟨s4,A4,n4,c4,rfl⟩:=hN4.shape;have hB1:Below w3.heap.size w3 w4:=(by first | exact hb4|exact Below.trans (by go_grown) hb4))
     | (go_at_call 131;(with_reducible refine (hC0 _ _ _ _ _ (by first | exact hN3.nx hB1|exact (hN3.nx hB1).drew) (by first | exact hN4|exact hN4.drew)).mono ?_);rintro e w5 ⟨rfl,hb5⟩;have hB2:Below w3.heap.size w3 w5:=(by first | exact hB1.trans (hb5.mono hB1.size)|exact hB1.drew.trans (hb5.mono hB1.size))))
  rename_i hHeld
  clear hHeld
  have hK5:=hK3.nx hB2
  have hN5:=hN3.nx hB2
  have hbz5:=hbz.trans (hB2.mono hzz)
  clear hK3 hN3 hbz hzz hB1 hB2 hN4 hb4 hb5 c0 c1 hl3
  go_upto_region 4 with fail
  obtain ⟨c0,c1⟩:=hK5.cell2
  have hl3:=hK5.lt
  have hzz:=hbz5.size
  go_region_held3 (fun w'=>w'.cell? ⟨g3,0,none⟩=some (.bool s2)∧w'.cell? ⟨g3,1,none⟩=some (.slice A2 n2 c2)∧Below w5.heap.size w5 w')
   (first
     | exact keep2b c0 c1 hl3 hB4
     | exact keep2b c0 c1 hl3 hB3
     | (refine keep2b c0 c1 hl3 ?_;go_grown))
   (first
     | (go_at_call 132;(with_reducible refine (hO1 _).mono ?_);rintro e w6 ⟨v6,rfl,hN6,hb6⟩;obtain ⟨s6,A6,n6,c6,rfl⟩:=hN6.shape;have hB3:Below w5.heap.size w5 w6:=(by first | exact hb6|exact Below.trans (by go_grown) hb6))
     | (go_at_call 131;(with_reducible refine (hC1 _ _ _ _ _ (by first | exact hN5.nx hB3|exact (hN5.nx hB3).drew) (by first | exact hN6|exact hN6.drew)).mono ?_);rintro e w7 ⟨rfl,hb7⟩;have hB4:Below w5.heap.size w5 w7:=(by first | exact hB3.trans (hb7.mono hB3.size)|exact hB3.drew.trans (hb7.mono hB3.size))))
  rename_i hHeld
  clear hHeld
  go_wp2_with fail
  go_returns
  exact ⟨by rw [HB2.out];rfl,hbz5.trans (hB4.mono hzz)⟩
end Go.Proofs.YtjbelhpgbcnlmaaGreat
end
