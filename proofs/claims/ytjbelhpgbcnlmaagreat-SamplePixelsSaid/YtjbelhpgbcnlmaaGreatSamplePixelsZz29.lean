/- Several texts in one: Several texts in one: The reference's mesh: cells, knots. The reference's mesh: a knot's numbers. -/
import Derived.Test.YtjbelhpgbcnlmaaGreatSamplePixelsZz28
section
section
set_option linter.unusedVariables false
namespace Go.Proofs.YtjbelhpgbcnlmaaGreat
open Go.RowKit
attribute [local go_sem high] run_maxM run_minM
set_option maxRecDepth 100000 in
set_option maxHeartbeats 8000000 in
theorem rmcell_any (g n p d:Int) (w:World) (hg:1≤g∧g≤1024) (hn:1≤n∧n≤64) (hd:1≤d∧d≤16) (hp:-4194304≤p∧p≤4194304) :
 Calls Tryz.prog 191 #[.int .i64 p,.int .i64 d,.int .i64 g,.int .i64 n] w fun e w'=>e=.returned (.tuple #[.int .i64 (meI g n p d),.int .i64 (meT g n p d)])∧w=w':=by
 obtain ⟨⟨r0,r1⟩,⟨r2,r3⟩,r4,r5⟩:=me_room hg hn hd
 obtain ⟨⟨q0,q1⟩,⟨i0,i1⟩,t0,t1⟩:=meB (p:=p) hg.1 hn.1 hd.1
 have hT:Hid (meT g n p d=meQ g n p d-meI g n p d*g*d):=rfl
 have kQ:max 0 (min p (g*n*d))=meQ g n p d:=rfl
 have k1:wrap64 (g*n)=g*n:=IntWalk.wrap64_in _ ⟨by omega,by omega⟩
 have k2:wrap64 (g*n*d)=g*n*d:=IntWalk.wrap64_in _ ⟨by omega,by omega⟩
 have hstep:=fun (i:Int) h1 h2=>me_step (g:=g) (n:=n) (p:=p) (d:=d) (i:=i) hg.1 hd.1 h1 h2
 have hend:=fun (i:Int) h1 h2=>me_end (g:=g) (n:=n) (p:=p) (d:=d) (i:=i) hg.1 hd.1 h1 h2
 obtain ⟨g0,g1⟩:=hg
 obtain ⟨n0,n1⟩:=hn
 obtain ⟨dd0,dd1⟩:=hd
 have HI1:=Lib.hid i1
 clear t0 t1 q1 i1 r0 r1 r4 r5 hp
 obtain ⟨Q,hQ⟩:∃ z,meQ g n p d=z:=⟨_,rfl⟩
 obtain ⟨I,hI⟩:∃ z,meI g n p d=z:=⟨_,rfl⟩
 obtain ⟨T,hTt⟩:∃ z,meT g n p d=z:=⟨_,rfl⟩
 rw [hQ] at hT kQ hstep hend q0
 rw [hI] at hT hend hstep HI1 i0 ⊢
 rw [hTt] at hT ⊢
 have HS:=Lib.hid hstep
 have HEn:=Lib.hid hend
 clear hQ hI hTt hstep hend
 go_enter Tryz.func191,Tryz.ntmps191
 go_wp2_with fail
 go_loop [11] (fun i=>∃ j:Int,0≤j∧j≤I∧i=.int .i64 j) (fun i=>64-(intOf i).toNat)
 case atStart=>exact ⟨0,by omega,i0,rfl⟩
 case round =>
  obtain ⟨j,hj0,hj,rfl⟩:=hrel
  have hI1:=HI1.out
  have b1:(j+1)*g≤64*1024:=Int.mul_le_mul (by omega) g1 (by omega) (by omega)
  have b0:0≤(j+1)*g:=Int.mul_nonneg (by omega) (by omega)
  have b3:(j+1)*g*d≤65536*16:=Int.mul_le_mul (by omega) dd1 (by omega) (by omega)
  have b2:0≤(j+1)*g*d:=Int.mul_nonneg b0 (by omega)
  have e1:wrap64 (j+1)=j+1:=IntWalk.wrap64_in _ ⟨by omega,by omega⟩
  have e2:wrap64 ((j+1)*g)=(j+1)*g:=IntWalk.wrap64_in _ ⟨by omega,by omega⟩
  have e3:wrap64 ((j+1)*g*d)=(j+1)*g*d:=IntWalk.wrap64_in _ ⟨by omega,by omega⟩
  by_cases h1:j+1<n
  ·by_cases h2:(j+1)*g*d≤Q
   ·have hs:=HS.out j h1 h2
    clear b0 b1 b2 b3
    go_wp2_with fail
    exact ⟨⟨j+1,by omega,hs,rfl⟩,by simp [intOf];omega⟩
   ·have he:=HEn.out j hj (fun h=>h2 h.2)
    subst he
    have c1:j*g≤63*1024:=Int.mul_le_mul (by omega) g1 (by omega) (by omega)
    have c0:0≤j*g:=Int.mul_nonneg hj0 (by omega)
    have c3:j*g*d≤64512*16:=Int.mul_le_mul (by omega) dd1 (by omega) (by omega)
    have c2:0≤j*g*d:=Int.mul_nonneg c0 (by omega)
    have f1:wrap64 (j*g)=j*g:=IntWalk.wrap64_in _ ⟨by omega,by omega⟩
    have f2:wrap64 (j*g*d)=j*g*d:=IntWalk.wrap64_in _ ⟨by omega,by omega⟩
    have hQ2:Q<(j+1)*g*d:=by omega
    have f3:wrap64 (Q-j*g*d)=Q-j*g*d:=IntWalk.wrap64_in _ ⟨by omega,by omega⟩
    clear b0 b1 b2 b3 c0 c1 c2 c3 HS HEn
    go_wp2_with fail
    go_returns
    exact ⟨by rw [hT.out];first | rfl|exact ret_t2 rfl f3,rfl⟩
  ·have he:=HEn.out j hj (fun h=>h1 h.1)
   subst he
   have c1:j*g≤63*1024:=Int.mul_le_mul (by omega) g1 (by omega) (by omega)
   have c0:0≤j*g:=Int.mul_nonneg hj0 (by omega)
   have c3:j*g*d≤64512*16:=Int.mul_le_mul (by omega) dd1 (by omega) (by omega)
   have c2:0≤j*g*d:=Int.mul_nonneg c0 (by omega)
   have f1:wrap64 (j*g)=j*g:=IntWalk.wrap64_in _ ⟨by omega,by omega⟩
   have f2:wrap64 (j*g*d)=j*g*d:=IntWalk.wrap64_in _ ⟨by omega,by omega⟩
   have hQb:Q≤1048576:=by have:=kQ;omega
   have f3:wrap64 (Q-j*g*d)=Q-j*g*d:=IntWalk.wrap64_in _ ⟨by omega,by omega⟩
   clear b0 b1 b2 b3 c0 c1 c2 c3 HS HEn hQb
   go_wp2_with fail
   go_returns
   exact ⟨by rw [hT.out];first | rfl|exact ret_t2 rfl f3,rfl⟩
end Go.Proofs.YtjbelhpgbcnlmaaGreat
end
section
set_option linter.unusedVariables false
namespace Go.Proofs.YtjbelhpgbcnlmaaGreat
open Go.RowKit
attribute [local go_sem high] run_maxM run_minM
def meLn (l:List Int):Int:=4+2*(cf l 2+1)*(cf l 3+1)
theorem lget4 {l:List Int} {w:World} {B:Nat} {A:Option Addr} (hl:4≤l.length) (hr:Rd w B A (l.map (Value.int .i64))):∃ b o,A=some ⟨b,o,none⟩∧b<B∧∀ i,i<l.length→w.cell? ⟨b,o+i,none⟩=some (.int .i64 (cf l i)):=by
 obtain ⟨b,o,rfl,hb,_⟩:=hr.get 0 (by rw [List.length_map];omega)
 refine ⟨b,o,rfl,hb,fun i hi=>?_⟩
 obtain ⟨b',o',e,_,hc⟩:=hr.get i (by rw [List.length_map];exact hi)
 injection e with e
 injection e with e1 e2
 subst e1 e2
 rw [hc,List.getElem_map]
 unfold cf
 rw [List.getD_eq_getElem?_getD,List.getElem?_eq_getElem hi];rfl
theorem ln_K {l:List Int} (h:MeF l) (hl:(l.length:Int)=meLn l):l.length=4+meK l*2∧meK l≤4225∧1≤meK l:=by
 have h1:=h.nx
 have h2:=h.ny
 have m0:2*2≤(cf l 2+1)*(cf l 3+1):=Int.mul_le_mul (by omega) (by omega) (by omega) (by omega)
 have m1:(cf l 2+1)*(cf l 3+1)≤65*65:=Int.mul_le_mul (by omega) (by omega) (by omega) (by omega)
 have e:2*(cf l 2+1)*(cf l 3+1)=2*((cf l 2+1)*(cf l 3+1)):=Int.mul_assoc _ _ _
 unfold meLn at hl
 unfold meK
 omega
def knW (l:List Int) (i k:Int) (t:Nat):Int:=cf l (4+knJ l i k*2+t)
set_option maxRecDepth 100000 in
set_option maxHeartbeats 4000000 in
theorem rknot_any (l:List Int) (A:Option Addr) (n cp:Nat) (i k:Int) (t:Nat) (w:World) {B:Nat} (hF:MeF l) (hl:l.length=n) (hln:(l.length:Int)=meLn l) (hr:Rd w B A (l.map (Value.int .i64))) (hi:0≤i∧i≤cf l 2) (hk:0≤k∧k≤cf l 3) (ht:t<2) :
 Calls Tryz.prog 192 #[.slice A n cp,.int .i64 i,.int .i64 k,.int .i64 (t:Int)] w fun e w'=>e=.returned (.int .i64 (knW l i k t))∧w=w':=by
 obtain ⟨hK,hK2,hK3⟩:=ln_K hF hln
 obtain ⟨j1,j2,j3⟩:=knJ_eq hF hi hk
 obtain ⟨b,o,rfl,hb,hc⟩:=lget4 (by omega) hr
 have c2:=hc 2 (by omega)
 have cx:=hc (4+knJ l i k*2+t) (by omega)
 rw [show cf l (4+knJ l i k*2+t)=knW l i k t from rfl] at cx
 have h1:=hF.nx
 have h2:=hF.ny
 have m0:0≤k*(cf l 2+1):=Int.mul_nonneg hk.1 (by omega)
 have m1:k*(cf l 2+1)≤64*65:=Int.mul_le_mul (by omega) (by omega) (by omega) (by omega)
 have e1:wrap64 (cf l 2+1)=cf l 2+1:=IntWalk.wrap64_in _ ⟨by omega,by omega⟩
 have e2:wrap64 (k*(cf l 2+1))=k*(cf l 2+1):=IntWalk.wrap64_in _ ⟨by omega,by omega⟩
 obtain ⟨z,hz⟩:∃ z:Int,k*(cf l 2+1)+i=z:=⟨_,rfl⟩
 have e3:wrap64 (k*(cf l 2+1)+i)=z:=by rw [← hz];exact IntWalk.wrap64_in _ ⟨by omega,by omega⟩
 have e4:wrap64 (2*z)=2*z:=IntWalk.wrap64_in _ ⟨by omega,by omega⟩
 have e5:wrap64 (4+2*z)=4+2*z:=IntWalk.wrap64_in _ ⟨by omega,by omega⟩
 obtain ⟨q,hq⟩:∃ q:Nat,4+knJ l i k*2+t=q:=⟨_,rfl⟩
 obtain ⟨y,hy⟩:∃ y:Int,4+2*z+(t:Int)=y:=⟨_,rfl⟩
 have e6:wrap64 (4+2*z+(t:Int))=y:=by rw [← hy];exact IntWalk.wrap64_in _ ⟨by omega,by omega⟩
 have y0:0≤y:=by omega
 have y1:y<(n:Int):=by omega
 have yt:y.toNat=q:=by omega
 rw [hq] at cx
 have n2:(2:Int)<(n:Int):=by omega
 clear hK hK2 hK3 j1 j2 j3 hc m0 m1 hz hq hy h1 h2 hl hln hr hF hi hk ht
 generalize knW l i k t=V at *
 generalize cf l 2=X at *
 go_enter Tryz.func192,Tryz.ntmps192
 go_wp2_with fail
 go_returns
 exact ⟨rfl,rfl⟩
end Go.Proofs.YtjbelhpgbcnlmaaGreat
end
end
