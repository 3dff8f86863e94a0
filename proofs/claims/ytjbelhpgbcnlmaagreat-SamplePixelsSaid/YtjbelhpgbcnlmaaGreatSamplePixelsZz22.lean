/- Several texts in one: Several texts in one: The reference's places between pixels. The reference's places by a curve. The reference: what stands at a place, in one of several images. (Printed by wip/tools/gensp19.py.) -/
import Derived.Test.YtjbelhpgbcnlmaaGreatSamplePixelsZz20
import Derived.Test.YtjbelhpgbcnlmaaGreatSamplePixelsZz16
import Derived.Test.YtjbelhpgbcnlmaaGreatSamplePixelsZz17
import Derived.Test.YtjbelhpgbcnlmaaGreatSamplePixelsZz18
section
section
set_option linter.unusedVariables false
namespace Go.Proofs.YtjbelhpgbcnlmaaGreat
open Go.RowKit
theorem sl_info:(Tryz.prog.info? 22).map (fun i=>(i.zero,i.size,i.bytes))=some (some (.slice none 0 0),1,24):=by kernel_rfl
def PxO (w:World) (lo:Nat) (v:Value) (Ls:List (List Int)):Prop:=∃ vs:List Value,w.ownsRow lo 22 1 v Ls.length vs∧vs.length=Ls.length∧∀ (i:Nat) (h:i<Ls.length) (h':i<vs.length),w.ownsRow lo 5 1 vs[i] Ls[i].length (Ls[i].map (Value.int .u8))
section
variable {w w':World} {lo:Nat} {v:Value} {Ls:List (List Int)}
theorem PxO.nil (w:World) (lo:Nat):PxO w lo (.slice none 0 0) []:=⟨[],World.ownsRow_nil _ _ _ _,rfl,fun i h _=>absurd h (by simp)⟩
theorem PxO.nx (h:PxO w lo v Ls) (hb:Below w.heap.size w w'):PxO w' lo v Ls:=by
 obtain ⟨vs,h1,h2,h3⟩:=h
 exact ⟨vs,own_below h1 hb (Nat.le_refl _),h2,fun i a b=>own_below (h3 i a b) hb (Nat.le_refl _)⟩
theorem PxO.form (h:PxO w lo v Ls):∃ A c,v=.slice A Ls.length c∧Ls.length≤c∧PxsAt w w.heap.size A Ls:=by
 obtain ⟨vs,h1,h2,h3⟩:=h
 obtain ⟨A,c,rfl,hc,_,hr,_⟩:=own_form h1
 refine ⟨A,c,rfl,hc,vs,hr,h2,fun i a b=>?_⟩
 obtain ⟨A',c',e,_,_,hr',_⟩:=own_form (h3 i a b)
 exact ⟨A',c',e,hr'⟩
theorem PxO.snoc {v' s:Value} {vs:List Value} {L:List Int} (h1:w.ownsRow lo 22 1 v Ls.length vs) (h2:vs.length=Ls.length) (h3:∀ (i:Nat) (h:i<Ls.length) (h':i<vs.length),w.ownsRow lo 5 1 vs[i] Ls[i].length (Ls[i].map (Value.int .u8)))
 (hs:w.ownsRow lo 5 1 s L.length (L.map (Value.int .u8))) (hg:w.grownBy w' v.ownBlock) (hv:w'.ownsRow lo 22 1 v' (Ls.length+1) (vs++[s])):PxO w' lo v' (Ls++[L]):=by
 refine ⟨vs++[s],by simpa using hv,by simp [h2],fun i hi hi'=>?_⟩
 by_cases hlt:i<Ls.length
 ·rw [List.getElem_append_left (by omega),List.getElem_append_left hlt]
  have:=h3 i hlt (by omega)
  exact own_gbr this hg (own_ne this h1 (by decide))
 ·have hil:i=Ls.length:=by simp at hi;omega
  subst hil
  rw [List.getElem_append_right (by omega),List.getElem_append_right (Nat.le_refl _)]
  simp [h2]
  exact own_gbr hs hg (own_ne hs h1 (by decide))
end
theorem PxsAt.more {w:World} {B B':Nat} {A:Option Addr} {Ls:List (List Int)} (h:PxsAt w B A Ls) (hB:B≤B'):PxsAt w B' A Ls:=by
 obtain ⟨vs,h1,h2,h3⟩:=h
 exact ⟨vs,h1.more hB,h2,fun i a b=>by obtain ⟨A',c',e,hr⟩:=h3 i a b;exact ⟨A',c',e,hr.more hB⟩⟩
theorem rdB {w:World} {g:Nat} {t:TypeId} {l:List Int} {k:IntKind} (h:Bk w g t (l.map (Value.int k)).toArray):Rd w w.heap.size (some ⟨g,0,none⟩) (l.map (Value.int k)):=fun j hj=>by
 refine ⟨g,0,rfl,h.lt,?_⟩
 rw [Nat.zero_add,h.cell,List.getElem?_toArray,List.getElem?_eq_getElem hj]
theorem bytes_rg {N:Nat} {G:Nat→List Int} (h:∀ i k,0≤(G i).getD k 0∧(G i).getD k 0≤255) (i k:Nat):0≤(((List.range N).map G).getD i []).getD k 0∧(((List.range N).map G).getD i []).getD k 0≤255:=by
 have e:((List.range N).map G).getD i []=if i<N then G i else []:=by
  by_cases hi:i<N
  ·rw [if_pos hi,List.getD_eq_getElem?_getD,List.getElem?_map,List.getElem?_range hi];rfl
  ·rw [if_neg hi,List.getD_eq_getElem?_getD,List.getElem?_eq_none (by simpa using hi)];rfl
 rw [e]
 split
 ·exact h i k
 ·simp
theorem two_all {P:Int→Prop} {a b:Int} (ha:P a) (hb:P b) (h0:P 0) (k:Nat):P ([a,b].getD k 0):=by
 match k with
 | 0=>exact ha
 | 1=>exact hb
 | k+2=>simpa using h0
theorem pow32v:(2:Int)^32=4294967296:=by decide
theorem pow50v:(2:Int)^50=1125899906842624:=by decide
theorem mix_lin (px:Int→Int→List Int) (u v:Int) (k:Nat):byteZ (mixS [65536-u%65536,u%65536] [65536-v%65536,v%65536] ((List.range 4).map fun j=>px (u/65536+(j%2:Nat)) (v/65536+(j/2:Nat))) k 4) 4294967296=linF px u v k:=by
 unfold linF
 congr 1
 simp [mixS,dotK,mxW,w4,List.range_succ]
set_option maxRecDepth 100000 in
set_option maxHeartbeats 16000000 in
theorem rat29 (W H:Int) (C:Nat) (A:Option Addr) (n cp:Nat) (P:List Int) (m a b c d u v:Int) (w:World) {B:Nat} (h:checkC W H C n=0) (hP:P.length=n) (hr:Rd w B A (P.map (Value.int .u8))) (hB:B≤w.heap.size) (hcp:n≤cp)
 (hu:-70368744177664≤u∧u≤70368744177664) (hv:-70368744177664≤v∧v≤70368744177664) (hby:∀ x y k,0≤(pxl P W H C m a b c d x y).getD k 0∧(pxl P W H C m a b c d x y).getD k 0≤255) :
 Calls Tryz.prog 124 #[imgV W H C A n cp,bordV m a b c d,.int .i64 u,.int .i64 v] w fun e w'=>∃ s,e=.returned s∧w'.ownsRow w.heap.size 5 1 s C (((List.range C).map (linF (pxl P W H C m a b c d) u v)).map (Value.int .u8))∧Below w.heap.size w w':=by
 obtain ⟨hf1,hf2⟩:=check_parts h
 obtain ⟨hc,hw1,hw2,hh1,hh2,hp⟩:=fitsC_ok hf1
 have hC4:C≤4:=by omega
 have hlen:∀ x y,(pxl P W H C m a b c d x y).length=C:=fun x y=>pxl_len hP hf2 ⟨hw1,hw2⟩ ⟨hh1,hh2⟩ hC4
 have hS1:=fun w'=>rsplit27 u w' (by omega) (by omega)
 have hS2:=fun w'=>rsplit27 v w' (by omega) (by omega)
 have hML:=mix_lin (pxl P W H C m a b c d) u v
 have hf:0≤u%65536∧u%65536≤65535:=by omega
 have hg:0≤v%65536∧v%65536≤65535:=by omega
 have hi:-1073741824≤u/65536∧u/65536≤1073741824:=by omega
 have hj:-1073741824≤v/65536∧v/65536≤1073741824:=by omega
 have hPx:=fun (w':World) (hb:Below w.heap.size w w') (x y:Int) (hx:-9223372036854775808<x∧x≤9223372036854775807) (hy:-9223372036854775808<y∧y≤9223372036854775807)=>rpixel_any W H C A n cp P m a b c d x y w' h hP (hr.below' hb hB) (Nat.le_trans hB hb.size) hcp hx hy
 generalize linF (pxl P W H C m a b c d) u v=F at *
 generalize pxl P W H C m a b c d=px at *
 generalize u%65536=f at *
 generalize v%65536=g at *
 generalize u/65536=i0 at *
 generalize v/65536=j0 at *
 have hL1:=fun w'=>rlin27 f w' (by omega) (by omega)
 have hL2:=fun w'=>rlin27 g w' (by omega) (by omega)
 have hPw:∀ w':World,Calls Tryz.prog 202 #[.int .i64 32] w' fun e w''=>∃ v,e=.returned v∧BigN w'.heap.size w'' v 4294967296∧Below w'.heap.size w' w'':=fun w'=>by have:=pow_any1 32 w' (by omega);rw [pow32v] at this;exact this
 have hL:=((Lie.start w).alloc #[.int .i64 W,.int .i64 H,.int .i64 C,.slice A n cp] 24).alloc #[.int .i64 m,.int .u8 a,.int .u8 b,.int .u8 c,.int .u8 d] 27
 simp only [World.size_alloc] at hL
 have HML:=Lib.hid hML
 have HBY:=Lib.hid hby
 have HLEN:=Lib.hid hlen
 clear h hP hr hB hcp hu hv hf1 hf2 hp hML hby hlen
 go_enter Tryz.func124,Tryz.ntmps124
 go_wp2_with (first
  | (go_at_call 199;(with_reducible refine (hS1 _).mono ?_);rintro e w1 ⟨rfl,rfl⟩)
  | (go_at_call 199;(with_reducible refine (hS2 _).mono ?_);rintro e w1 ⟨rfl,rfl⟩))
 obtain ⟨g5,hg5⟩:∃ g5,w.heap.size+1=g5:=⟨_,rfl⟩
 rw [hg5] at hL
 simp only [hg5]
 have hg5l:w.heap.size<g5:=by omega
 clear hg5
 go_loopw [13,14] (fun sv iv wr=>∃ k:Nat,k≤4∧iv=.int .i64 k∧PxO wr (g5+1) sv ((List.range k).map fun j=>px (i0+(j%2:Nat)) (j0+(j/2:Nat)))∧Lie w [(g5,27,#[.int .i64 m,.int .u8 a,.int .u8 b,.int .u8 c,.int .u8 d]),(w.heap.size,24,#[.int .i64 W,.int .i64 H,.int .i64 C,.slice A n cp])] wr) (fun _ iv _=>4-(intOf iv).toNat)
 case atStart=>exact ⟨0,by omega,rfl,PxO.nil _ _,hL⟩
 case round =>
  clear hL
  obtain ⟨k,hk,rfl,hO,hLi⟩:=hrel
  have k4:Bk wr w.heap.size 24 #[.int .i64 W,.int .i64 H,.int .i64 C,.slice A n cp]:=hLi.k 1 (by simp)
  have k5:Bk wr g5 27 #[.int .i64 m,.int .u8 a,.int .u8 b,.int .u8 c,.int .u8 d]:=hLi.k 0 (by simp)
  have hl5:=k5.lt
  by_cases hlt:k<4
  ·obtain ⟨q1,hq1⟩:∃ q,k%2=q:=⟨_,rfl⟩
   obtain ⟨q2,hq2⟩:∃ q,k/2=q:=⟨_,rfl⟩
   have t1:(k:Int)%2=q1:=by omega
   have t2:(k:Int)/2=q2:=by omega
   have b1:q1≤4:=by omega
   have b2:q2≤4:=by omega
   have v1:wrap64 (i0+q1)=i0+q1:=IntWalk.wrap64_in _ ⟨by omega,by omega⟩
   have v2:wrap64 (j0+q2)=j0+q2:=IntWalk.wrap64_in _ ⟨by omega,by omega⟩
   have hX:=hPx wr hLi.bel (i0+q1) (j0+q2) (by omega) (by omega)
   have HQ:Hid (((List.range (k+1)).map fun j=>px (i0+(j%2:Nat)) (j0+(j/2:Nat)))=((List.range k).map fun j=>px (i0+(j%2:Nat)) (j0+(j/2:Nat)))++[px (i0+q1) (j0+q2)]):=by
    show _=_;rw [List.range_succ,List.map_append,List.map_cons,List.map_nil,hq1,hq2]
   have hln:=HLEN.out (i0+q1) (j0+q2)
   have HLn:=Lib.hid hln
   clear hln
   have hLk:((List.range k).map fun j=>px (i0+(j%2:Nat)) (j0+(j/2:Nat))).length=k:=by simp
   generalize ((List.range k).map fun j=>px (i0+(j%2:Nat)) (j0+(j/2:Nat)))=Ls at *
   generalize px (i0+q1) (j0+q2)=L at *
   obtain ⟨vs,ho1,ho2,ho3⟩:=hO
   have ho1':=ho1
   rw [hLk] at ho1'
   have HLk:=Lib.hid hLk
   have H1:=Lib.hid ho1
   clear hq1 hq2 hLk ho1
   obtain ⟨d0,d1,d2,d3⟩:=k4.cell4
   obtain ⟨e0,e1,e2,e3,e4⟩:=k5.cell5
   go_wp2_with (first
    | (go_at_call 197;(with_reducible refine hX.mono ?_);rintro e w6 ⟨s6,rfl,hs6,hb6⟩;have ho6:=own_below ho1' hb6 (Nat.le_refl _);have hL6:=hLi.nx hb6;obtain ⟨A6,c6,rfl,_⟩:=own_form hs6)
    | (at_builtin;refine app1 rfl _ _ _ rfl Tryz.underlying256 sl_info rfl (by omega) rfl rfl ho6 hL6.bel (by omega) (by have:=hb6.size;omega) rfl (by simp [Value.oneCell']) (by omega) (by omega) ?_;intro v' w' hown' hbel' hlt' hgr _))
   have hge:=own_ge ho6
   refine ⟨⟨k+1,by omega,by go_num,?_,⟨hbel',fun x hx=>?_⟩⟩,by simp [intOf];omega⟩
   ·rw [HQ.out]
    have hoo:=own_below H1.out hb6 (Nat.le_refl _)
    refine PxO.snoc (w:=w6) hoo ho2 (fun i x y=>own_below (ho3 i x y) hb6 (Nat.le_refl _)) (s:=.slice A6 C c6) (by rw [HLn.out];exact own_base hs6 (by omega)) hgr (by rw [HLk.out];exact hown')
   ·have hx':=hL6.2 x hx
    refine hx'.grown hgr (fun e=>?_)
    have h1:=hge _ e.symm
    simp only [List.mem_cons,List.not_mem_nil,or_false] at hx
    rcases hx with rfl|rfl
    ·simp at h1;omega
    ·simp at h1;omega
  ·obtain rfl:k=4:=by omega
   obtain ⟨A7,c7,rfl,hc7,hPs⟩:=hO.form
   have hLk:((List.range 4).map fun j=>px (i0+(j%2:Nat)) (j0+(j/2:Nat))).length=4:=by simp
   have hlens:∀ i (h:i<((List.range 4).map fun j=>px (i0+(j%2:Nat)) (j0+(j/2:Nat))).length),((List.range 4).map fun j=>px (i0+(j%2:Nat)) (j0+(j/2:Nat)))[i].length=C:=fun i h=>by rw [List.getElem_map];exact HLEN.out _ _
   have hbys:=bytes_rg (N:=4) (G:=fun j=>px (i0+(j%2:Nat)) (j0+(j/2:Nat))) (fun i k=>HBY.out _ _ k)
   have hFm:((List.range C).map fun k=>byteZ (mixS [65536-f,f] [65536-g,g] ((List.range 4).map fun j=>px (i0+(j%2:Nat)) (j0+(j/2:Nat))) k 4) 4294967296)=(List.range C).map F:=List.map_congr_left fun k _=>HML.out k
   rw [hLk]
   generalize ((List.range 4).map fun j=>px (i0+(j%2:Nat)) (j0+(j/2:Nat)))=Ls at *
   have hMx:∀ (w':World) (ga gb:Nat) (vp:Value) (lo':Nat),Below wr.heap.size wr w'→Bk w' ga 2 #[.int .i64 (65536-f),.int .i64 f]→Bk w' gb 2 #[.int .i64 (65536-g),.int .i64 g]→BigN lo' w' vp 4294967296 →
    Calls Tryz.prog 200 #[.slice A7 4 c7,.int .i64 C,.slice (some ⟨ga,0,none⟩) 2 2,.slice (some ⟨gb,0,none⟩) 2 2,vp] w' fun e w''=>∃ s,e=.returned s∧w''.ownsRow w'.heap.size 5 1 s C (((List.range C).map F).map (Value.int .u8))∧Below w'.heap.size w' w'':=fun w' ga gb vp lo' hb ha hb2 hN=>by
    rw [← hFm]
    exact rmix29 Ls [65536-f,f] [65536-g,g] A7 _ _ 4 c7 2 2 2 2 C vp 4294967296 w' hLk ((hPs.below hb).more hb.size) hlens rfl (rdB (l:=[65536-f,f]) ha) rfl (rdB (l:=[65536-g,g]) hb2) (by omega) (by omega) (by omega) (by omega) hC4 hN (by omega) (by omega)
     (two_all (P:=fun z=>-33554432≤z∧z≤33554432) (by omega) (by omega) (by omega)) (two_all (P:=fun z=>-33554432≤z∧z≤33554432) (by omega) (by omega) (by omega)) hbys
   have hbz:=hLi.bel
   have d2:=(k4.cell 2).trans (show _=some (.int .i64 C) from rfl)
   have hl4:=k4.lt
   clear hPs hlens hbys hFm hLk k4 k5 hLi HML HLEN HBY hPx hO hS1 hS2
   go_upto_region 8 with fail
   go_region_held3 (fun w'=>w'.cell? ⟨w.heap.size,2,none⟩=some (.int .i64 C)∧Below wr.heap.size wr w')
    (first
      | exact ⟨(hBd.cell (by exact hl4)).trans d2,hBd⟩
      | exact ⟨(hBp.cell (by exact hl4)).trans d2,hBp⟩
      | exact ⟨(hBb.cell (by exact hl4)).trans d2,hBb⟩
      | exact ⟨(hBa.cell (by exact hl4)).trans d2,hBa⟩
      | exact ⟨d2,(Below.refl _ _).drew⟩)
    (first
      | (go_at_call 203;(with_reducible refine (hL1 _).mono ?_);rintro e wa ⟨rfl,hKa',hba⟩;have hKa:Bk wa wr.heap.size 2 #[.int .i64 (65536-f),.int .i64 f]:=hKa';have hBa:Below wr.heap.size wr wa:=Below.trans (by go_grown) hba)
      | (go_at_call 203;(with_reducible refine (hL2 _).mono ?_);rintro e wb ⟨rfl,hKb,hbb⟩;have hBb:Below wr.heap.size wr wb:=Below.trans hBa (hbb.mono hBa.size);have hKab:=hKa.nx hbb)
      | (go_at_call 202;(with_reducible refine (hPw _).mono ?_);rintro e wp ⟨vp,rfl,hNp,hbp⟩;obtain ⟨sp,Ap,np,cp',rfl⟩:=hNp.shape;have hBp:Below wr.heap.size wr wp:=Below.trans hBb (hbp.mono hBb.size);have hKap:=hKab.nx hbp;have hKbp:=hKb.nx hbp)
      | (go_at_call 200;(with_reducible refine (hMx _ _ _ _ _ (by first | exact hBp|exact hBp.drew) hKap hKbp hNp).mono ?_);rintro e wd ⟨sd,rfl,hsd,hbd⟩;have hBd:Below wr.heap.size wr wd:=Below.trans hBp (hbd.mono hBp.size)))
   all_goals
    rename_i hHeld
    clear hHeld
    go_wp2_with fail
    go_returns
    exact ⟨_,rfl,own_base hsd (Nat.le_trans hbz.size hBp.size),hbz.trans (hBd.mono hbz.size)⟩
end Go.Proofs.YtjbelhpgbcnlmaaGreat
end
section
set_option linter.unusedVariables false
namespace Go.Proofs.YtjbelhpgbcnlmaaGreat
open Go.RowKit
theorem row4 (y x0 x1 x2 x3 v0 v1 v2 v3:Int):y*(0+x0*v0+x1*v1+x2*v2+x3*v3)=x0*y*v0+x1*y*v1+x2*y*v2+x3*y*v3:=by
 rw [Int.zero_add,Int.mul_add,Int.mul_add,Int.mul_add]
 have e:∀ a b:Int,y*(a*b)=a*y*b:=fun a b=>by rw [← Int.mul_assoc,Int.mul_comm y a]
 rw [e,e,e,e]
theorem mix_cub (px:Int→Int→List Int) (u v:Int) (k:Nat):byteZ (mixS [cw 0 (u%65536/256),cw 1 (u%65536/256),cw 2 (u%65536/256),cw 3 (u%65536/256)] [cw 0 (v%65536/256),cw 1 (v%65536/256),cw 2 (v%65536/256),cw 3 (v%65536/256)] ((List.range 16).map fun j=>px (u/65536-1+(j%4:Nat)) (v/65536-1+(j/4:Nat))) k 16) 1125899906842624=cubF px u v k:=by
 unfold cubF
 congr 1
 obtain ⟨P,hP⟩:∃ P:Nat→List Int,P=fun j=>px (u/65536-1+(j%4:Nat)) (v/65536-1+(j/4:Nat)):=⟨_,rfl⟩
 rw [← hP]
 clear hP
 generalize u%65536/256=s
 generalize v%65536/256=t
 unfold cuZ rmZ
 simp only [dotK,List.getD_cons_zero,List.getD_cons_succ]
 rw [row4,row4,row4,row4]
 simp only [mixS,mxW,List.length_cons,List.length_nil]
 simp [List.range_succ]
 generalize cw 0 s=x0
 generalize cw 1 s=x1
 generalize cw 2 s=x2
 generalize cw 3 s=x3
 generalize cw 0 t=y0
 generalize cw 1 t=y1
 generalize cw 2 t=y2
 generalize cw 3 t=y3
 omega
set_option maxRecDepth 100000 in
set_option maxHeartbeats 16000000 in
theorem rat30 (W H:Int) (C:Nat) (A:Option Addr) (n cp:Nat) (P:List Int) (m a b c d u v:Int) (w:World) {B:Nat} (h:checkC W H C n=0) (hP:P.length=n) (hr:Rd w B A (P.map (Value.int .u8))) (hB:B≤w.heap.size) (hcp:n≤cp)
 (hu:-70368744177664≤u∧u≤70368744177664) (hv:-70368744177664≤v∧v≤70368744177664) (hby:∀ x y k,0≤(pxl P W H C m a b c d x y).getD k 0∧(pxl P W H C m a b c d x y).getD k 0≤255) :
 Calls Tryz.prog 123 #[imgV W H C A n cp,bordV m a b c d,.int .i64 u,.int .i64 v] w fun e w'=>∃ s,e=.returned s∧w'.ownsRow w.heap.size 5 1 s C (((List.range C).map (cubF (pxl P W H C m a b c d) u v)).map (Value.int .u8))∧Below w.heap.size w w':=by
 obtain ⟨hf1,hf2⟩:=check_parts h
 obtain ⟨hc,hw1,hw2,hh1,hh2,hp⟩:=fitsC_ok hf1
 have hC4:C≤4:=by omega
 have hlen:∀ x y,(pxl P W H C m a b c d x y).length=C:=fun x y=>pxl_len hP hf2 ⟨hw1,hw2⟩ ⟨hh1,hh2⟩ hC4
 have hS1:=fun w'=>rsplit27 u w' (by omega) (by omega)
 have hS2:=fun w'=>rsplit27 v w' (by omega) (by omega)
 have hML:=mix_cub (pxl P W H C m a b c d) u v
 have hf:0≤u%65536∧u%65536≤65535:=by omega
 have hg:0≤v%65536∧v%65536≤65535:=by omega
 have hi:-1073741824≤u/65536∧u/65536≤1073741824:=by omega
 have hj:-1073741824≤v/65536∧v/65536≤1073741824:=by omega
 have hPx:=fun (w':World) (hb:Below w.heap.size w w') (x y:Int) (hx:-9223372036854775808<x∧x≤9223372036854775807) (hy:-9223372036854775808<y∧y≤9223372036854775807)=>rpixel_any W H C A n cp P m a b c d x y w' h hP (hr.below' hb hB) (Nat.le_trans hB hb.size) hcp hx hy
 generalize cubF (pxl P W H C m a b c d) u v=F at *
 generalize pxl P W H C m a b c d=px at *
 generalize u%65536=f at *
 generalize v%65536=g at *
 generalize u/65536=iu at *
 generalize v/65536=jv at *
 obtain ⟨s,hs⟩:∃ s,f/256=s:=⟨_,rfl⟩
 obtain ⟨t,ht⟩:∃ t,g/256=t:=⟨_,rfl⟩
 have hs2:0≤s∧s≤256:=by omega
 have ht2:0≤t∧t≤256:=by omega
 obtain ⟨i0,hi0⟩:∃ x,iu-1=x:=⟨_,rfl⟩
 obtain ⟨j0,hj0⟩:∃ x,jv-1=x:=⟨_,rfl⟩
 have vi:wrap64 (iu-1)=i0:=by rw [hi0];exact IntWalk.wrap64_in _ ⟨by omega,by omega⟩
 have vj:wrap64 (jv-1)=j0:=by rw [hj0];exact IntWalk.wrap64_in _ ⟨by omega,by omega⟩
 rw [hs,ht,hi0,hj0] at hML
 have hwf:IntKind.i64.wrap (f/256)=s:=by rw [hs];exact IntWalk.i64_in _ ⟨by omega,by omega⟩
 have hwg:IntKind.i64.wrap (g/256)=t:=by rw [ht];exact IntWalk.i64_in _ ⟨by omega,by omega⟩
 have htf:f.tdiv 256=s:=by rw [Int.tdiv_eq_ediv_of_nonneg hf.1];exact hs
 have htg:g.tdiv 256=t:=by rw [Int.tdiv_eq_ediv_of_nonneg hg.1];exact ht
 have hfp:0≤f:=hf.1
 have hgp:0≤g:=hg.1
 have hfq:f≤9223372036854775807:=by omega
 have hgq:g≤9223372036854775807:=by omega
 have hib:-1073741825≤i0∧i0≤1073741824:=by omega
 have hjb:-1073741825≤j0∧j0≤1073741824:=by omega
 have hcw:=cw_bd hs2.1 hs2.2
 have hcx:=cw_bd ht2.1 ht2.2
 have HCW:=Lib.hid hcw
 have HCX:=Lib.hid hcx
 clear hcw hcx
 have hws:IntKind.i64.wrap s=s:=IntWalk.i64_in _ ⟨by omega,by omega⟩
 have hwt:IntKind.i64.wrap t=t:=IntWalk.i64_in _ ⟨by omega,by omega⟩
 have hL1:=fun w'=>rcub27 s w' (by omega) (by omega)
 have hL2:=fun w'=>rcub27 t w' (by omega) (by omega)
 have hPw:∀ w':World,Calls Tryz.prog 202 #[.int .i64 50] w' fun e w''=>∃ v,e=.returned v∧BigN w'.heap.size w'' v 1125899906842624∧Below w'.heap.size w' w'':=fun w'=>by have:=pow_any1 50 w' (by omega);rw [pow50v] at this;exact this
 have hL:=((Lie.start w).alloc #[.int .i64 W,.int .i64 H,.int .i64 C,.slice A n cp] 24).alloc #[.int .i64 m,.int .u8 a,.int .u8 b,.int .u8 c,.int .u8 d] 27
 simp only [World.size_alloc] at hL
 have HML:=Lib.hid hML
 have HBY:=Lib.hid hby
 have HLEN:=Lib.hid hlen
 clear h hP hr hB hcp hu hv hf1 hf2 hp hML hby hlen
 go_enter Tryz.func123,Tryz.ntmps123
 go_wp2_with (first
  | (go_at_call 199;(with_reducible refine (hS1 _).mono ?_);rintro e w1 ⟨rfl,rfl⟩)
  | (go_at_call 199;(with_reducible refine (hS2 _).mono ?_);rintro e w1 ⟨rfl,rfl⟩))
 obtain ⟨g5,hg5⟩:∃ g5,w.heap.size+1=g5:=⟨_,rfl⟩
 rw [hg5] at hL
 simp only [hg5]
 have hg5l:w.heap.size<g5:=by omega
 clear hg5
 go_loopw [13,14] (fun sv iv wr=>∃ k:Nat,k≤16∧iv=.int .i64 k∧PxO wr (g5+1) sv ((List.range k).map fun j=>px (i0+(j%4:Nat)) (j0+(j/4:Nat)))∧Lie w [(g5,27,#[.int .i64 m,.int .u8 a,.int .u8 b,.int .u8 c,.int .u8 d]),(w.heap.size,24,#[.int .i64 W,.int .i64 H,.int .i64 C,.slice A n cp])] wr) (fun _ iv _=>16-(intOf iv).toNat)
 case atStart=>exact ⟨0,by omega,rfl,PxO.nil _ _,hL⟩
 case round =>
  clear hL
  obtain ⟨k,hk,rfl,hO,hLi⟩:=hrel
  have k4:Bk wr w.heap.size 24 #[.int .i64 W,.int .i64 H,.int .i64 C,.slice A n cp]:=hLi.k 1 (by simp)
  have k5:Bk wr g5 27 #[.int .i64 m,.int .u8 a,.int .u8 b,.int .u8 c,.int .u8 d]:=hLi.k 0 (by simp)
  have hl5:=k5.lt
  by_cases hlt:k<16
  ·obtain ⟨q1,hq1⟩:∃ q,k%4=q:=⟨_,rfl⟩
   obtain ⟨q2,hq2⟩:∃ q,k/4=q:=⟨_,rfl⟩
   have t1:(k:Int)%4=q1:=by omega
   have t2:(k:Int)/4=q2:=by omega
   have b1:q1≤4:=by omega
   have b2:q2≤4:=by omega
   have v1:wrap64 (i0+q1)=i0+q1:=IntWalk.wrap64_in _ ⟨by omega,by omega⟩
   have v2:wrap64 (j0+q2)=j0+q2:=IntWalk.wrap64_in _ ⟨by omega,by omega⟩
   have hX:=hPx wr hLi.bel (i0+q1) (j0+q2) (by omega) (by omega)
   have HQ:Hid (((List.range (k+1)).map fun j=>px (i0+(j%4:Nat)) (j0+(j/4:Nat)))=((List.range k).map fun j=>px (i0+(j%4:Nat)) (j0+(j/4:Nat)))++[px (i0+q1) (j0+q2)]):=by
    show _=_;rw [List.range_succ,List.map_append,List.map_cons,List.map_nil,hq1,hq2]
   have hln:=HLEN.out (i0+q1) (j0+q2)
   have HLn:=Lib.hid hln
   clear hln
   have hLk:((List.range k).map fun j=>px (i0+(j%4:Nat)) (j0+(j/4:Nat))).length=k:=by simp
   generalize ((List.range k).map fun j=>px (i0+(j%4:Nat)) (j0+(j/4:Nat)))=Ls at *
   generalize px (i0+q1) (j0+q2)=L at *
   obtain ⟨vs,ho1,ho2,ho3⟩:=hO
   have ho1':=ho1
   rw [hLk] at ho1'
   have HLk:=Lib.hid hLk
   have H1:=Lib.hid ho1
   clear hq1 hq2 hLk ho1
   obtain ⟨d0,d1,d2,d3⟩:=k4.cell4
   obtain ⟨e0,e1,e2,e3,e4⟩:=k5.cell5
   go_wp2_with (first
    | (go_at_call 197;(with_reducible refine hX.mono ?_);rintro e w6 ⟨s6,rfl,hs6,hb6⟩;have ho6:=own_below ho1' hb6 (Nat.le_refl _);have hL6:=hLi.nx hb6;obtain ⟨A6,c6,rfl,_⟩:=own_form hs6)
    | (at_builtin;refine app1 rfl _ _ _ rfl Tryz.underlying256 sl_info rfl (by omega) rfl rfl ho6 hL6.bel (by omega) (by have:=hb6.size;omega) rfl (by simp [Value.oneCell']) (by omega) (by omega) ?_;intro v' w' hown' hbel' hlt' hgr _))
   have hge:=own_ge ho6
   refine ⟨⟨k+1,by omega,by go_num,?_,⟨hbel',fun x hx=>?_⟩⟩,by simp [intOf];omega⟩
   ·rw [HQ.out]
    have hoo:=own_below H1.out hb6 (Nat.le_refl _)
    refine PxO.snoc (w:=w6) hoo ho2 (fun i x y=>own_below (ho3 i x y) hb6 (Nat.le_refl _)) (s:=.slice A6 C c6) (by rw [HLn.out];exact own_base hs6 (by omega)) hgr (by rw [HLk.out];exact hown')
   ·have hx':=hL6.2 x hx
    refine hx'.grown hgr (fun e=>?_)
    have h1:=hge _ e.symm
    simp only [List.mem_cons,List.not_mem_nil,or_false] at hx
    rcases hx with rfl|rfl
    ·simp at h1;omega
    ·simp at h1;omega
  ·obtain rfl:k=16:=by omega
   obtain ⟨A7,c7,rfl,hc7,hPs⟩:=hO.form
   have hLk:((List.range 16).map fun j=>px (i0+(j%4:Nat)) (j0+(j/4:Nat))).length=16:=by simp
   have hlens:∀ i (h:i<((List.range 16).map fun j=>px (i0+(j%4:Nat)) (j0+(j/4:Nat))).length),((List.range 16).map fun j=>px (i0+(j%4:Nat)) (j0+(j/4:Nat)))[i].length=C:=fun i h=>by rw [List.getElem_map];exact HLEN.out _ _
   have hbys:=bytes_rg (N:=16) (G:=fun j=>px (i0+(j%4:Nat)) (j0+(j/4:Nat))) (fun i k=>HBY.out _ _ k)
   have hFm:((List.range C).map fun k=>byteZ (mixS [cw 0 s,cw 1 s,cw 2 s,cw 3 s] [cw 0 t,cw 1 t,cw 2 t,cw 3 t] ((List.range 16).map fun j=>px (i0+(j%4:Nat)) (j0+(j/4:Nat))) k 16) 1125899906842624)=(List.range C).map F:=List.map_congr_left fun k _=>HML.out k
   rw [hLk]
   generalize ((List.range 16).map fun j=>px (i0+(j%4:Nat)) (j0+(j/4:Nat)))=Ls at *
   have hMx:∀ (w':World) (ga gb:Nat) (vp:Value) (lo':Nat),Below wr.heap.size wr w'→Bk w' ga 2 #[.int .i64 (cw 0 s),.int .i64 (cw 1 s),.int .i64 (cw 2 s),.int .i64 (cw 3 s)]→Bk w' gb 2 #[.int .i64 (cw 0 t),.int .i64 (cw 1 t),.int .i64 (cw 2 t),.int .i64 (cw 3 t)]→BigN lo' w' vp 1125899906842624 →
    Calls Tryz.prog 200 #[.slice A7 16 c7,.int .i64 C,.slice (some ⟨ga,0,none⟩) 4 4,.slice (some ⟨gb,0,none⟩) 4 4,vp] w' fun e w''=>∃ s,e=.returned s∧w''.ownsRow w'.heap.size 5 1 s C (((List.range C).map F).map (Value.int .u8))∧Below w'.heap.size w' w'':=fun w' ga gb vp lo' hb ha hb2 hN=>by
    rw [← hFm]
    exact rmix29 Ls [cw 0 s,cw 1 s,cw 2 s,cw 3 s] [cw 0 t,cw 1 t,cw 2 t,cw 3 t] A7 _ _ 16 c7 4 4 4 4 C vp 1125899906842624 w' hLk ((hPs.below hb).more hb.size) hlens rfl (rdB (l:=[cw 0 s,cw 1 s,cw 2 s,cw 3 s]) ha) rfl (rdB (l:=[cw 0 t,cw 1 t,cw 2 t,cw 3 t]) hb2) (by omega) (by omega) (by omega) (by omega) hC4 hN (by omega) (by omega)
     (four_all (P:=fun z=>-33554432≤z∧z≤33554432) (HCW.out 0) (HCW.out 1) (HCW.out 2) (HCW.out 3) (by omega)) (four_all (P:=fun z=>-33554432≤z∧z≤33554432) (HCX.out 0) (HCX.out 1) (HCX.out 2) (HCX.out 3) (by omega)) hbys
   have hbz:=hLi.bel
   have d2:=(k4.cell 2).trans (show _=some (.int .i64 C) from rfl)
   have hl4:=k4.lt
   clear hPs hlens hbys hFm hLk k4 k5 hLi HML HLEN HBY hPx hO hS1 hS2
   go_upto_region 8 with fail
   go_region_held3 (fun w'=>w'.cell? ⟨w.heap.size,2,none⟩=some (.int .i64 C)∧Below wr.heap.size wr w')
    (first
      | exact ⟨(hBd.cell (by exact hl4)).trans d2,hBd⟩
      | exact ⟨(hBp.cell (by exact hl4)).trans d2,hBp⟩
      | exact ⟨(hBb.cell (by exact hl4)).trans d2,hBb⟩
      | exact ⟨(hBa.cell (by exact hl4)).trans d2,hBa⟩
      | exact ⟨d2,(Below.refl _ _).drew⟩)
    (first
      | (go_at_call 201;(with_reducible refine (hL1 _).mono ?_);rintro e wa ⟨rfl,hKa',hba⟩;have hKa:Bk wa wr.heap.size 2 #[.int .i64 (cw 0 s),.int .i64 (cw 1 s),.int .i64 (cw 2 s),.int .i64 (cw 3 s)]:=hKa';have hBa:Below wr.heap.size wr wa:=Below.trans (by go_grown) hba)
      | (go_at_call 201;(with_reducible refine (hL2 _).mono ?_);rintro e wb ⟨rfl,hKb,hbb⟩;have hBb:Below wr.heap.size wr wb:=Below.trans hBa (hbb.mono hBa.size);have hKab:=hKa.nx hbb)
      | (go_at_call 202;(with_reducible refine (hPw _).mono ?_);rintro e wp ⟨vp,rfl,hNp,hbp⟩;obtain ⟨sp,Ap,np,cp',rfl⟩:=hNp.shape;have hBp:Below wr.heap.size wr wp:=Below.trans hBb (hbp.mono hBb.size);have hKap:=hKab.nx hbp;have hKbp:=hKb.nx hbp)
      | (go_at_call 200;(with_reducible refine (hMx _ _ _ _ _ (by first | exact hBp|exact hBp.drew) hKap hKbp hNp).mono ?_);rintro e wd ⟨sd,rfl,hsd,hbd⟩;have hBd:Below wr.heap.size wr wd:=Below.trans hBp (hbd.mono hBp.size)))
   all_goals
    rename_i hHeld
    clear hHeld
    go_wp2_with fail
    go_returns
    exact ⟨_,rfl,own_base hsd (Nat.le_trans hbz.size hBp.size),hbz.trans (hBd.mono hbz.size)⟩
end Go.Proofs.YtjbelhpgbcnlmaaGreat
end
section
set_option linter.unusedVariables false
namespace Go.Proofs.YtjbelhpgbcnlmaaGreat
open Go.RowKit
def kerL (kn:Int) (m:Im) (C:Nat) (mo c0 c1 c2 c3 u v:Int):List Int :=
 if kn=0 then pxM m mo c0 c1 c2 c3 ((u+32768)/65536) ((v+32768)/65536) else if kn=2 then (List.range C).map (cubF (pxM m mo c0 c1 c2 c3) u v) else (List.range C).map (linF (pxM m mo c0 c1 c2 c3) u v)
theorem keepC9 {w1 w':World} {b g o1 o2 o3 o4:Nat} {a0 a1 a2 a3 e0 e1 e2 e3 e4:Value} (h0:w1.cell? ⟨b,o1,none⟩=some a0) (h1:w1.cell? ⟨b,o2,none⟩=some a1) (h2:w1.cell? ⟨b,o3,none⟩=some a2) (h3:w1.cell? ⟨b,o4,none⟩=some a3) (hb:b<w1.heap.size)
 (k0:w1.cell? ⟨g,0,none⟩=some e0) (k1:w1.cell? ⟨g,1,none⟩=some e1) (k2:w1.cell? ⟨g,2,none⟩=some e2) (k3:w1.cell? ⟨g,3,none⟩=some e3) (k4:w1.cell? ⟨g,4,none⟩=some e4) (hg:g<w1.heap.size) (h:Below w1.heap.size w1 w') :
 (w'.cell? ⟨b,o1,none⟩=some a0∧w'.cell? ⟨b,o2,none⟩=some a1∧w'.cell? ⟨b,o3,none⟩=some a2∧w'.cell? ⟨b,o4,none⟩=some a3)∧(w'.cell? ⟨g,0,none⟩=some e0∧w'.cell? ⟨g,1,none⟩=some e1∧w'.cell? ⟨g,2,none⟩=some e2∧w'.cell? ⟨g,3,none⟩=some e3∧w'.cell? ⟨g,4,none⟩=some e4) :=
 ⟨⟨(h.cell (by exact hb)).trans h0,(h.cell (by exact hb)).trans h1,(h.cell (by exact hb)).trans h2,(h.cell (by exact hb)).trans h3⟩,(h.cell (by exact hg)).trans k0,(h.cell (by exact hg)).trans k1,(h.cell (by exact hg)).trans k2,(h.cell (by exact hg)).trans k3,(h.cell (by exact hg)).trans k4⟩
set_option maxRecDepth 100000 in
set_option maxHeartbeats 16000000 in
theorem rat33_near {ims:List Im} {A:Option Addr} {n c lo:Nat} {w:World} (kn:Int) (hkn:kn=0) (hn:ims.length=n) (hA:ImsAt w lo A ims) (mo c0 c1 c2 c3 u v:Int) (k:Nat) (hk:k<ims.length) (hck:checkC ims[k].W ims[k].H ims[k].C ims[k].px.length=0) (C:Nat) (hC:ims[k].C=C)
 (hby:∀ x y kk,0≤(pxM ims[k] mo c0 c1 c2 c3 x y).getD kk 0∧(pxM ims[k] mo c0 c1 c2 c3 x y).getD kk 0≤255) (hu:-70368744177664≤u∧u≤70368744177664) (hv:-70368744177664≤v∧v≤70368744177664) :
 Calls Tryz.prog 60 #[.slice A n c,.int .i64 kn,bdV mo c0 c1 c2 c3,.int .i64 k,.int .i64 u,.int .i64 v] w fun e w'=>∃ s,e=.returned s∧w'.ownsRow w.heap.size 5 1 s C ((pxM ims[k] mo c0 c1 c2 c3 ((lvTo u k+32768)/65536) ((lvTo v k+32768)/65536)).map (Value.int .u8))∧Below w.heap.size w w':=by
 have hT1:=fun w'=>lv_rto_any u k w' hu.1 hu.2
 have hT2:=fun w'=>lv_rto_any v k w' hv.1 hv.2
 have hu1:=lvTo_bd k hu
 have hv1:=lvTo_bd k hv
 obtain ⟨b,o,Ai,ci,rfl,_,hbw,q0,q1,q2,q3,hci,hri⟩:=hA.get k hk
 have hct:ims[k].C.toNat=C:=by omega
 have hkn2:(k:Int)<(n:Int):=by omega
 unfold pxM at *
 rw [hct] at hby
 simp only [hct] at *
 rw [hC] at q2 hck
 have hAt:=fun (w':World) (hb:Below w.heap.size w w')=>rat28 ims[k].W ims[k].H C Ai ims[k].px.length ci ims[k].px mo c0 c1 c2 c3 (lvTo u k) (lvTo v k) w' hck rfl (hri.rd.below hb) hb.size hci hu1 hv1
 have hL:=(Lie.start w).alloc #[.int .i64 mo,.int .u8 c0,.int .u8 c1,.int .u8 c2,.int .u8 c3] 27
 generalize (pxl ims[k].px ims[k].W ims[k].H C mo c0 c1 c2 c3 ((lvTo u k+32768)/65536) ((lvTo v k+32768)/65536))=L at *
 generalize lvTo u k=u1 at *
 generalize lvTo v k=v1 at *
 generalize ims[k]=m at *
 have hlk:(0:Int)≤(k:Int):=by omega
 subst hkn
 clear hA hk hn hct hC hck hci hri hu hv hu1 hv1 hby
 go_enter Tryz.func60,Tryz.ntmps60
 go_upto_region 4 with (first
  | (go_at_call 121;(with_reducible refine (hT1 _).mono ?_);rintro e w1 ⟨rfl,rfl⟩)
  | (go_at_call 121;(with_reducible refine (hT2 _).mono ?_);rintro e w1 ⟨rfl,rfl⟩))
 have r0:=(hL.bel.cell (p:=⟨b,o+k*4,none⟩) hbw).trans q0
 have r1:=(hL.bel.cell (p:=⟨b,o+k*4+1,none⟩) hbw).trans q1
 have r2:=(hL.bel.cell (p:=⟨b,o+k*4+2,none⟩) hbw).trans q2
 have r3:=(hL.bel.cell (p:=⟨b,o+k*4+3,none⟩) hbw).trans q3
 have kb:Bk (w.alloc (.cells #[.int .i64 mo,.int .u8 c0,.int .u8 c1,.int .u8 c2,.int .u8 c3] 27)) w.heap.size 27 #[.int .i64 mo,.int .u8 c0,.int .u8 c1,.int .u8 c2,.int .u8 c3]:=hL.k 0 (by simp)
 have hb5:=hL.bel
 have hbs:b<(w.alloc (.cells #[.int .i64 mo,.int .u8 c0,.int .u8 c1,.int .u8 c2,.int .u8 c3] 27)).heap.size:=Nat.lt_of_lt_of_le hbw hb5.size
 clear hL q0 q1 q2 q3 hT1 hT2
 generalize w.alloc (.cells #[.int .i64 mo,.int .u8 c0,.int .u8 c1,.int .u8 c2,.int .u8 c3] 27)=w5 at *
 obtain ⟨j0,j1,j2,j3,j4⟩:=kb.cell5
 have hgs:=kb.lt
 clear kb
 go_region_held3 (fun w'=>(w'.cell? ⟨b,o+k*4,none⟩=some (.int .i64 m.W)∧w'.cell? ⟨b,o+k*4+1,none⟩=some (.int .i64 m.H)∧w'.cell? ⟨b,o+k*4+2,none⟩=some (.int .i64 (C:Nat))∧w'.cell? ⟨b,o+k*4+3,none⟩=some (.slice Ai m.px.length ci))∧(w'.cell? ⟨w.heap.size,0,none⟩=some (.int .i64 mo)∧w'.cell? ⟨w.heap.size,1,none⟩=some (.int .u8 c0)∧w'.cell? ⟨w.heap.size,2,none⟩=some (.int .u8 c1)∧w'.cell? ⟨w.heap.size,3,none⟩=some (.int .u8 c2)∧w'.cell? ⟨w.heap.size,4,none⟩=some (.int .u8 c3)))
  (first | with_reducible exact keepC9 r0 r1 r2 r3 hbs j0 j1 j2 j3 j4 hgs hB7|(refine keepC9 r0 r1 r2 r3 hbs j0 j1 j2 j3 j4 hgs ?_;go_grown))
  (first
    | (go_at_call 122;(with_reducible refine (hAt _ (by first | exact hb5|exact hb5.drew|exact hb5.drew.drew)).mono ?_);rintro e w7 ⟨s7,rfl,ho7,hb7⟩;have hB7:Below w5.heap.size w5 w7:=Below.trans (by go_grown) hb7))
 all_goals
  rename_i hHeld
  clear hHeld
  go_wp2_with fail
  go_returns
  exact ⟨_,rfl,own_base ho7 (by first | exact hb5.size|(show w.heap.size≤w5.heap.size;exact hb5.size)),hb5.trans (hB7.mono hb5.size)⟩
set_option maxRecDepth 100000 in
set_option maxHeartbeats 16000000 in
theorem rat33_cubic {ims:List Im} {A:Option Addr} {n c lo:Nat} {w:World} (kn:Int) (hkn:kn=2) (hn:ims.length=n) (hA:ImsAt w lo A ims) (mo c0 c1 c2 c3 u v:Int) (k:Nat) (hk:k<ims.length) (hck:checkC ims[k].W ims[k].H ims[k].C ims[k].px.length=0) (C:Nat) (hC:ims[k].C=C)
 (hby:∀ x y kk,0≤(pxM ims[k] mo c0 c1 c2 c3 x y).getD kk 0∧(pxM ims[k] mo c0 c1 c2 c3 x y).getD kk 0≤255) (hu:-70368744177664≤u∧u≤70368744177664) (hv:-70368744177664≤v∧v≤70368744177664) :
 Calls Tryz.prog 60 #[.slice A n c,.int .i64 kn,bdV mo c0 c1 c2 c3,.int .i64 k,.int .i64 u,.int .i64 v] w fun e w'=>∃ s,e=.returned s∧w'.ownsRow w.heap.size 5 1 s C (((List.range C).map (cubF (pxM ims[k] mo c0 c1 c2 c3) (lvTo u k) (lvTo v k))).map (Value.int .u8))∧Below w.heap.size w w':=by
 have hT1:=fun w'=>lv_rto_any u k w' hu.1 hu.2
 have hT2:=fun w'=>lv_rto_any v k w' hv.1 hv.2
 have hu1:=lvTo_bd k hu
 have hv1:=lvTo_bd k hv
 obtain ⟨b,o,Ai,ci,rfl,_,hbw,q0,q1,q2,q3,hci,hri⟩:=hA.get k hk
 have hct:ims[k].C.toNat=C:=by omega
 have hkn2:(k:Int)<(n:Int):=by omega
 unfold pxM at *
 rw [hct] at hby
 simp only [hct] at *
 rw [hC] at q2 hck
 have hAt:=fun (w':World) (hb:Below w.heap.size w w')=>rat30 ims[k].W ims[k].H C Ai ims[k].px.length ci ims[k].px mo c0 c1 c2 c3 (lvTo u k) (lvTo v k) w' hck rfl (hri.rd.below hb) hb.size hci hu1 hv1 hby
 have hL:=(Lie.start w).alloc #[.int .i64 mo,.int .u8 c0,.int .u8 c1,.int .u8 c2,.int .u8 c3] 27
 generalize ((List.range C).map (cubF (pxl ims[k].px ims[k].W ims[k].H C mo c0 c1 c2 c3) (lvTo u k) (lvTo v k)))=L at *
 generalize lvTo u k=u1 at *
 generalize lvTo v k=v1 at *
 generalize ims[k]=m at *
 have hlk:(0:Int)≤(k:Int):=by omega
 subst hkn
 clear hA hk hn hct hC hck hci hri hu hv hu1 hv1 hby
 go_enter Tryz.func60,Tryz.ntmps60
 go_upto_region 6 with (first
  | (go_at_call 121;(with_reducible refine (hT1 _).mono ?_);rintro e w1 ⟨rfl,rfl⟩)
  | (go_at_call 121;(with_reducible refine (hT2 _).mono ?_);rintro e w1 ⟨rfl,rfl⟩))
 have r0:=(hL.bel.cell (p:=⟨b,o+k*4,none⟩) hbw).trans q0
 have r1:=(hL.bel.cell (p:=⟨b,o+k*4+1,none⟩) hbw).trans q1
 have r2:=(hL.bel.cell (p:=⟨b,o+k*4+2,none⟩) hbw).trans q2
 have r3:=(hL.bel.cell (p:=⟨b,o+k*4+3,none⟩) hbw).trans q3
 have kb:Bk (w.alloc (.cells #[.int .i64 mo,.int .u8 c0,.int .u8 c1,.int .u8 c2,.int .u8 c3] 27)) w.heap.size 27 #[.int .i64 mo,.int .u8 c0,.int .u8 c1,.int .u8 c2,.int .u8 c3]:=hL.k 0 (by simp)
 have hb5:=hL.bel
 have hbs:b<(w.alloc (.cells #[.int .i64 mo,.int .u8 c0,.int .u8 c1,.int .u8 c2,.int .u8 c3] 27)).heap.size:=Nat.lt_of_lt_of_le hbw hb5.size
 clear hL q0 q1 q2 q3 hT1 hT2
 generalize w.alloc (.cells #[.int .i64 mo,.int .u8 c0,.int .u8 c1,.int .u8 c2,.int .u8 c3] 27)=w5 at *
 obtain ⟨j0,j1,j2,j3,j4⟩:=kb.cell5
 have hgs:=kb.lt
 clear kb
 go_region_held3 (fun w'=>(w'.cell? ⟨b,o+k*4,none⟩=some (.int .i64 m.W)∧w'.cell? ⟨b,o+k*4+1,none⟩=some (.int .i64 m.H)∧w'.cell? ⟨b,o+k*4+2,none⟩=some (.int .i64 (C:Nat))∧w'.cell? ⟨b,o+k*4+3,none⟩=some (.slice Ai m.px.length ci))∧(w'.cell? ⟨w.heap.size,0,none⟩=some (.int .i64 mo)∧w'.cell? ⟨w.heap.size,1,none⟩=some (.int .u8 c0)∧w'.cell? ⟨w.heap.size,2,none⟩=some (.int .u8 c1)∧w'.cell? ⟨w.heap.size,3,none⟩=some (.int .u8 c2)∧w'.cell? ⟨w.heap.size,4,none⟩=some (.int .u8 c3)))
  (first | with_reducible exact keepC9 r0 r1 r2 r3 hbs j0 j1 j2 j3 j4 hgs hB7|(refine keepC9 r0 r1 r2 r3 hbs j0 j1 j2 j3 j4 hgs ?_;go_grown))
  (first
    | (go_at_call 123;(with_reducible refine (hAt _ (by first | exact hb5|exact hb5.drew|exact hb5.drew.drew)).mono ?_);rintro e w7 ⟨s7,rfl,ho7,hb7⟩;have hB7:Below w5.heap.size w5 w7:=Below.trans (by go_grown) hb7))
 all_goals
  rename_i hHeld
  clear hHeld
  go_wp2_with fail
  go_returns
  exact ⟨_,rfl,own_base ho7 (by first | exact hb5.size|(show w.heap.size≤w5.heap.size;exact hb5.size)),hb5.trans (hB7.mono hb5.size)⟩
set_option maxRecDepth 100000 in
set_option maxHeartbeats 16000000 in
theorem rat33_linear {ims:List Im} {A:Option Addr} {n c lo:Nat} {w:World} (kn:Int) (hkn:kn=1∨kn=3) (hn:ims.length=n) (hA:ImsAt w lo A ims) (mo c0 c1 c2 c3 u v:Int) (k:Nat) (hk:k<ims.length) (hck:checkC ims[k].W ims[k].H ims[k].C ims[k].px.length=0) (C:Nat) (hC:ims[k].C=C)
 (hby:∀ x y kk,0≤(pxM ims[k] mo c0 c1 c2 c3 x y).getD kk 0∧(pxM ims[k] mo c0 c1 c2 c3 x y).getD kk 0≤255) (hu:-70368744177664≤u∧u≤70368744177664) (hv:-70368744177664≤v∧v≤70368744177664) :
 Calls Tryz.prog 60 #[.slice A n c,.int .i64 kn,bdV mo c0 c1 c2 c3,.int .i64 k,.int .i64 u,.int .i64 v] w fun e w'=>∃ s,e=.returned s∧w'.ownsRow w.heap.size 5 1 s C (((List.range C).map (linF (pxM ims[k] mo c0 c1 c2 c3) (lvTo u k) (lvTo v k))).map (Value.int .u8))∧Below w.heap.size w w':=by
 have hT1:=fun w'=>lv_rto_any u k w' hu.1 hu.2
 have hT2:=fun w'=>lv_rto_any v k w' hv.1 hv.2
 have hu1:=lvTo_bd k hu
 have hv1:=lvTo_bd k hv
 obtain ⟨b,o,Ai,ci,rfl,_,hbw,q0,q1,q2,q3,hci,hri⟩:=hA.get k hk
 have hct:ims[k].C.toNat=C:=by omega
 have hkn2:(k:Int)<(n:Int):=by omega
 unfold pxM at *
 rw [hct] at hby
 simp only [hct] at *
 rw [hC] at q2 hck
 have hAt:=fun (w':World) (hb:Below w.heap.size w w')=>rat29 ims[k].W ims[k].H C Ai ims[k].px.length ci ims[k].px mo c0 c1 c2 c3 (lvTo u k) (lvTo v k) w' hck rfl (hri.rd.below hb) hb.size hci hu1 hv1 hby
 have hL:=(Lie.start w).alloc #[.int .i64 mo,.int .u8 c0,.int .u8 c1,.int .u8 c2,.int .u8 c3] 27
 generalize ((List.range C).map (linF (pxl ims[k].px ims[k].W ims[k].H C mo c0 c1 c2 c3) (lvTo u k) (lvTo v k)))=L at *
 generalize lvTo u k=u1 at *
 generalize lvTo v k=v1 at *
 generalize ims[k]=m at *
 have hlk:(0:Int)≤(k:Int):=by omega
 have hk0:(kn==0)=false:=by rcases hkn with rfl|rfl <;> rfl
 have hk2:(kn==2)=false:=by rcases hkn with rfl|rfl <;> rfl
 clear hkn
 clear hA hk hn hct hC hck hci hri hu hv hu1 hv1 hby
 go_enter Tryz.func60,Tryz.ntmps60
 go_upto_region 7 with (first
  | (go_at_call 121;(with_reducible refine (hT1 _).mono ?_);rintro e w1 ⟨rfl,rfl⟩)
  | (go_at_call 121;(with_reducible refine (hT2 _).mono ?_);rintro e w1 ⟨rfl,rfl⟩))
 have r0:=(hL.bel.cell (p:=⟨b,o+k*4,none⟩) hbw).trans q0
 have r1:=(hL.bel.cell (p:=⟨b,o+k*4+1,none⟩) hbw).trans q1
 have r2:=(hL.bel.cell (p:=⟨b,o+k*4+2,none⟩) hbw).trans q2
 have r3:=(hL.bel.cell (p:=⟨b,o+k*4+3,none⟩) hbw).trans q3
 have kb:Bk (w.alloc (.cells #[.int .i64 mo,.int .u8 c0,.int .u8 c1,.int .u8 c2,.int .u8 c3] 27)) w.heap.size 27 #[.int .i64 mo,.int .u8 c0,.int .u8 c1,.int .u8 c2,.int .u8 c3]:=hL.k 0 (by simp)
 have hb5:=hL.bel
 have hbs:b<(w.alloc (.cells #[.int .i64 mo,.int .u8 c0,.int .u8 c1,.int .u8 c2,.int .u8 c3] 27)).heap.size:=Nat.lt_of_lt_of_le hbw hb5.size
 clear hL q0 q1 q2 q3 hT1 hT2
 generalize w.alloc (.cells #[.int .i64 mo,.int .u8 c0,.int .u8 c1,.int .u8 c2,.int .u8 c3] 27)=w5 at *
 obtain ⟨j0,j1,j2,j3,j4⟩:=kb.cell5
 have hgs:=kb.lt
 clear kb
 go_region_held3 (fun w'=>(w'.cell? ⟨b,o+k*4,none⟩=some (.int .i64 m.W)∧w'.cell? ⟨b,o+k*4+1,none⟩=some (.int .i64 m.H)∧w'.cell? ⟨b,o+k*4+2,none⟩=some (.int .i64 (C:Nat))∧w'.cell? ⟨b,o+k*4+3,none⟩=some (.slice Ai m.px.length ci))∧(w'.cell? ⟨w.heap.size,0,none⟩=some (.int .i64 mo)∧w'.cell? ⟨w.heap.size,1,none⟩=some (.int .u8 c0)∧w'.cell? ⟨w.heap.size,2,none⟩=some (.int .u8 c1)∧w'.cell? ⟨w.heap.size,3,none⟩=some (.int .u8 c2)∧w'.cell? ⟨w.heap.size,4,none⟩=some (.int .u8 c3)))
  (first | with_reducible exact keepC9 r0 r1 r2 r3 hbs j0 j1 j2 j3 j4 hgs hB7|(refine keepC9 r0 r1 r2 r3 hbs j0 j1 j2 j3 j4 hgs ?_;go_grown))
  (first
    | (go_at_call 124;(with_reducible refine (hAt _ (by first | exact hb5|exact hb5.drew|exact hb5.drew.drew)).mono ?_);rintro e w7 ⟨s7,rfl,ho7,hb7⟩;have hB7:Below w5.heap.size w5 w7:=Below.trans (by go_grown) hb7))
 all_goals
  rename_i hHeld
  clear hHeld
  go_wp2_with fail
  go_returns
  exact ⟨_,rfl,own_base ho7 (by first | exact hb5.size|(show w.heap.size≤w5.heap.size;exact hb5.size)),hb5.trans (hB7.mono hb5.size)⟩
end Go.Proofs.YtjbelhpgbcnlmaaGreat
end
end
