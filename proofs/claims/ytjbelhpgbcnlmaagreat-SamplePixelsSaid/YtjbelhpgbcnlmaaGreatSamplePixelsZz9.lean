/- Several texts in one: cubic: the sixteen pixels around a place. -/
import Derived.Test.YtjbelhpgbcnlmaaGreatSamplePixelsZz2
import Derived.Test.YtjbelhpgbcnlmaaGreatSamplePixelsZz8
import Derived.BigRegion
import Derived.RegionTactic
import Derived.Deep.RegionWith
section
set_option linter.unusedVariables false
namespace Go.Proofs.YtjbelhpgbcnlmaaGreat
open Go.RowKit
def lcL (S:Nat→Value) (m:Nat) (xs:List Value):List Value:=((List.range 16).map fun j=>if j<m then S j else .slice none 0 0)++xs
def lcA (S:Nat→Value) (m:Nat) (xs:List Value):Array Value:=(lcL S m xs).toArray
abbrev xyL (s t:Int):List Value:=[.int .i64 (cw 0 s),.int .i64 (cw 1 s),.int .i64 (cw 2 s),.int .i64 (cw 3 s),.int .i64 (cw 0 t),.int .i64 (cw 1 t),.int .i64 (cw 2 t),.int .i64 (cw 3 t)]
theorem lcA_zero (S:Nat→Value) (xs:List Value):lcA S 0 xs=(([.slice none 0 0,.slice none 0 0,.slice none 0 0,.slice none 0 0,.slice none 0 0,.slice none 0 0,.slice none 0 0,.slice none 0 0,.slice none 0 0,.slice none 0 0,.slice none 0 0,.slice none 0 0,.slice none 0 0,.slice none 0 0,.slice none 0 0,.slice none 0 0]:List Value)++xs).toArray:=by
 unfold lcA lcL;congr 1
theorem lcA_get (S:Nat→Value) (m:Nat) (xs:List Value) (j:Nat) (h:j<16):(lcA S m xs)[j]?=some (if j<m then S j else .slice none 0 0):=by
 unfold lcA lcL
 rw [List.getElem?_toArray,List.getElem?_append_left (by simpa using h),List.getElem?_map,List.getElem?_range h];rfl
theorem lcA_up (S:Nat→Value) (m:Nat) (xs:List Value) (v:Value) (h:m<16):(lcA S m xs).setIfInBounds m v=lcA (fun j=>if j=m then v else S j) (m+1) xs:=by
 apply Array.ext_getElem?
 intro i
 rw [Array.getElem?_setIfInBounds]
 by_cases hi:i<16
 ·by_cases hm:m=i
  ·subst hm
   rw [if_pos rfl,if_pos (by unfold lcA lcL;simp;omega),lcA_get _ _ _ _ hi,if_pos (by omega),if_pos rfl]
  ·rw [if_neg hm,lcA_get _ _ _ _ hi,lcA_get _ _ _ _ hi]
   by_cases h1:i<m
   ·rw [if_pos h1,if_pos (by omega),if_neg (by omega)]
   ·rw [if_neg h1,if_neg (by omega)]
 ·rw [if_neg (by omega)]
  unfold lcA lcL
  rw [List.getElem?_toArray,List.getElem?_toArray,List.getElem?_append_right (by simp;omega),List.getElem?_append_right (by simp;omega)]
  simp
theorem ca_size:(Tryz.prog.info? 219).map (·.size)=some 24:=by kernel_rfl
abbrev zer24:Array Value:=#[.slice none 0 0,.slice none 0 0,.slice none 0 0,.slice none 0 0,.slice none 0 0,.slice none 0 0,.slice none 0 0,.slice none 0 0,.slice none 0 0,.slice none 0 0,.slice none 0 0,.slice none 0 0,.slice none 0 0,.slice none 0 0,.slice none 0 0,.slice none 0 0,.int .i64 0,.int .i64 0,.int .i64 0,.int .i64 0,.int .i64 0,.int .i64 0,.int .i64 0,.int .i64 0]
section
variable {w0 w:World} {L:List (Nat × TypeId × Array Value)} {g:Nat} {tt:TypeId} {cs:Array Value}
theorem Lie.st1 (h:Lie w0 ((g,tt,cs)::L) w) (o:Nat) (a:Value) (hB:w0.heap.size≤g) (hne:∀ x∈L,x.1≠g):Lie w0 ((g,tt,cs.setIfInBounds o a)::L) (w.setCell ⟨g,o,none⟩ a) :=
 h.set (gb_setCell (World.grownBy.refl w (some g)) (p:=⟨g,o,none⟩) (.inl rfl) a) ((show Bk w g tt cs from h.2 (g,tt,cs) (by simp)).set o a) hB hne
end
set_option maxRecDepth 100000 in
set_option maxHeartbeats 16000000 in
theorem clook_any (vw:Value) (px:Int→Int→List Int) (C:Nat) (u v:Int) (w:World) (hu:-70368744177664≤u∧u≤70368744177664) (hv:-70368744177664≤v∧v≤70368744177664)
 (hJ:∀ (w':World) (x y:Int),Below w.heap.size w w'→(-70368744177664≤x∧x≤70368744177664)→(-70368744177664≤y∧y≤70368744177664)→Calls Tryz.prog 100 #[vw,.int .i64 x,.int .i64 y] w' fun e w''=>∃ v,e=.returned v∧(∃ A n c,v=.slice A n c)∧SlP C w'.heap.size w'' v (px x y)∧Below w'.heap.size w' w'') :
 Calls Tryz.prog 161 #[.func (.func 100) #[vw] #[],.int .i64 u,.int .i64 v] w fun e w'=>∃ S:Nat→Value,e=.returned (.agg (lcA S 16 (xyL (u%65536/256) (v%65536/256))))∧(∀ j,j<16→(∃ A n c,S j=.slice A n c)∧SlP C w.heap.size w' (S j) (px (u/65536-1+(j%4:Nat)) (v/65536-1+(j/4:Nat))))∧Below w.heap.size w w':=by
 have hS1:=fun w'=>wsplit_any u w' (by omega) (by omega)
 have hS2:=fun w'=>wsplit_any v w' (by omega) (by omega)
 have hi:-1073741824≤u/65536∧u/65536≤1073741824:=by omega
 have hj:-1073741824≤v/65536∧v/65536≤1073741824:=by omega
 have hA1:=fun w'=>wCubic_any (u%65536/256) w' (by omega) (by omega)
 have hA2:=fun w'=>wCubic_any (v%65536/256) w' (by omega) (by omega)
 have s1:(u%65536) >>> 8=u%65536/256:=by rw [Int.shiftRight_eq_div_pow];rfl
 have s2:(v%65536) >>> 8=v%65536/256:=by rw [Int.shiftRight_eq_div_pow];rfl
 simp only [cb4] at hA1 hA2
 generalize u%65536=f at *
 generalize v%65536=g at *
 generalize u/65536=i at *
 generalize v/65536=q at *
 obtain ⟨s,hs⟩:∃ s,f/256=s:=⟨_,rfl⟩
 obtain ⟨t,ht⟩:∃ t,g/256=t:=⟨_,rfl⟩
 rw [hs] at hA1 s1
 rw [ht] at hA2 s2
 rw [hs,ht]
 obtain ⟨i1,hi1⟩:∃ x,i-1=x:=⟨_,rfl⟩
 obtain ⟨q1,hq1⟩:∃ x,q-1=x:=⟨_,rfl⟩
 have v1:wrap64 (i-1)=i1:=by rw [hi1];exact IntWalk.wrap64_in _ ⟨by omega,by omega⟩
 have v2:wrap64 (q-1)=q1:=by rw [hq1];exact IntWalk.wrap64_in _ ⟨by omega,by omega⟩
 rw [hi1,hq1]
 have hJ':=fun (w':World) (x y:Nat) (hx:x<4) (hy:y<4) (hb:Below w.heap.size w w')=>hJ w' (i1+x) (q1+y) hb (by omega) (by omega)
 have v3:∀ x:Nat,x<4→wrap64 (i1+x)=i1+x:=fun x hx=>IntWalk.wrap64_in _ ⟨by omega,by omega⟩
 have v4:∀ y:Nat,y<4→wrap64 (q1+y)=q1+y:=fun y hy=>IntWalk.wrap64_in _ ⟨by omega,by omega⟩
 have u1:IntKind.i64.wrap (i-1)=i1:=by rw [hi1];exact IntWalk.i64_in _ ⟨by omega,by omega⟩
 have u2:IntKind.i64.wrap (q-1)=q1:=by rw [hq1];exact IntWalk.i64_in _ ⟨by omega,by omega⟩
 have U3:Hid (∀ x:Nat,x<4→IntKind.i64.wrap (i1+x)=i1+x):=fun x hx=>IntWalk.i64_in _ ⟨by omega,by omega⟩
 have U4:Hid (∀ y:Nat,y<4→IntKind.i64.wrap (q1+y)=q1+y):=fun y hy=>IntWalk.i64_in _ ⟨by omega,by omega⟩
 have V3:=Lib.hid v3
 have V4:=Lib.hid v4
 have hL:=((Lie.start w).alloc zer24 219).alloc zer24 219
 simp only [World.size_alloc] at hL
 clear hu hv hi hj hJ hi1 hq1 v3 v4
 go_enter Tryz.func161,Tryz.ntmps161
 go_wp2_with (first
  | (go_at_call 159;(with_reducible refine (hS1 _).mono ?_);rintro e w1 ⟨rfl,rfl⟩)
  | (go_at_call 159;(with_reducible refine (hS2 _).mono ?_);rintro e w1 ⟨rfl,rfl⟩)
  | (go_at_call 222;(with_reducible refine (hA1 _).mono ?_);rintro e w1 ⟨rfl,hb1⟩;have hL1:=hL.nx hb1;have k1:Bk w1 (w.heap.size+1) 219 zer24:=hL1.k 0 (by simp);have a16:=k1.cell 16;have a17:=k1.cell 17;have a18:=k1.cell 18;have a19:=k1.cell 19;have f16:=k1.frozen 16;have f17:=k1.frozen 17;have f18:=k1.frozen 18;have f19:=k1.frozen 19;have hne:∀ x∈[(w.heap.size,(219:TypeId),zer24)],x.1≠w.heap.size+1:=(fun x hx=>by simp only [List.mem_cons,List.not_mem_nil,or_false] at hx;subst hx;simp);have hL2:=(((hL1.st1 16 (.int .i64 (cw 0 s)) (by omega) hne).st1 17 (.int .i64 (cw 1 s)) (by omega) hne).st1 18 (.int .i64 (cw 2 s)) (by omega) hne).st1 19 (.int .i64 (cw 3 s)) (by omega) hne)
  | (go_at_call 222;(with_reducible refine (hA2 _).mono ?_);rintro e w2 ⟨rfl,hb2⟩;have hL3:=hL2.nx hb2;have k3:Bk w2 (w.heap.size+1) 219 _:=hL3.k 0 (by simp);have a20:=k3.cell 20;have a21:=k3.cell 21;have a22:=k3.cell 22;have a23:=k3.cell 23;have f20:=k3.frozen 20;have f21:=k3.frozen 21;have f22:=k3.frozen 22;have f23:=k3.frozen 23;simp at a20 a21 a22 a23))
 have hL4:=(((hL3.st1 20 (.int .i64 (cw 0 t)) (by omega) hne).st1 21 (.int .i64 (cw 1 t)) (by omega) hne).st1 22 (.int .i64 (cw 2 t)) (by omega) hne).st1 23 (.int .i64 (cw 3 t)) (by omega) hne
 have e24:((((((((zer24.setIfInBounds 16 (.int .i64 (cw 0 s))).setIfInBounds 17 (.int .i64 (cw 1 s))).setIfInBounds 18 (.int .i64 (cw 2 s))).setIfInBounds 19 (.int .i64 (cw 3 s))).setIfInBounds 20 (.int .i64 (cw 0 t))).setIfInBounds 21 (.int .i64 (cw 1 t))).setIfInBounds 22 (.int .i64 (cw 2 t))).setIfInBounds 23 (.int .i64 (cw 3 t)))=lcA (fun _=>.slice none 0 0) 0 (xyL s t):=by rw [lcA_zero];simp
 rw [e24] at hL4
 clear e24 hS1 hS2 hA1 hA2 hL hL1 hL2 hL3 k1 k3 hb1 hb2 a16 a17 a18 a19 a20 a21 a22 a23 f16 f17 f18 f19 f20 f21 f22 f23 hne s1 s2 hs ht
 generalize (((w2.setCell ⟨w.heap.size+1,20,none⟩ (.int .i64 (cw 0 t))).setCell ⟨w.heap.size+1,21,none⟩ (.int .i64 (cw 1 t))).setCell ⟨w.heap.size+1,22,none⟩ (.int .i64 (cw 2 t))).setCell ⟨w.heap.size+1,23,none⟩ (.int .i64 (cw 3 t))=w5 at *
 obtain ⟨xs,hxs⟩:∃ xs,xyL s t=xs:=⟨_,rfl⟩
 have hxo:∀ v∈xs,v.oneCell'=true:=by rw [← hxs];simp [Value.oneCell']
 have hxl:xs.length=8:=by rw [← hxs];rfl
 have HX:=Lib.hid hxs
 rw [hxs] at hL4
 clear hxs
 obtain ⟨g11,hg11⟩:∃ g11,w.heap.size+1=g11:=⟨_,rfl⟩
 rw [hg11] at hL4
 simp only [hg11]
 have n11:w.heap.size<g11:=by omega
 clear hg11
 go_loopw [38] (fun iv wr=>∃ (y:Nat) (S:Nat→Value),y≤4∧iv=.int .i64 y∧(∀ j,j<y*4→(∃ A n c,S j=.slice A n c)∧SlP C (g11+1) wr (S j) (px (i1+(j%4:Nat)) (q1+(j/4:Nat))))∧Lie w [(g11,219,lcA S (y*4) xs),(w.heap.size,219,zer24)] wr) (fun iv _=>4-(intOf iv).toNat)
 case atStart=>exact ⟨0,fun _=>.slice none 0 0,by omega,rfl,fun j hj=>absurd hj (by omega),hL4⟩
 case round =>
  clear hL4
  obtain ⟨y,S0,hy,rfl,hSl0,hLi0⟩:=hrel
  by_cases hyl:y<4
  ·have hyb:decide ((y:Int)<4)=true:=decide_eq_true (by omega)
   go_wp2_with fail
   go_loopw [41] (fun iv wr=>∃ (x:Nat) (S:Nat→Value),x≤4∧iv=.int .i64 x∧(∀ j,j<y*4+x→(∃ A n c,S j=.slice A n c)∧SlP C (g11+1) wr (S j) (px (i1+(j%4:Nat)) (q1+(j/4:Nat))))∧Lie w [(g11,219,lcA S (y*4+x) xs),(w.heap.size,219,zer24)] wr) (fun iv _=>4-(intOf iv).toNat)
   case atStart=>exact ⟨0,S0,by omega,rfl,hSl0,hLi0⟩
   case round =>
    clear hSl0 hLi0
    obtain ⟨x,S,hx,rfl,hSl,hLi⟩:=hrel
    by_cases hxl4:x<4
    ·have k11:Bk wr g11 219 (lcA S (y*4+x) xs):=hLi.k 0 (by simp)
     have vx:=V3.out x hxl4
     have vy:=V4.out y hyl
     have ux:=U3.out x hxl4
     have uy:=U4.out y hyl
     have hP:=fun w' hb=>hJ' w' x y hxl4 hyl hb
     go_upto_region 12 with fail
     go_region_with (first
      | (go_at_call 100;(with_reducible refine (hP _ (by first | exact hLi.bel|exact hLi.drew.bel|exact (hLi.drewN _).bel)).mono ?_);rintro e w6 ⟨v6,rfl,⟨A6,n6,c6,rfl⟩,hS6,hb6⟩;have k6:=Bk.nx (by first | exact k11|exact k11.drew|exact k11.drewN _) hb6;have d6:=(k6.cell (y*4+x)).trans (lcA_get _ _ _ _ (by omega));have f6:=k6.frozen (y*4+x)))
     all_goals
      have hLd:Lie w [(g11,219,lcA S (y*4+x) xs),(w.heap.size,219,zer24)] w6:=by first | exact hLi.nx hb6|exact hLi.drew.nx hb6
      have hzz:g11<wr.heap.size:=k11.lt
      have hSl6:∀ j,j<y*4+x→(∃ A n c,S j=.slice A n c)∧SlP C (g11+1) w6 (S j) (px (i1+(j%4:Nat)) (q1+(j/4:Nat))):=fun j hj=>⟨(hSl j hj).1,by first | exact (hSl j hj).2.nx hb6|exact ((hSl j hj).2.keep (w':=wr.drew) (Nat.le_refl _) (fun _ _ _=>rfl)).nx hb6⟩
      have hS6':SlP C (g11+1) w6 (.slice A6 n6 c6) (px (i1+x) (q1+y)):=hS6.less (by first | exact hzz|omega)
      go_wp2_with fail
      refine ⟨⟨x+1,fun j=>if j=y*4+x then .slice A6 n6 c6 else S j,by omega,by go_num,fun j hj=>?_,?_⟩,by simp [intOf];omega⟩
      ·by_cases hjk:j=y*4+x
       ·subst hjk
        simp only [if_pos]
        rw [show (y*4+x)%4=x by omega,show (y*4+x)/4=y by omega]
        exact ⟨⟨A6,n6,c6,rfl⟩,hS6'.set (by omega) _⟩
       ·simp only [if_neg hjk]
        obtain ⟨h1,h2⟩:=hSl6 j (by omega)
        exact ⟨h1,h2.set (by omega) _⟩
      ·have:=hLd.st1 (y*4+x) (.slice A6 n6 c6) (by omega) (fun z hz=>by simp only [List.mem_cons,List.not_mem_nil,or_false] at hz;subst hz;simp;omega)
       rw [lcA_up _ _ _ _ (by omega)] at this
       exact this
    ·obtain rfl:x=4:=by omega
     go_wp2_with fail
     exact ⟨⟨y+1,S,by omega,by go_num,fun j hj=>hSl j (by omega),by rw [show (y+1)*4=y*4+4 by omega];exact hLi⟩,by simp [intOf];omega⟩
  ·obtain rfl:y=4:=by omega
   have k11:Bk wr g11 219 (lcA S0 16 xs):=hLi0.k 0 (by simp)
   have k6:Bk wr w.heap.size 219 zer24:=hLi0.k 1 (by simp)
   have hbz:=hLi0.bel
   have hsz:(lcA S0 16 xs).size=24:=by unfold lcA lcL;simp [hxl]
   have hone:(lcA S0 16 xs).all (·.oneCell')=true:=by
    unfold lcA lcL
    simp only [List.all_toArray,List.all_append,Bool.and_eq_true,List.all_map]
    refine ⟨List.all_eq_true.2 fun j hj=>?_,List.all_eq_true.2 hxo⟩
    have hj16:j<16:=by simpa using hj
    obtain ⟨A,n,c,e⟩:=(hSl0 j (by omega)).1
    simp [hj16,e,Value.oneCell']
   obtain ⟨arr,harr⟩:∃ arr,lcA S0 16 xs=arr:=⟨_,rfl⟩
   have HAR:=Lib.hid harr
   rw [harr] at k11 hsz hone
   clear harr hLi0
   go_wp2_with (first
    | (refine ldB rfl _ _ rfl k11 rfl Tryz.underlying219 rfl (by rw [hsz];exact ca_size) ?_)
    | (refine stB rfl _ _ _ rfl k6 arr rfl rfl (by rw [hsz];exact ca_size) (by rw [hsz];rfl) hone ?_;intro w6 k66 hg6 hs6))
   refine bodyPost_ret (res_cell rfl k66 rfl Tryz.underlying219 rfl (by rw [hsz];exact ca_size)) rfl ?_
   refine ⟨S0,by rw [HX.out,HAR.out],fun j hj=>⟨(hSl0 j (by omega)).1,?_⟩,below_of_gb hbz hg6 (Nat.le_refl _) hbz.size⟩
   exact ((hSl0 j (by omega)).2.gb (by omega) hg6).less (by omega)
end Go.Proofs.YtjbelhpgbcnlmaaGreat
end
